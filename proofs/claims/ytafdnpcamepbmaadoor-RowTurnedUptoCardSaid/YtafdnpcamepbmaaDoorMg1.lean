/- G1 to VI: texts of this claim, one behind the other; what each shows stands at its head. -/
import Derived.Test.YtafdnpcamepbmaaDoorAm3
import Derived.Test.YtafdnpcamepbmaaDoorMg0
/- Plain: numbers in bytes, the lowest first; walks: both ReadFixed. -/
namespace Go.Proofs.YtafdnpcamepbmaaDoor
open Go.AM
set_option linter.unusedSimpArgs false
set_option linter.unusedVariables false

/-- bytes as a number, the lowest first -/
def leV : List UInt8 → Nat
  | [] => 0
  | b :: r => b.toNat + 256 * leV r

/-- the n lowest bytes of a number -/
def leB : Nat → Nat → List UInt8
  | 0, _ => []
  | n + 1, x => UInt8.ofNat (x % 256) :: leB n (x / 256)

theorem leB_len : ∀ n x, (leB n x).length = n
  | 0, _ => rfl
  | n + 1, x => by simp [leB, leB_len n]

theorem leV_lt : ∀ l : List UInt8, leV l < 256 ^ l.length
  | [] => by simp [leV]
  | b :: r => by
    have := leV_lt r
    have := b.toNat_lt
    simp only [leV, List.length_cons, Nat.pow_succ]
    omega

theorem leV_snoc (b : UInt8) : ∀ l : List UInt8, leV (l ++ [b]) = leV l + b.toNat * 256 ^ l.length
  | [] => by simp [leV]
  | c :: r => by
    simp only [List.cons_append, leV, leV_snoc b r, List.length_cons, Nat.pow_succ, Nat.mul_add]
    rw [Nat.mul_comm (256 ^ r.length) 256, ← Nat.mul_assoc, ← Nat.mul_assoc, Nat.mul_comm 256 b.toNat]
    omega

theorem leV_leB : ∀ n x, leV (leB n x) = x % 256 ^ n
  | 0, x => by simp [leB, leV]; omega
  | n + 1, x => by
    simp only [leB, leV, leV_leB n]
    have h : (UInt8.ofNat (x % 256)).toNat = x % 256 := by simp
    rw [h, Nat.pow_succ, Nat.mul_comm (256 ^ n) 256, Nat.mod_mul]

theorem leB_snoc : ∀ n x, leB (n + 1) x = leB n x ++ [UInt8.ofNat (x / 256 ^ n % 256)]
  | 0, x => by simp [leB]
  | n + 1, x => by
    rw [leB, leB_snoc n (x / 256), leB]
    simp only [List.cons_append]
    rw [Nat.div_div_eq_div_mul, Nat.pow_succ, Nat.mul_comm]

theorem pow256 (i : Nat) : (256 : Nat) ^ i = 2 ^ (8 * i) := by rw [Nat.pow_mul]

theorem or_le {x y i : Nat} (hx : x < 256 ^ i) (hy : y < 256) (hi : i < 8) :
    IntKind.u64.wrap ((AM.bits .u64 (x : Int) ||| AM.bits .u64 (IntKind.u64.wrap ((y : Int) * 2 ^ (8 * i)))).toNat : Nat) = ((x + y * 256 ^ i : Nat) : Int) := by
  have hp : (256 : Nat) ^ i ≤ 256 ^ 7 := Nat.pow_le_pow_right (by omega) (by omega)
  have hm : y * 256 ^ i ≤ 255 * 256 ^ 7 := Nat.mul_le_mul (by omega) hp
  have hpi : ((y : Int) * 2 ^ (8 * i)) = ((y * 256 ^ i : Nat) : Int) := by rw [pow256]; simp
  have hxx : x < 18446744073709551616 := by omega
  rw [hpi, wrap_u64 (n := ((y * 256 ^ i : Nat) : Int)) (by omega) (by omega)]
  have hb : ∀ v : Nat, v < 18446744073709551616 → (AM.bits .u64 (v : Int)).toNat = v := by
    intro v hv
    unfold AM.bits
    simp [IntKind.bits]
    omega
  have e : (AM.bits .u64 (x : Int) ||| AM.bits .u64 ((y * 256 ^ i : Nat) : Int)).toNat = x + y * 256 ^ i := by
    rw [show (AM.bits .u64 (x : Int) ||| AM.bits .u64 ((y * 256 ^ i : Nat) : Int)).toNat = (AM.bits .u64 (x : Int)).toNat ||| (AM.bits .u64 ((y * 256 ^ i : Nat) : Int)).toNat by simp]
    rw [hb x hxx, hb _ (by omega), pow256, ← Nat.shiftLeft_eq, Nat.or_comm, ← Nat.shiftLeft_add_eq_or_of_lt (by rw [← pow256]; exact hx), Nat.add_comm]
  rw [e, wrap_u64 (by omega) (by omega)]

theorem take_snoc {l : List UInt8} {i : Nat} {y : UInt8} (h : l[i]? = some y) : l.take (i + 1) = l.take i ++ [y] := by
  rw [List.take_add_one, h]; rfl

/-- what a fixed number's reading tells -/
def rfR (b : List UInt8) (n : Int) : Int × Int :=
  if n < 1 ∨ 8 < n then (0, 2) else if (b.length : Int) < n then (0, 4) else ((leV (b.take n.toNat) : Nat), 0)

section
variable (T : Cf) (c : Nat) (b : List UInt8) (n : Nat)

def rfFr (i : Nat) (x : Nat) : AM.Frame := [(0, .ro c (.pb b) 1), (6, .int .u64 (x : Nat)), (18, .int .i64 (n : Nat)), (19, .int .i64 (i : Nat))]

set_option maxRecDepth 100000 in
theorem readFixed_code (n : Int) (hb : b.length < 9223372036854775808) : ∃ code, Tryd.f26.body = some code ∧
    Run X T 26 0 code [(0, .ro c (.pb b) 1), (1, .int .i64 n)] [] ⟨.ret, [(4, .int .u64 (rfR b n).1), (5, .int .i64 (rfR b n).2)], []⟩ := by
  refine ⟨_, rfl, ?_⟩
  unfold rfR
  by_cases h1 : n < 1
  · rw [if_pos (.inl h1)]
    refine ⟨0, ?_⟩
    simp (maxSteps := 2000000) -implicitDefEqProofs [-getElem?_pos, List.getElem?_cons_zero, List.getElem?_cons_succ, go_sem, eqV, plen, loadV, storeV, h1]
  by_cases h8 : 8 < n
  · rw [if_pos (.inr h8)]
    refine ⟨0, ?_⟩
    simp (maxSteps := 2000000) -implicitDefEqProofs [-getElem?_pos, List.getElem?_cons_zero, List.getElem?_cons_succ, go_sem, eqV, plen, loadV, storeV, h1, h8]
  rw [if_neg (by omega)]
  by_cases hl : (b.length : Int) < n
  · rw [if_pos hl]
    refine ⟨0, ?_⟩
    simp (maxSteps := 2000000) -implicitDefEqProofs [-getElem?_pos, List.getElem?_cons_zero, List.getElem?_cons_succ, go_sem, eqV, plen, loadV, storeV, h1, h8, hl]
  rw [if_neg hl]
  obtain ⟨n, rfl⟩ : ∃ m : Nat, n = (m : Int) := ⟨n.toNat, by omega⟩
  rw [Int.toNat_natCast]
  apply Run.seq
  · (refine ⟨0, ?_⟩; conv => lhs; simp (maxSteps := 2000000) -implicitDefEqProofs [-getElem?_pos, List.getElem?_cons_zero, List.getElem?_cons_succ, go_sem, eqV, plen, loadV, storeV])
  apply Run.seq
  · (refine ⟨0, ?_⟩; conv => lhs; simp (maxSteps := 2000000) -implicitDefEqProofs [-getElem?_pos, List.getElem?_cons_zero, List.getElem?_cons_succ, go_sem, eqV, plen, loadV, storeV, h1, h8])
  apply Run.seq
  · (refine ⟨0, ?_⟩; conv => lhs; simp (maxSteps := 2000000) -implicitDefEqProofs [-getElem?_pos, List.getElem?_cons_zero, List.getElem?_cons_succ, go_sem, eqV, plen, loadV, storeV, hl])
  apply Run.seq
  · (refine ⟨0, ?_⟩; conv => lhs; simp (maxSteps := 2000000) -implicitDefEqProofs [-getElem?_pos, List.getElem?_cons_zero, List.getElem?_cons_succ, go_sem, eqV, plen, loadV, storeV])
  apply Run.seq (fr' := rfFr c b n n (leV (b.take n)) ++ [(20, .bool false)]) (H' := [])
  · apply Run.seq (fr' := rfFr c b n 0 0) (H' := [])
    · (refine ⟨0, ?_⟩; simp (maxSteps := 2000000) -implicitDefEqProofs [-getElem?_pos, List.getElem?_cons_zero, List.getElem?_cons_succ, go_sem, eqV, plen, loadV, storeV, rfFr])
    · apply Run.block_exit
      refine Run.loop_rule (σ := Nat) (fun i => i ≤ n) (fun i => rfFr c b n i (leV (b.take i))) (fun _ => []) (fun _ => ⟨.exit 0, rfFr c b n n (leV (b.take n)) ++ [(20, .bool false)], []⟩) (fun i => n - i) ?_ 0 (Nat.zero_le _)
      intro i hi
      simp only
      by_cases hin : i = n
      · right
        refine ⟨?_, by simp⟩
        subst hin
        (refine ⟨0, ?_⟩; simp (maxSteps := 2000000) -implicitDefEqProofs [-getElem?_pos, List.getElem?_cons_zero, List.getElem?_cons_succ, go_sem, eqV, plen, loadV, storeV, rfFr])
      · left
        have hlt : i < b.length := by omega
        have hiI : (i : Int) < (n : Int) := by omega
        obtain ⟨y, hy⟩ : ∃ y, b[i]? = some y := ⟨b[i], List.getElem?_eq_getElem hlt⟩
        have hx := leV_lt (b.take i)
        rw [List.length_take, Nat.min_eq_left (by omega)] at hx
        have hor := or_le hx y.toNat_lt (show i < 8 by omega)
        have hsn := leV_snoc y (b.take i)
        rw [← take_snoc hy, List.length_take, Nat.min_eq_left (by omega)] at hsn
        rw [← hsn] at hor
        refine ⟨i + 1, by omega, ?_, trivial, by omega⟩
        have w1 : IntKind.i64.wrap ((i : Int) + 1) = ((i + 1 : Nat) : Int) := by rw [wrap_i64 (by omega) (by omega)]; omega
        have w8 : IntKind.i64.wrap (8 * (i : Int)) = ((8 * i : Nat) : Int) := by rw [wrap_i64 (by omega) (by omega)]; omega
        have wy : IntKind.u64.wrap (y.toNat : Int) = (y.toNat : Int) := wrap_u64 (by omega) (by have := y.toNat_lt; omega)
        have hm : min (8 * i) 64 = 8 * i := by omega
        have hm0 : ¬ (((8 * i : Nat) : Int) < 0) := by omega
        generalize h8i : 8 * i = i8 at *
        (refine ⟨0, ?_⟩; simp (maxSteps := 2000000) -implicitDefEqProofs [-getElem?_pos, List.getElem?_cons_zero, List.getElem?_cons_succ, go_sem, eqV, plen, loadV, storeV, rfFr, hiI, hlt, hy, w8, wy, hm, hm0, w1, IntKind.bits])
        exact hor
  refine ⟨0, ?_⟩
  simp (maxSteps := 2000000) -implicitDefEqProofs [-getElem?_pos, List.getElem?_cons_zero, List.getElem?_cons_succ, go_sem, eqV, plen, loadV, storeV, rfFr]

def rgFr (i : Nat) (x : Nat) : AM.Frame := [(0, .ro c (.pb b) 1), (1, .int .i64 (n : Nat)), (6, .int .u64 (x : Nat)), (7, .int .i64 (i : Nat))]

end

end Go.Proofs.YtafdnpcamepbmaaDoor

/- Walks: a copy of bytes; a fixed number behind bytes. -/
namespace Go.Proofs.YtafdnpcamepbmaaDoor
open Go.AM
set_option linter.unusedSimpArgs false
set_option linter.unusedVariables false

/-- an empty slice of bytes -/
def nilB : AM.Obj := ⟨.pb [], 0, .none, 0, true, false, 0⟩
theorem nilB_rw : Rw (.pb []) 0 nilB := ⟨rfl, rfl, rfl, rfl, rfl⟩
theorem emB : rowOf (emptyRow X 5) .none 0 = nilB := by simp [emptyRow, rowOf, nilB]

theorem app_b {H : AM.Heap} {o g : Nat} {ob : AM.Obj} {l m : List UInt8} {src : AV} (ho : H[o]? = some (some ob)) (h : Rw (.pb l) g ob) (hsrc : srcV H src = some (.pb m, 0) ∨ (srcV H src = some (.pn, 0) ∧ m = [])) (hn : l.length + m.length ≤ 100000000) :
    ∃ ob', Rw (.pb (l ++ m)) (g + 1) ob' ∧ appendV X H 29 (.sl o 0 l.length g) src = some (.sl o 0 (l.length + m.length) (g + 1), upd H o (some ob')) :=
  app_rw (by simp) (und5) (by simp) (by simp) (by simp) ho h hsrc hn

/-- onto an empty literal -/
theorem app_lit {H : AM.Heap} {m : List UInt8} {src : AV} (hsrc : srcV H src = some (.pb m, 0) ∨ (srcV H src = some (.pn, 0) ∧ m = [])) (hn : m.length ≤ 100000000) :
    appendV X H 29 (.ro 1 (.pb []) 0) src = some (.sl H.length 0 m.length 0, H ++ [some ⟨.pb m, 0, .none, 1, true, false, 0⟩]) := by
  have hroom : roomOk X 5 m.length = true := by simp [roomOk]; omega
  simp only [appendV, und29, size5, zok5]
  rcases hsrc with h | ⟨h, rfl⟩
  · simp [h, payB, plen, hroom, papp, emptyRow, pesz]
  · simp only [List.length_nil] at hroom
    simp [h, payB, plen, hroom, papp, emptyRow, pesz]

theorem srcB {H : AM.Heap} {c t : Nat} {p : AV} {l : List UInt8} (hp : PB p l) : srcV H (.ro c p t) = some (.pb l, 0) ∨ (srcV H (.ro c p t) = some (.pn, 0) ∧ l = []) := by
  rcases hp with rfl | ⟨rfl, rfl⟩
  · left; rfl
  · right; exact ⟨rfl, rfl⟩

theorem bs0 (H : AM.Heap) : buildSliceV X H 29 0 [] = some (.ro 1 (.pb []) 0, H) := by kernel_rfl

theorem coB {p : AV} {b : List UInt8} {c t : Nat} {r : List AV} {ts : List TypeId} (hp : PB p b) : coerce X (.ro c p t :: r) (29 :: ts) = .ro c (.pb b) t :: coerce X r ts := by
  rcases hp with rfl | ⟨rfl, rfl⟩
  · simp [coerce]
  · simp [coerce, emptyRow]

section
variable (T : Cf) (c : Nat) (b : List UInt8)

set_option maxRecDepth 100000 in
theorem clone_code (hc : c = 0 → b = []) (hb : b.length ≤ 100000000) : ∃ code, Tryd.f20.body = some code ∧
    Tells (Rets fun fr H => ∃ o g ob, getF fr 2 = .sl o 0 b.length g ∧ H[o]? = some (some ob) ∧ Rw (.pb b) g ob) X T 20 0 code [(0, .ro c (.pb b) 1)] [] := by
  refine ⟨_, rfl, ?_⟩
  by_cases h0 : c = 0
  · have hbn := hc h0
    subst hbn
    subst h0
    refine Tells.of (o := ⟨.ret, [(2, .sl 1 0 0 0)], [some nilB, some nilB]⟩) ?_ ⟨rfl, 1, 0, nilB, rfl, rfl, nilB_rw⟩
    refine ⟨0, ?_⟩
    simp (maxSteps := 2000000) -implicitDefEqProofs [-getElem?_pos, List.getElem?_cons_zero, List.getElem?_cons_succ, go_sem, eqV, plen, loadV, storeV, assignV, emB, isNil, nilFor]
  · have hA := app_lit (H := [some nilB]) (srcB (H := [some nilB]) (c := c) (t := 1) (.inl rfl)) hb
    refine Tells.of (o := ⟨.ret, [(2, .sl 1 0 b.length 0)], [some nilB, some ⟨.pb b, 0, .none, 1, true, false, 0⟩]⟩) ?_ ⟨rfl, 1, 0, _, rfl, rfl, ⟨rfl, rfl, rfl, rfl, rfl⟩⟩
    refine ⟨0, ?_⟩
    simp (maxSteps := 2000000) -implicitDefEqProofs [-getElem?_pos, List.getElem?_cons_zero, List.getElem?_cons_succ, go_sem, eqV, plen, loadV, storeV, assignV, emB, isNil, nilFor, h0, bs0, hA]

end

theorem clone_ev {H : AM.Heap} {a : AV} {b : List UInt8} (h : Byt H a b) (hb : b.length ≤ 100000000) : ∃ ob, Rw (.pb b) 0 ob ∧ evT X 20 [a] H = some (.sl H.length 0 b.length 0, H ++ [some ob]) := by
  obtain ⟨c, p, x, hp, hc, hx⟩ := args_byt (C := X) (f := 20) (i := 0) rfl h (args_nil 1)
  obtain ⟨code, hcode, hr⟩ := clone_code (evT X) c b hc hb
  obtain ⟨ob, h1, h2⟩ := Ev1.newB (H := H) (n := b.length) (l := b) (rest := []) (evT_below X) Tryd.func20 hcode hx (by simp [idsL, ids, hp.ids]) (by simp [gtag]) rfl rfl rfl (by
    obtain ⟨o, ⟨he, o1, g, ob, q1, q2, q3⟩, hrun⟩ := hr
    exact ⟨o, ⟨he, o1, g, ob, congrArg (fun v => some [v]) q1, q2, q3⟩, by rw [par20, coB hp]; exact hrun⟩)
  exact ⟨ob, h1, evT_eq h2⟩

theorem bs1 (H : AM.Heap) (y : UInt8) : buildSliceV X H 29 1 [(0, .int .u8 (y.toNat : Nat))] = some (.ro 1 (.pb [y]) 0, H) := by
  have := y.toNat_lt
  have h1 : (y.toNat : Int) < 256 := by omega
  simp [buildSliceV, setParts, litRow, mkRow, asBytes, cellsAV, cellsOf, scalars, scalar, idsL, ids, tagsL, tags, joinTags, h1]

theorem shr_u64 {x i : Nat} (hi : i < 8) : Int.fdiv (x : Int) (2 ^ (min (8 * i) 64)) = ((x / 256 ^ i : Nat) : Int) := by
  rw [Nat.min_eq_left (by omega), pow256]
  rw [show ((2 : Int) ^ (8 * i)) = ((2 ^ (8 * i) : Nat) : Int) by simp]
  rw [Int.fdiv_eq_ediv_of_nonneg _ (Int.natCast_nonneg _)]
  exact (Int.natCast_ediv _ _).symm

theorem wrap_byte (z : Nat) : IntKind.u8.wrap (z : Int) = ((UInt8.ofNat (z % 256)).toNat : Nat) := by
  have : (UInt8.ofNat (z % 256)).toNat = z % 256 := by simp
  rw [this]
  unfold IntKind.wrap
  simp [IntKind.signed, IntKind.bits]

section
variable (c : Nat) (b : List UInt8) (x n : Nat)

def afFr (i : Nat) : AM.Frame := [(1, .int .u64 (x : Nat)), (8, .sl 1 0 (b.length + i) i), (29, .int .i64 (n : Nat)), (30, .int .i64 (i : Nat))]

set_option maxRecDepth 100000 in
theorem af_code (hc : c = 0 → b = []) (hb : b.length ≤ 90000000) (h1 : 1 ≤ n) (h8 : n ≤ 8) (hx : x < 256 ^ n) : ∃ code, Tryd.f52.body = some code ∧
    Tells (Rets fun fr H => ∃ o g ob, getF fr 6 = .sl o 0 (b.length + n) g ∧ getF fr 7 = .int .i64 0 ∧ H[o]? = some (some ob) ∧ Rw (.pb (b ++ leB n x)) g ob) X (evT X) 52 0 code [(0, .ro c (.pb b) 1), (1, .int .u64 (x : Nat)), (2, .int .i64 (n : Nat))] [] := by
  refine ⟨_, rfl, ?_⟩
  obtain ⟨ob0, hw0, hC⟩ := clone_ev (H := [some nilB]) (a := .ro c (.pb b) 1) (b := b) (Byt.ro (.inl rfl) hc) (by omega)
  have g1 : ¬ (n : Int) < 1 := by omega
  have g8 : ¬ (8 : Int) < (n : Int) := by omega
  have hz : (n : Int) < 8 → Int.fdiv (x : Int) (2 ^ (min (8 * n) 64)) = 0 := by
    intro h
    rw [shr_u64 (by omega), Nat.div_eq_of_lt hx]; rfl
  have w8 : IntKind.i64.wrap (8 * (n : Int)) = ((8 * n : Nat) : Int) := by rw [wrap_i64 (by omega) (by omega)]; omega
  have hn0 : ¬ (((8 * n : Nat) : Int) < 0) := by omega
  have hmb : IntKind.u64.bits = 64 := rfl
  apply Tells.seq
  · (refine ⟨0, ?_⟩; conv => lhs; simp (maxSteps := 2000000) -implicitDefEqProofs [-getElem?_pos, List.getElem?_cons_zero, List.getElem?_cons_succ, go_sem, eqV, plen, loadV, storeV, assignV, emB])
  apply Tells.seq (fr' := [(0, .ro c (.pb b) 1), (1, .int .u64 (x : Nat)), (2, .int .i64 (n : Nat)), (26, .bool false)]) (H' := [some nilB])
  · by_cases h : (n : Int) < 8
    · have hz := hz h
      generalize 8 * n = n8 at *
      (refine ⟨0, ?_⟩; simp (maxSteps := 2000000) -implicitDefEqProofs [-getElem?_pos, List.getElem?_cons_zero, List.getElem?_cons_succ, go_sem, eqV, plen, loadV, storeV, g1, g8, h, hz, w8, hn0, hmb])
    · (refine ⟨0, ?_⟩; simp (maxSteps := 2000000) -implicitDefEqProofs [-getElem?_pos, List.getElem?_cons_zero, List.getElem?_cons_succ, go_sem, eqV, plen, loadV, storeV, g1, g8, h, hz, w8, hn0, hmb])
  apply Tells.seq (fr' := [(1, .int .u64 (x : Nat)), (2, .int .i64 (n : Nat)), (8, .sl 1 0 b.length 0)]) (H' := [some nilB, some ob0])
  · (refine ⟨0, ?_⟩; simp (maxSteps := 2000000) -implicitDefEqProofs [-getElem?_pos, List.getElem?_cons_zero, List.getElem?_cons_succ, go_sem, eqV, plen, loadV, storeV, hC, assignV])
  apply Tells.andThen (P := fun fr H => ∃ ob, Rw (.pb (b ++ leB n x)) n ob ∧ fr = afFr b x n n ++ [(31, .bool false)] ∧ H = [some nilB, some ob])
  · apply Tells.seq (fr' := afFr b x n 0) (H' := [some nilB, some ob0])
    · (refine ⟨0, ?_⟩; simp (maxSteps := 2000000) -implicitDefEqProofs [-getElem?_pos, List.getElem?_cons_zero, List.getElem?_cons_succ, go_sem, eqV, plen, loadV, storeV, afFr])
    apply Tells.block
    refine Tells.loop (σ := Nat × AM.Obj) (fun s => s.1 ≤ n ∧ Rw (.pb (b ++ leB s.1 x)) s.1 s.2) (fun s => afFr b x n s.1) (fun s => [some nilB, some s.2]) (fun s => n - s.1) ?_ (0, ob0) ⟨by simp, by simpa [leB] using hw0⟩
    rintro ⟨i, ob⟩ ⟨hi, hw⟩
    simp only at hi hw ⊢
    by_cases hin : i = n
    · right
      subst hin
      refine ⟨⟨.exit 0, afFr b x i i ++ [(31, .bool false)], [some nilB, some ob]⟩, ⟨rfl, ob, hw, rfl, rfl⟩, by simp, ?_⟩
      (refine ⟨0, ?_⟩; simp (maxSteps := 2000000) -implicitDefEqProofs [-getElem?_pos, List.getElem?_cons_zero, List.getElem?_cons_succ, go_sem, eqV, plen, loadV, storeV, afFr])
    · left
      have hlt : i < 8 := by omega
      have hiI : (i : Int) < (n : Int) := by omega
      have w1 : IntKind.i64.wrap ((i : Int) + 1) = ((i + 1 : Nat) : Int) := by rw [wrap_i64 (by omega) (by omega)]; omega
      have w8 : IntKind.i64.wrap (8 * (i : Int)) = ((8 * i : Nat) : Int) := by rw [wrap_i64 (by omega) (by omega)]; omega
      have hn0 : ¬ (((8 * i : Nat) : Int) < 0) := by omega
      have hsh := shr_u64 (x := x) hlt
      have hlen := leB_len i x
      obtain ⟨ob', hw', hA⟩ := app_b (H := [some nilB, some ob]) (o := 1) (src := .ro 1 (.pb [UInt8.ofNat (x / 256 ^ i % 256)]) 0) rfl hw (.inl rfl) (by simp [hlen]; omega)
      rw [List.append_assoc, ← leB_snoc] at hw'
      simp only [List.length_append, hlen, List.length_cons, List.length_nil] at hA
      refine ⟨(i + 1, ob'), ⟨by simp only; omega, hw'⟩, ?_, by simp only; omega⟩
      have hwb := wrap_byte (x / 256 ^ i)
      have hbs := fun H => bs1 H (UInt8.ofNat (x / 256 ^ i % 256))
      generalize x / 256 ^ i = z at *
      generalize UInt8.ofNat (z % 256) = y at *
      generalize 8 * i = i8 at *
      (refine ⟨0, ?_⟩; simp (maxSteps := 2000000) -implicitDefEqProofs [-getElem?_pos, List.getElem?_cons_zero, List.getElem?_cons_succ, go_sem, eqV, plen, loadV, storeV, afFr, hiI, w1, w8, hn0, hmb, hsh, hwb, hbs, hA, upd])
      omega
  · rintro fr H ⟨ob, hw, rfl, rfl⟩
    refine Tells.of (o := ⟨.ret, [(6, .sl 1 0 (b.length + n) n), (7, .int .i64 0)], [some nilB, some ob]⟩) ?_ ⟨rfl, 1, n, ob, rfl, rfl, rfl, hw⟩
    refine ⟨0, ?_⟩
    simp (maxSteps := 2000000) -implicitDefEqProofs [-getElem?_pos, List.getElem?_cons_zero, List.getElem?_cons_succ, go_sem, eqV, plen, loadV, storeV, afFr, assignV]

end

theorem af_ev {H : AM.Heap} {a : AV} {b : List UInt8} {x n : Nat} (h : Byt H a b) (hb : b.length ≤ 90000000) (h1 : 1 ≤ n) (h8 : n ≤ 8) (hx : x < 256 ^ n) :
    ∃ ob, Rw (.pb (b ++ leB n x)) 0 ob ∧ evT X 52 [a, .int .u64 (x : Nat), .int .i64 (n : Nat)] H = some (.tup [.sl H.length 0 (b.length + n) 0, .int .i64 0], H ++ [some ob]) := by
  obtain ⟨c, p, xl, hp, hc, hx'⟩ := args_byt (C := X) (f := 52) (i := 0) rfl h (args_flat (i := 1) (a := .int .u64 (x : Nat)) rfl rfl (args_flat (i := 2) (a := .int .i64 (n : Nat)) rfl rfl (args_nil 3)))
  obtain ⟨code, hcode, hr⟩ := af_code c b x n hc hb h1 h8 hx
  obtain ⟨ob, q1, q2⟩ := Ev1.newB (H := H) (n := b.length + n) (l := b ++ leB n x) (rest := [.int .i64 0]) (evT_below X) Tryd.func52 hcode hx' (by simp [idsL, ids, hp.ids]) (by simp [gtag]) rfl rfl rfl (by
    obtain ⟨o, ⟨he, o1, g, ob, q1, q2, q3, q4⟩, hrun⟩ := hr
    exact ⟨o, ⟨he, o1, g, ob, by show some [getF o.fr 6, getF o.fr 7] = _; rw [q1, q2], q3, q4⟩, by rw [par52, coB hp]; exact hrun⟩)
  exact ⟨ob, q1, evT_eq q2⟩

end Go.Proofs.YtafdnpcamepbmaaDoor

/- Walks: counted numbers and texts, read. -/
namespace Go.Proofs.YtafdnpcamepbmaaDoor
open Go.AM
set_option linter.unusedSimpArgs false
set_option linter.unusedVariables false

/-- a counted number's size -/
def szI (x : Nat) : Nat := if x ≤ 250 then 1 else if x < 65536 then 3 else if x < 16777216 then 4 else 9
/-- its first byte, none for a short one; the bytes behind -/
def frm (x : Nat) : Nat × Nat := if x ≤ 250 then (0, 1) else if x < 65536 then (252, 2) else if x < 16777216 then (253, 3) else (254, 8)
/-- how many bytes stand behind a first byte -/
def bsz (h : Nat) : Nat := if h = 254 then 8 else h - 250
theorem bsz_le {h : Nat} (h1 : ¬ (h = 251 ∨ h = 255)) (h2 : ¬ h ≤ 250) (h3 : h < 256) : 1 ≤ bsz h ∧ bsz h ≤ 8 := by
  unfold bsz; split <;> omega
/-- a counted number read: its value, its size, the error -/
def rdI (b : List UInt8) : Nat × Nat × Int :=
  match b with
  | [] => (0, 0, 4)
  | h :: t =>
    if h.toNat = 251 ∨ h.toNat = 255 then (0, 0, 5) else if h.toNat ≤ 250 then (h.toNat, 1, 0)
    else if t.length < bsz h.toNat then (0, 0, 4) else (leV (t.take (bsz h.toNat)), bsz h.toNat + 1, 0)
/-- a counted text read -/
def rdT (b : List UInt8) : List UInt8 × Nat × Int :=
  if (rdI b).2.2 ≠ 0 then ([], 0, (rdI b).2.2) else if b.length - (rdI b).2.1 < (rdI b).1 then ([], 0, 4) else ((b.drop (rdI b).2.1).take (rdI b).1, (rdI b).2.1 + (rdI b).1, 0)

theorem rdI_le {b : List UInt8} (h : (rdI b).2.2 = 0) : (rdI b).2.1 ≤ b.length ∧ 1 ≤ (rdI b).2.1 := by
  unfold rdI at h ⊢
  match b with
  | [] => simp at h
  | y :: t =>
    simp only at h ⊢
    by_cases h1 : y.toNat = 251 ∨ y.toNat = 255
    · rw [if_pos h1] at h; simp at h
    · rw [if_neg h1] at h ⊢
      by_cases h2 : y.toNat ≤ 250
      · rw [if_pos h2]; simp
      · rw [if_neg h2] at h ⊢
        generalize bsz y.toNat = n at *
        by_cases h3 : t.length < n
        · rw [if_pos h3] at h; simp at h
        · rw [if_neg h3]
          simp only [List.length_cons]; omega

theorem rdI_lt (b : List UInt8) : (rdI b).1 < 18446744073709551616 := by
  unfold rdI
  match b with
  | [] => simp
  | y :: t =>
    simp only
    have hy := y.toNat_lt
    by_cases h1 : y.toNat = 251 ∨ y.toNat = 255
    · rw [if_pos h1]; simp
    · rw [if_neg h1]
      by_cases h2 : y.toNat ≤ 250
      · rw [if_pos h2]; simp only; omega
      · rw [if_neg h2]
        have hb := (bsz_le h1 h2 hy).2
        generalize bsz y.toNat = n at *
        by_cases h3 : t.length < n
        · rw [if_pos h3]; simp
        · rw [if_neg h3]
          have h4 := leV_lt (t.take n)
          have h5 : (t.take n).length ≤ 8 := by rw [List.length_take]; omega
          have h6 : 256 ^ (t.take n).length ≤ 256 ^ 8 := Nat.pow_le_pow_right (by omega) h5
          exact Nat.lt_of_lt_of_le h4 h6

theorem rdT_le {b : List UInt8} (h : (rdT b).2.2 = 0) : (rdT b).2.1 ≤ b.length ∧ (rdT b).1.length ≤ b.length := by
  unfold rdT at h ⊢
  split
  · rename_i h1; rw [if_pos h1] at h; exact absurd h h1
  · rename_i h1
    rw [if_neg h1] at h
    simp only [ne_eq, Decidable.not_not] at h1
    have := rdI_le h1
    split
    · rename_i h2; rw [if_pos h2] at h; simp at h
    · simp only [List.length_take, List.length_drop]; omega

section
variable (c : Nat) (b : List UInt8) (x : Nat)

theorem condT {C : Ctx} {T : Cf} {f m : Nat} {fr : AM.Frame} {H : AM.Heap} {o : AM.Out} {c : Operand} {a b : Code} (hc : evalO C fr c = .bool true) (h : Run C T f m a fr H o) : Run C T f m (.cond c a b) fr H o :=
  Run.cond hc (by rw [if_pos rfl]; exact h)

theorem condF {C : Ctx} {T : Cf} {f m : Nat} {fr : AM.Frame} {H : AM.Heap} {o : AM.Out} {c : Operand} {a b : Code} (hc : evalO C fr c = .bool false) (h : Run C T f m b fr H o) : Run C T f m (.cond c a b) fr H o :=
  Run.cond hc (by rw [if_neg (by simp)]; exact h)

set_option maxRecDepth 100000 in
theorem form_code : ∃ code, Tryd.f51.body = some code ∧
    Run X (evT X) 51 0 code [(0, .int .u64 (x : Nat))] [] ⟨.ret, [(2, .int .u8 ((frm x).1 : Nat)), (3, .int .i64 ((frm x).2 : Nat))], []⟩ := by
  refine ⟨_, rfl, 0, ?_⟩
  unfold frm
  by_cases h1 : x ≤ 250
  · have h1i : (x : Int) ≤ 250 := by omega
    simp (maxSteps := 2000000) -implicitDefEqProofs [-getElem?_pos, List.getElem?_cons_zero, List.getElem?_cons_succ, go_sem, eqV, plen, loadV, storeV, h1, h1i]
  · have h1i : ¬ (x : Int) ≤ 250 := by omega
    by_cases h2 : x < 65536
    · have h2i : (x : Int) < 65536 := by omega
      simp (maxSteps := 2000000) -implicitDefEqProofs [-getElem?_pos, List.getElem?_cons_zero, List.getElem?_cons_succ, go_sem, eqV, plen, loadV, storeV, h1, h1i, h2, h2i]
    · have h2i : ¬ (x : Int) < 65536 := by omega
      by_cases h3 : x < 16777216
      · have h3i : (x : Int) < 16777216 := by omega
        simp (maxSteps := 2000000) -implicitDefEqProofs [-getElem?_pos, List.getElem?_cons_zero, List.getElem?_cons_succ, go_sem, eqV, plen, loadV, storeV, h1, h1i, h2, h2i, h3, h3i]
      · have h3i : ¬ (x : Int) < 16777216 := by omega
        simp (maxSteps := 2000000) -implicitDefEqProofs [-getElem?_pos, List.getElem?_cons_zero, List.getElem?_cons_succ, go_sem, eqV, plen, loadV, storeV, h1, h1i, h2, h2i, h3, h3i]

end

theorem form_ev (x : Nat) (H : AM.Heap) : evT X 51 [.int .u64 (x : Nat)] H = some (.tup [.int .u8 ((frm x).1 : Nat), .int .i64 ((frm x).2 : Nat)], H) := by
  obtain ⟨code, hcode, hr⟩ := form_code x
  exact evT_eq (Ev1.toldP (l := [.int .u8 ((frm x).1 : Nat), .int .i64 ((frm x).2 : Nat)]) (evT_below X) Tryd.func51 hcode (args_flat (i := 0) rfl rfl (args_nil 1)) rfl (by simp [gtag]) rfl rfl rfl ⟨_, ⟨rfl, rfl⟩, hr⟩)

section
variable (c : Nat) (b : List UInt8) (x : Nat)

end

end Go.Proofs.YtafdnpcamepbmaaDoor

/- Walks: counted numbers, read. -/
namespace Go.Proofs.YtafdnpcamepbmaaDoor
open Go.AM
set_option linter.unusedSimpArgs false
set_option linter.unusedVariables false

theorem rf0_ev {H : AM.Heap} {a : AV} {b : List UInt8} {n : Nat} (h : Byt H a b) (hb : b.length ≤ 90000000) :
    evT X 26 [a, .int .i64 (n : Nat)] H = some (.tup [.int .u64 (rfR b n).1, .int .i64 (rfR b n).2], H) := by
  obtain ⟨c, p, xl, hp, hc, hx'⟩ := args_byt (C := X) (f := 26) (i := 0) rfl h (args_flat (i := 1) (a := .int .i64 (n : Nat)) rfl rfl (args_nil 2))
  obtain ⟨code, hcode, hr⟩ := readFixed_code (evT X) c b n (by omega)
  refine evT_eq (Ev1.toldP (l := [.int .u64 (rfR b n).1, .int .i64 (rfR b n).2]) (evT_below X) Tryd.func26 hcode hx' (by simp [idsL, ids, hp.ids]) (by simp [gtag]) rfl rfl rfl ?_)
  rw [par26, coB hp]
  exact ⟨_, ⟨rfl, rfl⟩, hr⟩

theorem slFrom0 {c t n : Nat} {b : List UInt8} (hc : c = 0 → b = []) (hn : n ≤ b.length) (H : AM.Heap) : sliceV X H 29 (.ro c (.pb b) t) (some (.int .i64 (n : Nat))) none = some (.ro c (.pb (b.drop n)) t) := by
  have hcc : (if c = 0 then 0 else c) = c := by split <;> omega
  have hnl : (n : Int) ≤ (b.length : Int) := by omega
  have hle : n + (b.length - n) ≤ b.length := by omega
  have ht : List.take (b.length - n) (b.drop n) = b.drop n := by rw [List.take_of_length_le (by simp)]
  simp [sliceV, bound, plen, pesz, psub, hnl, hcc, hle, ht]

/-- what is read of a first byte that has n behind it -/
def rdN' (t : List UInt8) (n : Nat) : Nat × Nat × Int := if t.length < n then (0, 0, 4) else (leV (t.take n), n + 1, 0)

theorem rdI_cons (y : UInt8) (t : List UInt8) : rdI (y :: t) = if y.toNat = 251 ∨ y.toNat = 255 then (0, 0, 5) else if y.toNat ≤ 250 then (y.toNat, 1, 0) else rdN' t (bsz y.toNat) := rfl

theorem beq_f {a : Nat} {n : Int} (h : (a : Int) ≠ n) : ((a : Int) == n) = false := by simpa using h

section
variable (c : Nat) (b : List UInt8)

set_option maxRecDepth 100000 in
theorem readInt_code (hc : c = 0 → b = []) (hb : b.length ≤ 90000000) : ∃ code, Tryd.f35.body = some code ∧
    Run X (evT X) 35 0 code [(0, .ro c (.pb b) 1)] [] ⟨.ret, [(2, .int .u64 ((rdI b).1 : Nat)), (3, .int .i64 ((rdI b).2.1 : Nat)), (4, .int .i64 (rdI b).2.2)], []⟩ := by
  refine ⟨_, rfl, ?_⟩
  match b with
  | [] =>
    refine ⟨0, ?_⟩
    simp (maxSteps := 2000000) -implicitDefEqProofs [-getElem?_pos, List.getElem?_cons_zero, List.getElem?_cons_succ, go_sem, eqV, plen, loadV, storeV, rdI]
  | y :: t =>
    rw [rdI_cons]
    have hy : (y :: t)[0]? = some y := rfl
    have hl : 0 < (y :: t).length := by simp
    have hl0 : ¬ (y :: t).length = 0 := by simp
    have hsl := fun H => slFrom0 (t := 1) hc (show 1 ≤ (y :: t).length by simp) H
    have hbt : ∀ n : Nat, evT X 26 [.ro c (.pb t) 1, .int .i64 (n : Nat)] [] = some (.tup [.int .u64 (rfR t n).1, .int .i64 (rfR t n).2], []) := fun n => rf0_ev (Byt.ro (.inl rfl) (fun h => by have := hc h; simp at this)) (by simp at hb; omega)
    simp only [List.drop_succ_cons, List.drop_zero, Int.cast_ofNat_Int] at hsl
    have hyl := y.toNat_lt
    have key : ∀ n : Nat, 1 ≤ n → n ≤ 8 → rfR t n = ((((rdN' t n).1 : Nat) : Int), (rdN' t n).2.2) ∧ ((rdN' t n).2.2 = 0 ∧ (rdN' t n).2.1 = n + 1 ∨ (rdN' t n).2.2 = 4 ∧ (rdN' t n).2.1 = 0 ∧ (rdN' t n).1 = 0) := by
      intro n h1 h8
      unfold rfR rdN'
      rw [if_neg (by omega)]
      by_cases h : t.length < n
      · rw [if_pos (by omega), if_pos h]; exact ⟨rfl, .inr ⟨rfl, rfl, rfl⟩⟩
      · rw [if_neg (by omega), if_neg h, Int.toNat_natCast]; exact ⟨rfl, .inl ⟨rfl, rfl⟩⟩
    have wy : IntKind.u64.wrap (y.toNat : Int) = (y.toNat : Int) := wrap_u64 (by omega) (by omega)
    by_cases h1 : y.toNat = 251
    · rw [if_pos (.inl h1)]
      generalize y :: t = l at *
      refine ⟨0, ?_⟩
      simp (maxSteps := 2000000) -implicitDefEqProofs [-getElem?_pos, List.getElem?_cons_zero, List.getElem?_cons_succ, go_sem, eqV, plen, loadV, storeV, hy, hl, hl0, h1]
    by_cases h2 : y.toNat = 255
    · rw [if_pos (.inr h2)]
      generalize y :: t = l at *
      refine ⟨0, ?_⟩
      simp (maxSteps := 2000000) -implicitDefEqProofs [-getElem?_pos, List.getElem?_cons_zero, List.getElem?_cons_succ, go_sem, eqV, plen, loadV, storeV, hy, hl, hl0, h2]
    rw [if_neg (by omega)]
    by_cases h3 : y.toNat ≤ 250
    · rw [if_pos h3]
      have e1 : (y.toNat : Int) ≠ 251 := by omega
      have e2 : (y.toNat : Int) ≠ 252 := by omega
      have e3 : (y.toNat : Int) ≠ 253 := by omega
      have e4 : (y.toNat : Int) ≠ 254 := by omega
      have e5 : (y.toNat : Int) ≠ 255 := by omega
      have f1 := beq_f e1
      have f2 := beq_f e2
      have f3 := beq_f e3
      have f4 := beq_f e4
      have f5 := beq_f e5
      generalize y :: t = l at *
      refine ⟨0, ?_⟩
      simp (maxSteps := 2000000) -implicitDefEqProofs [-getElem?_pos, List.getElem?_cons_zero, List.getElem?_cons_succ, go_sem, eqV, plen, loadV, storeV, hy, hl, hl0, e1, e2, e3, e4, e5, f1, f2, f3, f4, f5, wy]
    rw [if_neg h3]
    have hcases : y.toNat = 252 ∨ y.toNat = 253 ∨ y.toNat = 254 := by omega
    rcases hcases with h | h | h
    · have hk := key 2 (by omega) (by omega)
      have hB := hbt 2
      have hz : bsz y.toNat = 2 := by rw [h]; rfl
      rw [hz]
      rw [hk.1] at hB
      generalize y :: t = l at *
      rcases hk.2 with ⟨q1, q2⟩ | ⟨q1, q2, q3⟩
      · refine ⟨0, ?_⟩
        rw [q1] at hB
        simp only [Int.cast_ofNat_Int] at hB
        simp (maxSteps := 2000000) -implicitDefEqProofs [-getElem?_pos, List.getElem?_cons_zero, List.getElem?_cons_succ, go_sem, eqV, plen, loadV, storeV, hy, hl, hl0, h, hsl, hB, q1, q2, IntKind.wrap, IntKind.bits, IntKind.signed]
      · refine ⟨0, ?_⟩
        rw [q1] at hB
        simp only [Int.cast_ofNat_Int] at hB
        simp (maxSteps := 2000000) -implicitDefEqProofs [-getElem?_pos, List.getElem?_cons_zero, List.getElem?_cons_succ, go_sem, eqV, plen, loadV, storeV, hy, hl, hl0, h, hsl, hB, q1, q2, q3]
    · have hk := key 3 (by omega) (by omega)
      have hB := hbt 3
      have hz : bsz y.toNat = 3 := by rw [h]; rfl
      rw [hz]
      rw [hk.1] at hB
      generalize y :: t = l at *
      rcases hk.2 with ⟨q1, q2⟩ | ⟨q1, q2, q3⟩
      · refine ⟨0, ?_⟩
        rw [q1] at hB
        simp only [Int.cast_ofNat_Int] at hB
        simp (maxSteps := 2000000) -implicitDefEqProofs [-getElem?_pos, List.getElem?_cons_zero, List.getElem?_cons_succ, go_sem, eqV, plen, loadV, storeV, hy, hl, hl0, h, hsl, hB, q1, q2, IntKind.wrap, IntKind.bits, IntKind.signed]
      · refine ⟨0, ?_⟩
        rw [q1] at hB
        simp only [Int.cast_ofNat_Int] at hB
        simp (maxSteps := 2000000) -implicitDefEqProofs [-getElem?_pos, List.getElem?_cons_zero, List.getElem?_cons_succ, go_sem, eqV, plen, loadV, storeV, hy, hl, hl0, h, hsl, hB, q1, q2, q3]
    · have hk := key 8 (by omega) (by omega)
      have hB := hbt 8
      have hz : bsz y.toNat = 8 := by rw [h]; rfl
      rw [hz]
      rw [hk.1] at hB
      generalize y :: t = l at *
      rcases hk.2 with ⟨q1, q2⟩ | ⟨q1, q2, q3⟩
      · refine ⟨0, ?_⟩
        rw [q1] at hB
        simp only [Int.cast_ofNat_Int] at hB
        simp (maxSteps := 2000000) -implicitDefEqProofs [-getElem?_pos, List.getElem?_cons_zero, List.getElem?_cons_succ, go_sem, eqV, plen, loadV, storeV, hy, hl, hl0, h, hsl, hB, q1, q2, IntKind.wrap, IntKind.bits, IntKind.signed]
      · refine ⟨0, ?_⟩
        rw [q1] at hB
        simp only [Int.cast_ofNat_Int] at hB
        simp (maxSteps := 2000000) -implicitDefEqProofs [-getElem?_pos, List.getElem?_cons_zero, List.getElem?_cons_succ, go_sem, eqV, plen, loadV, storeV, hy, hl, hl0, h, hsl, hB, q1, q2, q3]

end

theorem readInt_ev {H : AM.Heap} {a : AV} {b : List UInt8} (h : Byt H a b) (hb : b.length ≤ 90000000) :
    evT X 35 [a] H = some (.tup [.int .u64 ((rdI b).1 : Nat), .int .i64 ((rdI b).2.1 : Nat), .int .i64 (rdI b).2.2], H) := by
  obtain ⟨c, p, xl, hp, hc, hx'⟩ := args_byt (C := X) (f := 35) (i := 0) rfl h (args_nil 1)
  obtain ⟨code, hcode, hr⟩ := readInt_code c b hc hb
  refine evT_eq (Ev1.toldP (l := [.int .u64 ((rdI b).1 : Nat), .int .i64 ((rdI b).2.1 : Nat), .int .i64 (rdI b).2.2]) (evT_below X) Tryd.func35 hcode hx' (by simp [idsL, ids, hp.ids]) (by simp [gtag]) rfl rfl rfl ?_)
  rw [par35, coB hp]
  exact ⟨_, ⟨rfl, rfl⟩, hr⟩

end Go.Proofs.YtafdnpcamepbmaaDoor

/- Walks: the column reader of fixed numbers; SameBytes. -/
namespace Go.Proofs.YtafdnpcamepbmaaDoor
open Go.AM
set_option linter.unusedSimpArgs false
set_option linter.unusedVariables false

def cL : Code → Option Code
  | .seq a _ => some a
  | _ => none
def cR : Code → Option Code
  | .seq _ b => some b
  | _ => none

/-- what is left, and the error -/
abbrev St := List UInt8 × Int

/-- a fixed number off what is left -/
def fx (n : Nat) (s : St) : Nat × St :=
  if s.2 ≠ 0 then (0, s) else if s.1.length < n then (0, s.1, 4) else (leV (s.1.take n), s.1.drop n, 0)

theorem rf_ev {H : AM.Heap} {a : AV} {b : List UInt8} {n : Nat} (h : Byt H a b) (hb : b.length ≤ 90000000) :
    evT X 26 [a, .int .i64 (n : Nat)] H = some (.tup [.int .u64 (rfR b n).1, .int .i64 (rfR b n).2], H) := by
  obtain ⟨c, p, xl, hp, hc, hx'⟩ := args_byt (C := X) (f := 26) (i := 0) rfl h (args_flat (i := 1) (a := .int .i64 (n : Nat)) rfl rfl (args_nil 2))
  obtain ⟨code, hcode, hr⟩ := readFixed_code (evT X) c b n (by omega)
  refine evT_eq (Ev1.toldP (l := [.int .u64 (rfR b n).1, .int .i64 (rfR b n).2]) (evT_below X) Tryd.func26 hcode hx' (by simp [idsL, ids, hp.ids]) (by simp [gtag]) rfl rfl rfl ?_)
  rw [par26, coB hp]
  exact ⟨_, ⟨rfl, rfl⟩, hr⟩

/-- the reader's box -/
def rdO (c t tg : Nat) (s : St) : AM.Obj := ⟨.pc [.ro c (.pb s.1) t, .int .i64 s.2], 0, some 2, 1, false, true, tg⟩

section
variable (c t tg : Nat) (s : St) (n : Nat)

/-- the reader's box when all is taken -/
def rdN (tg : Nat) (e : Int) : AM.Obj := ⟨.pc [.ro 0 .pn 0, .int .i64 e], 0, some 2, 1, false, true, tg⟩

end

end Go.Proofs.YtafdnpcamepbmaaDoor

/- Walks: the document's fixed number behind bytes. -/
namespace Go.Proofs.YtafdnpcamepbmaaDoor
open Go.AM
set_option linter.unusedSimpArgs false
set_option linter.unusedVariables false

section
variable (c : Nat) (b : List UInt8) (x n : Nat)

def rafFr (i : Nat) : AM.Frame := [(1, .int .u64 (x : Nat)), (2, .int .i64 (n : Nat)), (8, .sl 1 0 (b.length + i) i), (9, .int .i64 (i : Nat))]

end

end Go.Proofs.YtafdnpcamepbmaaDoor

/- Walks: counted numbers and texts, appended and read. -/
namespace Go.Proofs.YtafdnpcamepbmaaDoor
open Go.AM
set_option linter.unusedSimpArgs false
set_option linter.unusedVariables false

/-- a counted number's bytes -/
def aI (x : Nat) : List UInt8 := (if (frm x).1 = 0 then [] else [UInt8.ofNat (frm x).1]) ++ leB (frm x).2 x

theorem frm_ok {x : Nat} (hx : x < 18446744073709551616) : 1 ≤ (frm x).2 ∧ (frm x).2 ≤ 8 ∧ x < 256 ^ (frm x).2 ∧ (frm x).1 < 256 := by
  unfold frm
  split
  · simp only [Nat.reducePow]; omega
  · split
    · simp only [Nat.reducePow]; omega
    · split
      · simp only [Nat.reducePow]; omega
      · simp only [Nat.reducePow]; omega

theorem aI_len (x : Nat) : (aI x).length = szI x := by
  unfold aI szI frm
  split
  · simp [leB_len]
  · split
    · simp [leB_len]
    · split
      · simp [leB_len]
      · simp [leB_len]

theorem szI_le (x : Nat) : 1 ≤ szI x ∧ szI x ≤ 9 := by
  unfold szI; repeat' split
  all_goals omega

section
variable (c : Nat) (b : List UInt8) (x : Nat)

set_option maxRecDepth 100000 in
theorem appendInt_code (hc : c = 0 → b = []) (hb : b.length ≤ 80000000) (hx : x < 18446744073709551616) : ∃ code, Tryd.f42.body = some code ∧
    Tells (Rets fun fr H => ∃ o g ob, getF fr 4 = .sl o 0 (b.length + szI x) g ∧ H[o]? = some (some ob) ∧ Rw (.pb (b ++ aI x)) g ob) X (evT X) 42 0 code [(0, .ro c (.pb b) 1), (1, .int .u64 (x : Nat))] [] := by
  refine ⟨_, rfl, ?_⟩
  obtain ⟨h1, h8, hxn, hf⟩ := frm_ok hx
  have hlen := aI_len x
  rw [← hlen]
  unfold aI
  obtain ⟨ob0, hw0, hC⟩ := clone_ev (H := [some nilB]) (a := .ro c (.pb b) 1) (b := b) (Byt.ro (.inl rfl) hc) (by omega)
  have hF := form_ev x [some nilB]
  generalize frm x = r at *
  obtain ⟨q, n⟩ := r
  simp only at h1 h8 hxn hf hF ⊢
  by_cases h0 : q = 0
  · subst h0
    obtain ⟨ob1, hw1, hA⟩ := af_ev (H := [some nilB, some ob0]) (a := .sl 1 0 b.length 0) (b := b) (x := x) (n := n) (Byt.whole rfl hw0) (by omega) h1 h8 hxn
    refine Tells.of (o := ⟨.ret, [(4, .sl 2 0 (b.length + n) 0)], [some nilB, some ob0, some ob1]⟩) ?_ ⟨rfl, 2, 0, ob1, by simp [getF, leB_len], rfl, by simpa using hw1⟩
    refine ⟨0, ?_⟩
    simp (maxSteps := 2000000) -implicitDefEqProofs [-getElem?_pos, List.getElem?_cons_zero, List.getElem?_cons_succ, go_sem, eqV, plen, loadV, storeV, assignV, emB, hF, hC, hA]
  · have h0b : ((q : Int) != 0) = true := by simpa using h0
    have h0i : ¬ (q : Int) = 0 := by omega
    rw [if_neg h0]
    have hbs := fun H => bs1 H (UInt8.ofNat q)
    have hqn : (UInt8.ofNat q).toNat = q := by simp; omega
    rw [hqn] at hbs
    obtain ⟨ob', hw', hA1⟩ := app_b (H := [some nilB, some ob0]) (o := 1) (src := .ro 1 (.pb [UInt8.ofNat q]) 0) rfl hw0 (.inl rfl) (by simp; omega)
    obtain ⟨ob1, hw1, hA⟩ := af_ev (H := [some nilB, some ob']) (a := .sl 1 0 (b ++ [UInt8.ofNat q]).length 1) (b := b ++ [UInt8.ofNat q]) (x := x) (n := n) (Byt.whole rfl hw') (by simp; omega) h1 h8 hxn
    refine Tells.of (o := ⟨.ret, [(4, .sl 2 0 (b.length + 1 + n) 0)], [some nilB, some ob', some ob1]⟩) ?_ ⟨rfl, 2, 0, ob1, by simp [getF, leB_len]; omega, rfl, by simpa using hw1⟩
    refine ⟨0, ?_⟩
    simp only [List.length_append, List.length_cons, List.length_nil, Nat.zero_add] at hA1 hA
    simp (maxSteps := 2000000) -implicitDefEqProofs [-getElem?_pos, List.getElem?_cons_zero, List.getElem?_cons_succ, go_sem, eqV, plen, loadV, storeV, assignV, emB, hF, hC, h0b, h0i, hbs, hA1, upd, hA]

end

theorem appendInt_ev {H : AM.Heap} {a : AV} {b : List UInt8} {x : Nat} (h : Byt H a b) (hb : b.length ≤ 80000000) (hx : x < 18446744073709551616) :
    ∃ ob, Rw (.pb (b ++ aI x)) 0 ob ∧ evT X 42 [a, .int .u64 (x : Nat)] H = some (.sl H.length 0 (b.length + szI x) 0, H ++ [some ob]) := by
  obtain ⟨c, p, xl, hp, hc, hx'⟩ := args_byt (C := X) (f := 42) (i := 0) rfl h (args_flat (i := 1) (a := .int .u64 (x : Nat)) rfl rfl (args_nil 2))
  obtain ⟨code, hcode, hr⟩ := appendInt_code c b x hc hb hx
  obtain ⟨ob, q1, q2⟩ := Ev1.newB (H := H) (n := b.length + szI x) (l := b ++ aI x) (rest := []) (evT_below X) Tryd.func42 hcode hx' (by simp [idsL, ids, hp.ids]) (by simp [gtag]) rfl rfl rfl (by
    obtain ⟨o, ⟨he, o1, g, ob, q1, q3, q4⟩, hrun⟩ := hr
    exact ⟨o, ⟨he, o1, g, ob, by show some [getF o.fr 4] = _; rw [q1], q3, q4⟩, by rw [par42, coB hp]; exact hrun⟩)
  exact ⟨ob, q1, evT_eq q2⟩

/-- a counted text's bytes -/
def aT (s : List UInt8) : List UInt8 := aI s.length ++ s

section
variable (c : Nat) (b : List UInt8) (s : List UInt8)

set_option maxRecDepth 100000 in
theorem appendText_code (hc : c = 0 → b = []) (hb : b.length ≤ 40000000) (hs : s.length ≤ 40000000) : ∃ code, Tryd.f31.body = some code ∧
    Tells (Rets fun fr H => ∃ o g ob, getF fr 4 = .sl o 0 (b ++ aT s).length g ∧ H[o]? = some (some ob) ∧ Rw (.pb (b ++ aT s)) g ob) X (evT X) 31 0 code [(0, .ro c (.pb b) 1), (1, .str s)] [] := by
  refine ⟨_, rfl, ?_⟩
  have hsz := szI_le s.length
  have hl := aI_len s.length
  obtain ⟨ob1, hw1, hA⟩ := appendInt_ev (H := [some nilB]) (a := .ro c (.pb b) 1) (b := b) (x := s.length) (Byt.ro (.inl rfl) hc) (by omega) (by omega)
  obtain ⟨ob', hw', hA1⟩ := app_b (H := [some nilB, some ob1]) (o := 1) (m := s) (src := .str s) rfl hw1 (.inl rfl) (by simp; omega)
  have w1 : IntKind.u64.wrap (s.length : Int) = (s.length : Int) := wrap_u64 (by omega) (by omega)
  simp only [List.length_append, hl] at hA1
  refine Tells.of (o := ⟨.ret, [(4, .sl 1 0 (b.length + szI s.length + s.length) 1)], [some nilB, some ob']⟩) ?_ ⟨rfl, 1, 1, ob', by simp [getF, aT, hl]; omega, rfl, by rw [aT, ← List.append_assoc]; exact hw'⟩
  refine ⟨0, ?_⟩
  simp (maxSteps := 2000000) -implicitDefEqProofs [-getElem?_pos, List.getElem?_cons_zero, List.getElem?_cons_succ, go_sem, eqV, plen, loadV, storeV, assignV, emB, w1, hA, hA1, upd]

end

theorem appendText_ev {H : AM.Heap} {a : AV} {b s : List UInt8} (h : Byt H a b) (hb : b.length ≤ 40000000) (hs : s.length ≤ 40000000) :
    ∃ ob, Rw (.pb (b ++ aT s)) 0 ob ∧ evT X 31 [a, .str s] H = some (.sl H.length 0 (b ++ aT s).length 0, H ++ [some ob]) := by
  obtain ⟨c, p, xl, hp, hc, hx'⟩ := args_byt (C := X) (f := 31) (i := 0) rfl h (args_flat (i := 1) (a := .str s) rfl rfl (args_nil 2))
  obtain ⟨code, hcode, hr⟩ := appendText_code c b s hc hb hs
  obtain ⟨ob, q1, q2⟩ := Ev1.newB (H := H) (n := (b ++ aT s).length) (l := b ++ aT s) (rest := []) (evT_below X) Tryd.func31 hcode hx' (by simp [idsL, ids, hp.ids]) (by simp [gtag]) rfl rfl rfl (by
    obtain ⟨o, ⟨he, o1, g, ob, q1, q3, q4⟩, hrun⟩ := hr
    exact ⟨o, ⟨he, o1, g, ob, by show some [getF o.fr 4] = _; rw [q1], q3, q4⟩, by rw [par31, coB hp]; exact hrun⟩)
  exact ⟨ob, q1, evT_eq q2⟩

end Go.Proofs.YtafdnpcamepbmaaDoor

/- Walks: counted texts, read. -/
namespace Go.Proofs.YtafdnpcamepbmaaDoor
open Go.AM
set_option linter.unusedSimpArgs false
set_option linter.unusedVariables false

theorem slMid {c t m n : Nat} {b : List UInt8} (hn : m + n ≤ b.length) (H : AM.Heap) : sliceV X H 29 (.ro c (.pb b) t) (some (.int .i64 (m : Nat))) (some (.int .i64 ((m + n : Nat) : Int))) = some (.ro (if c = 0 then 0 else 2) (.pb ((b.drop m).take n)) t) := by
  have h1 : ((m + n : Nat) : Int) ≤ (b.length : Int) := by omega
  have h2 : (m : Int) ≤ ((m + n : Nat) : Int) := by omega
  have h3 : m + (m + n - m) ≤ b.length := by omega
  have h4 : m + n - m = n := by omega
  have h5 : (0 : Int) ≤ ((m + n : Nat) : Int) := by omega
  generalize hk : m + n = k at *
  have h6 : m + n ≤ b.length := by omega
  simp [sliceV, bound, plen, pesz, psub, h1, h2, h3, h4, h5, h6]

section
variable (c : Nat) (b : List UInt8)

set_option maxRecDepth 100000 in
theorem readText_code (hc : c = 0 → b = []) (hb : b.length ≤ 90000000) : ∃ code, Tryd.f22.body = some code ∧
    Run X (evT X) 22 0 code [(0, .ro c (.pb b) 1)] [] ⟨.ret, [(2, .str (rdT b).1), (3, .int .i64 ((rdT b).2.1 : Nat)), (4, .int .i64 (rdT b).2.2)], []⟩ := by
  refine ⟨_, rfl, 0, ?_⟩
  have hI := readInt_ev (H := []) (a := .ro c (.pb b) 1) (b := b) (Byt.ro (.inl rfl) hc) hb
  have hle := rdI_le (b := b)
  have hlt := rdI_lt b
  unfold rdT
  generalize rdI b = r at *
  obtain ⟨x, m, e⟩ := r
  simp only at hI hle hlt ⊢
  by_cases he : e = 0
  · subst he
    obtain ⟨h1, h2⟩ := hle rfl
    rw [if_neg (by simp)]
    have w1 : IntKind.i64.wrap ((b.length : Int) - (m : Int)) = ((b.length - m : Nat) : Int) := by rw [wrap_i64 (by omega) (by omega)]; omega
    have w2 : IntKind.u64.wrap ((b.length - m : Nat) : Int) = ((b.length - m : Nat) : Int) := wrap_u64 (by omega) (by omega)
    by_cases hx : b.length - m < x
    · rw [if_pos hx]
      have hxi : ((b.length - m : Nat) : Int) < (x : Int) := by omega
      generalize b.length - m = z at *
      simp (maxSteps := 2000000) -implicitDefEqProofs [-getElem?_pos, List.getElem?_cons_zero, List.getElem?_cons_succ, go_sem, eqV, plen, loadV, storeV, hI, w1, w2, hxi]
    · rw [if_neg hx]
      have hxi : ¬ ((b.length - m : Nat) : Int) < (x : Int) := by omega
      have w3 : IntKind.i64.wrap (x : Int) = (x : Int) := wrap_i64 (by omega) (by omega)
      have w4 : IntKind.i64.wrap ((m : Int) + (x : Int)) = ((m + x : Nat) : Int) := by rw [wrap_i64 (by omega) (by omega)]; omega
      have hS := fun H => slMid (c := c) (t := 1) (m := m) (n := x) (b := b) (by omega) H
      generalize m + x = k at *
      generalize b.length - m = z at *
      simp (maxSteps := 2000000) -implicitDefEqProofs [-getElem?_pos, List.getElem?_cons_zero, List.getElem?_cons_succ, go_sem, eqV, plen, loadV, storeV, hI, w1, w2, hxi, w3, w4, hS, readSl]
  · have heb : (e != 0) = true := by simpa using he
    rw [if_pos he]
    simp (maxSteps := 2000000) -implicitDefEqProofs [-getElem?_pos, List.getElem?_cons_zero, List.getElem?_cons_succ, go_sem, eqV, plen, loadV, storeV, hI, he, heb]

end

theorem readText_ev {H : AM.Heap} {a : AV} {b : List UInt8} (h : Byt H a b) (hb : b.length ≤ 90000000) :
    evT X 22 [a] H = some (.tup [.str (rdT b).1, .int .i64 ((rdT b).2.1 : Nat), .int .i64 (rdT b).2.2], H) := by
  obtain ⟨c, p, xl, hp, hc, hx'⟩ := args_byt (C := X) (f := 22) (i := 0) rfl h (args_nil 1)
  obtain ⟨code, hcode, hr⟩ := readText_code c b hc hb
  refine evT_eq (Ev1.toldP (l := [.str (rdT b).1, .int .i64 ((rdT b).2.1 : Nat), .int .i64 (rdT b).2.2]) (evT_below X) Tryd.func22 hcode hx' (by simp [idsL, ids, hp.ids]) (by simp [gtag]) rfl rfl rfl ?_)
  rw [par22, coB hp]
  exact ⟨_, ⟨rfl, rfl⟩, hr⟩

end Go.Proofs.YtafdnpcamepbmaaDoor

/- Types' names, by evaluation. -/
namespace Go.Proofs.YtafdnpcamepbmaaDoor
open Go.AM
set_option linter.unusedSimpArgs false
set_option linter.unusedVariables false

/-- a number below 1000, written -/
def dg (k : Nat) : List UInt8 := if k < 10 then [UInt8.ofNat (48 + k)] else if k < 100 then [UInt8.ofNat (48 + k / 10), UInt8.ofNat (48 + k % 10)] else [UInt8.ofNat (48 + k / 100), UInt8.ofNat (48 + k / 10 % 10), UInt8.ofNat (48 + k % 10)]
/-- the name of a type that is known -/
def nmC (k : Nat) : List UInt8 := match k with
  | 0 => [100, 101, 99, 105, 109, 97, 108]
  | 1 => [116, 105, 110, 121]
  | 2 => [115, 104, 111, 114, 116]
  | 3 => [108, 111, 110, 103]
  | 4 => [102, 108, 111, 97, 116]
  | 5 => [100, 111, 117, 98, 108, 101]
  | 6 => [110, 117, 108, 108]
  | 7 => [116, 105, 109, 101, 115, 116, 97, 109, 112]
  | 8 => [108, 111, 110, 103, 45, 108, 111, 110, 103]
  | 9 => [105, 110, 116, 50, 52]
  | 10 => [100, 97, 116, 101]
  | 11 => [116, 105, 109, 101]
  | 12 => [100, 97, 116, 101, 45, 116, 105, 109, 101]
  | 13 => [121, 101, 97, 114]
  | 15 => [118, 97, 114, 45, 99, 104, 97, 114]
  | 16 => [98, 105, 116]
  | 245 => [106, 115, 111, 110]
  | 246 => [110, 101, 119, 45, 100, 101, 99, 105, 109, 97, 108]
  | 247 => [101, 110, 117, 109]
  | 248 => [115, 101, 116]
  | 249 => [116, 105, 110, 121, 45, 98, 108, 111, 98]
  | 250 => [109, 101, 100, 105, 117, 109, 45, 98, 108, 111, 98]
  | 251 => [108, 111, 110, 103, 45, 98, 108, 111, 98]
  | 252 => [98, 108, 111, 98]
  | 253 => [118, 97, 114, 45, 115, 116, 114, 105, 110, 103]
  | 254 => [115, 116, 114, 105, 110, 103]
  | 255 => [103, 101, 111, 109, 101, 116, 114, 121]
  | _ => []
/-- is a type known? -/
def kn (k : Nat) : Bool := !(nmC k).isEmpty
/-- a type's name -/
def nmS (k : Nat) : List UInt8 := if kn k then nmC k else [116, 121, 112, 101, 45] ++ dg k
/-- all names -/
def nmL : List AV := (List.range 256).map fun k => .str (nmC k)

section
variable (k : Nat)

end

section
variable (k : Nat)

end

end Go.Proofs.YtafdnpcamepbmaaDoor

/- Walks: kinds and sizes of types; moments that may be. -/
namespace Go.Proofs.YtafdnpcamepbmaaDoor
open Go.AM
set_option linter.unusedSimpArgs false
set_option linter.unusedVariables false

structure Wh where
  neg : Bool := false
  y : Int := 0
  mo : Int := 0
  d : Int := 0
  h : Int := 0
  mi : Int := 0
  s : Int := 0
  us : Int := 0
  deriving DecidableEq

structure Va where
  k : Int := 0
  i : Int := 0
  b : Nat := 0
  t : List UInt8 := []
  w : Wh := {}
  deriving DecidableEq

structure Ty where
  t : Nat
  u : Bool

def Wh.pay (w : Wh) : AV := .pc [.bool w.neg, .int .i64 w.y, .int .i64 w.mo, .int .i64 w.d, .int .i64 w.h, .int .i64 w.mi, .int .i64 w.s, .int .i64 w.us]
def Va.pay (v : Va) : AV := .pc [.int .i64 v.k, .int .i64 v.i, .int .u64 (v.b : Nat), .str v.t, .bool v.w.neg, .int .i64 v.w.y, .int .i64 v.w.mo, .int .i64 v.w.d, .int .i64 v.w.h, .int .i64 v.w.mi, .int .i64 v.w.s, .int .i64 v.w.us]
def Ty.pay (t : Ty) : AV := .pc [.int .u8 (t.t : Nat), .bool t.u]
def whO (w : Wh) : AM.Obj := ⟨w.pay, 0, some 8, 1, false, true, 0⟩
def vaO (v : Va) : AM.Obj := ⟨v.pay, 0, some 12, 1, false, true, 0⟩
def tyO (t : Ty) : AM.Obj := ⟨t.pay, 0, some 2, 1, false, true, 0⟩

theorem mkWh (l : List AV) : mkAgg X 36 l = some (.pc l) := by kernel_rfl
theorem mkVa (l : List AV) : mkAgg X 38 l = some (.pc l) := by kernel_rfl
theorem mkTy (l : List AV) : mkAgg X 23 l = some (.pc l) := by kernel_rfl

theorem args_wh {f i : Nat} {H : AM.Heap} {w : Wh} {r ys : List AV} {xs : List Lent} (hr : lendArgs X f H (i + 1) r = some (ys, xs)) (hrw : X.rw f i = false := by rfl) :
    lendArgs X f H i (.agg w.pay :: r) = some (.agg w.pay :: ys, ⟨[], []⟩ :: xs) := by
  simp [lendArgs, hrw, hr, lendV, Wh.pay, lendL, lend1, tags]
theorem args_va {f i : Nat} {H : AM.Heap} {v : Va} {r ys : List AV} {xs : List Lent} (hr : lendArgs X f H (i + 1) r = some (ys, xs)) (hrw : X.rw f i = false := by rfl) :
    lendArgs X f H i (.agg v.pay :: r) = some (.agg v.pay :: ys, ⟨[], []⟩ :: xs) := by
  simp [lendArgs, hrw, hr, lendV, Va.pay, lendL, lend1, tags]
theorem args_ty {f i : Nat} {H : AM.Heap} {t : Ty} {r ys : List AV} {xs : List Lent} (hr : lendArgs X f H (i + 1) r = some (ys, xs)) (hrw : X.rw f i = false := by rfl) :
    lendArgs X f H i (.agg t.pay :: r) = some (.agg t.pay :: ys, ⟨[], []⟩ :: xs) := by
  simp [lendArgs, hrw, hr, lendV, Ty.pay, lendL, lend1, tags]

/-- a type's kind -/
def kindN (t : Nat) (u : Bool) : Int := if kn t = false then -1 else if t = 1 ∨ t = 2 ∨ t = 13 ∨ t = 3 ∨ t = 9 ∨ t = 8 then (if u then 2 else 1) else if t = 4 then 3 else if t = 5 then 4 else if t = 7 ∨ t = 10 ∨ t = 12 then 5 else if t = 11 then 6 else if t = 6 then 0 else 7
/-- how many bytes a number's type has -/
def sizeN (t : Nat) : Nat := if t = 1 then 1 else if t = 2 ∨ t = 13 then 2 else if t = 3 ∨ t = 9 ∨ t = 4 then 4 else if t = 8 ∨ t = 5 then 8 else 0
def rsizeN (t : Nat) : Nat := if t = 1 then 1 else if t = 2 ∨ t = 13 then 2 else if t = 3 ∨ t = 9 ∨ t = 4 then 4 else 8

theorem rowNames : RowsOk X [⟨36, [], .agg (.pc nmL), []⟩] :=
  RowsOk.cons (T := fun _ _ _ => none) (n := 50) Below.none RowsOk.nil (by kernel_rfl)

theorem kind_each {j : Nat} (hj : j < 512) (H : AM.Heap) : Ev1 X 13 [.agg (.pc [.int .u8 ((j / 2 : Nat) : Int), .bool (j % 2 == 1)])] H (.int .i64 (kindN (j / 2) (j % 2 == 1)), H) :=
  Ev1.each (T := tabF [⟨36, [], .agg (.pc nmL), []⟩]) (tabF_below rowNames) (n := 60) (f := 13) (N := 512) (a := fun j => .agg (.pc [.int .u8 ((j / 2 : Nat) : Int), .bool (j % 2 == 1)])) (v := fun j => .int .i64 (kindN (j / 2) (j % 2 == 1))) (by kernel_rfl) (fun _ => rfl) hj H

theorem kind_ev {t : Ty} (ht : t.t < 256) (H : AM.Heap) : evT X 13 [.agg t.pay] H = some (.int .i64 (kindN t.t t.u), H) := by
  obtain ⟨t, u⟩ := t
  simp only at ht
  have h1 : (2 * t + (if u then 1 else 0)) / 2 = t := by split <;> omega
  have h2 : ((2 * t + (if u then 1 else 0)) % 2 == 1) = u := by
    cases u
    · simp
    · simp only [if_true]
      rw [show (2 * t + 1) % 2 = 1 by omega]; rfl
  have := kind_each (j := 2 * t + (if u then 1 else 0)) (by split <;> omega) H
  rw [h1, h2] at this
  exact evT_eq this

theorem size_ev' {k : Nat} (hk : k < 256) (H : AM.Heap) : evT X 25 [.int .u8 (k : Nat)] H = some (.int .i64 (sizeN k : Nat), H) :=
  evT_eq (Ev1.each (T := fun _ _ _ => none) Below.none (n := 50) (f := 25) (N := 256) (a := fun k => .int .u8 (k : Nat)) (v := fun k => .int .i64 (sizeN k : Nat)) (by kernel_rfl) (fun _ => rfl) hk H)

/-- is a number between? -/
def btw (x l m : Int) : Bool := decide (l ≤ x ∧ x ≤ m)

set_option maxRecDepth 100000 in
theorem btw_code (x l m : Int) : ∃ code, Tryd.f44.body = some code ∧
    Run X (evT X) 44 0 code [(0, .int .i64 x), (1, .int .i64 l), (2, .int .i64 m)] [] ⟨.ret, [(6, .bool (btw x l m))], []⟩ := by
  refine ⟨_, rfl, 0, ?_⟩
  unfold btw
  by_cases h : l ≤ x
  · simp (maxSteps := 2000000) -implicitDefEqProofs [-getElem?_pos, List.getElem?_cons_zero, List.getElem?_cons_succ, go_sem, eqV, plen, loadV, storeV, h]
  · simp (maxSteps := 2000000) -implicitDefEqProofs [-getElem?_pos, List.getElem?_cons_zero, List.getElem?_cons_succ, go_sem, eqV, plen, loadV, storeV, h]

theorem btw_ev (x l m : Int) (H : AM.Heap) : evT X 44 [.int .i64 x, .int .i64 l, .int .i64 m] H = some (.bool (btw x l m), H) := by
  obtain ⟨code, hcode, hr⟩ := btw_code x l m
  exact evT_eq (Ev1.toldP (l := [.bool (btw x l m)]) (evT_below X) Tryd.func44 hcode (args_flat (i := 0) rfl rfl (args_flat (i := 1) rfl rfl (args_flat (i := 2) rfl rfl (args_nil 3)))) rfl (by simp [gtag]) rfl rfl rfl ⟨_, ⟨rfl, rfl⟩, hr⟩)

/-- may a time of day be? -/
def clk (w : Wh) : Bool := btw w.h 0 23 && (btw w.mi 0 59 && (btw w.s 0 59 && btw w.us 0 999999))
/-- is there no time of day? -/
def mid (w : Wh) : Bool := decide (w.h = 0 ∧ w.mi = 0 ∧ w.s = 0 ∧ w.us = 0)

section
variable (w : Wh)

set_option maxRecDepth 100000 in
theorem clock_code : ∃ code, Tryd.f43.body = some code ∧
    Run X (evT X) 43 0 code [(0, .agg w.pay)] [] ⟨.ret, [(2, .bool (clk w))], [some (whO w)]⟩ := by
  refine ⟨_, rfl, 0, ?_⟩
  have hB := btw_ev
  unfold clk
  cases h1 : btw w.h 0 23 with
  | false => simp (maxSteps := 2000000) -implicitDefEqProofs [-getElem?_pos, List.getElem?_cons_zero, List.getElem?_cons_succ, go_sem, eqV, plen, loadV, storeV, whO, Wh.pay, hB, h1]
  | true =>
  cases h2 : btw w.mi 0 59 with
  | false => simp (maxSteps := 2000000) -implicitDefEqProofs [-getElem?_pos, List.getElem?_cons_zero, List.getElem?_cons_succ, go_sem, eqV, plen, loadV, storeV, whO, Wh.pay, hB, h1, h2]
  | true =>
  cases h3 : btw w.s 0 59 with
  | false => simp (maxSteps := 2000000) -implicitDefEqProofs [-getElem?_pos, List.getElem?_cons_zero, List.getElem?_cons_succ, go_sem, eqV, plen, loadV, storeV, whO, Wh.pay, hB, h1, h2, h3]
  | true => simp (maxSteps := 2000000) -implicitDefEqProofs [-getElem?_pos, List.getElem?_cons_zero, List.getElem?_cons_succ, go_sem, eqV, plen, loadV, storeV, whO, Wh.pay, hB, h1, h2, h3]

end

theorem clock_ev (w : Wh) (H : AM.Heap) : evT X 43 [.agg w.pay] H = some (.bool (clk w), H) := by
  obtain ⟨code, hcode, hr⟩ := clock_code w
  exact evT_eq (Ev1.toldP (l := [.bool (clk w)]) (evT_below X) Tryd.func43 hcode (args_wh (i := 0) (args_nil 1)) (by simp [Wh.pay, idsL, ids]) (by simp [gtag]) rfl rfl rfl ⟨_, ⟨rfl, rfl⟩, hr⟩)

end Go.Proofs.YtafdnpcamepbmaaDoor

/- Walks: moments and spans that may be. -/
namespace Go.Proofs.YtafdnpcamepbmaaDoor
open Go.AM
set_option linter.unusedSimpArgs false
set_option linter.unusedVariables false

theorem eqV_agg {C : AM.Ctx} {H : AM.Heap} {t : TypeId} {a b : List AV} {xo yo : Operand} (h1 : isStructT C t = true) (h2 : C.P.eqGuardType C.P.depth t = false) : eqV C H t (.agg (.pc a)) (.agg (.pc b)) xo yo = eqFlat C 6 t a b := by
  show (if isStructT C t && !C.P.eqGuardType C.P.depth t then eqFlat C 6 t a b else none) = _
  rw [h1, h2]; rfl

theorem whEqF (a : Bool) (y mo d h mi s us : Int) (a' : Bool) (y' mo' d' h' mi' s' us' : Int) :
    eqFlat X 6 36 [.bool a, .int .i64 y, .int .i64 mo, .int .i64 d, .int .i64 h, .int .i64 mi, .int .i64 s, .int .i64 us] [.bool a', .int .i64 y', .int .i64 mo', .int .i64 d', .int .i64 h', .int .i64 mi', .int .i64 s', .int .i64 us'] =
      some (a == a' && (y == y' && (mo == mo' && (d == d' && (h == h' && (mi == mi' && (s == s' && (us == us' && true)))))))) := by kernel_rfl
theorem stWh : isStructT X 36 = true := by kernel_rfl
theorem guWh : X.P.eqGuardType X.P.depth 36 = false := by kernel_rfl
theorem eqWh (w w' : Wh) (H : AM.Heap) (xo yo : Operand) : eqV X H 36 (.agg w.pay) (.agg w'.pay) xo yo = some (decide (w = w')) := by
  unfold Wh.pay
  rw [eqV_agg stWh guWh]
  have := whEqF w.neg w.y w.mo w.d w.h w.mi w.s w.us w'.neg w'.y w'.mo w'.d w'.h w'.mi w'.s w'.us
  refine this.trans (congrArg some ?_)
  rw [Bool.eq_iff_iff, decide_eq_true_eq]
  simp only [Bool.and_eq_true, beq_iff_eq, and_true]
  cases w; cases w'
  simp

theorem whEqS (a : Bool) (y mo d h mi s us : Int) (a' : Bool) (y' mo' d' h' mi' s' us' : Int) (H : AM.Heap) (xo yo : Operand) :
    eqV X H 36 (.agg (.pc [.bool a, .int .i64 y, .int .i64 mo, .int .i64 d, .int .i64 h, .int .i64 mi, .int .i64 s, .int .i64 us])) (.agg (.pc [.bool a', .int .i64 y', .int .i64 mo', .int .i64 d', .int .i64 h', .int .i64 mi', .int .i64 s', .int .i64 us'])) xo yo =
      some (decide ((⟨a, y, mo, d, h, mi, s, us⟩ : Wh) = ⟨a', y', mo', d', h', mi', s', us'⟩)) := eqWh ⟨a, y, mo, d, h, mi, s, us⟩ ⟨a', y', mo', d', h', mi', s', us'⟩ H xo yo

/-- may a moment, or a span, be? -/
def fin (w : Wh) (t : Nat) : Bool := clk w && (if t = 11 then decide (w.y = 0) && (decide (w.mo = 0) && (btw w.d 0 34 && !(w.neg && (decide (w.d = 0) && mid w)))) else (!w.neg && (btw w.y 0 9999 && (btw w.mo 0 12 && (btw w.d 0 31 && (decide (t ≠ 10) || mid w))))))

theorem bdW1 : buildV X 36 [(0, .bool true)] = some (.agg (.pc [.bool true, .int .i64 0, .int .i64 0, .int .i64 0, .int .i64 0, .int .i64 0, .int .i64 0, .int .i64 0])) := by kernel_rfl
theorem bdW0 : buildV X 36 [] = some (.agg (.pc [.bool false, .int .i64 0, .int .i64 0, .int .i64 0, .int .i64 0, .int .i64 0, .int .i64 0, .int .i64 0])) := by kernel_rfl
theorem bdW3 (y mo d : Int) : buildV X 36 [(1, .int .i64 y), (2, .int .i64 mo), (3, .int .i64 d)] = some (.agg (.pc [.bool false, .int .i64 y, .int .i64 mo, .int .i64 d, .int .i64 0, .int .i64 0, .int .i64 0, .int .i64 0])) := by kernel_rfl

section
variable (w : Wh) (t : Nat)

def fnFr : AM.Frame := [(1, .int .u8 (t : Nat)), (2, .ptr 0 0 0 0)]

set_option maxRecDepth 100000 in
set_option maxHeartbeats 4000000 in
theorem fin_code (ht : t < 256) : ∃ code, Tryd.f32.body = some code ∧
    Run X (evT X) 32 0 code [(0, .agg w.pay), (1, .int .u8 (t : Nat))] [] ⟨.ret, [(4, .bool (fin w t))], [some (whO w)]⟩ := by
  refine ⟨_, rfl, ?_⟩
  have hB := btw_ev
  have hC := fun H => clock_ev w H
  have hE := whEqS
  unfold fin
  simp only [Wh.pay] at hC
  apply Run.seq (fr' := fnFr t) (H' := [some (whO w)])
  · (refine ⟨0, ?_⟩; simp (maxSteps := 2000000) -implicitDefEqProofs [-getElem?_pos, List.getElem?_cons_zero, List.getElem?_cons_succ, go_sem, eqV, plen, loadV, storeV, whO, Wh.pay, fnFr])
  cases hc : clk w with
  | false =>
    rw [hc] at hC
    apply Run.seq_out (hne := by simp)
    apply Run.seq (fr' := fnFr t ++ [(7, .bool true)]) (H' := [some (whO w)])
    · (refine ⟨0, ?_⟩; simp (maxSteps := 2000000) -implicitDefEqProofs [-getElem?_pos, List.getElem?_cons_zero, List.getElem?_cons_succ, go_sem, eqV, plen, loadV, storeV, whO, Wh.pay, mkWh, hC, unV, fnFr])
    refine ⟨0, ?_⟩
    simp (maxSteps := 2000000) -implicitDefEqProofs [-getElem?_pos, List.getElem?_cons_zero, List.getElem?_cons_succ, go_sem, eqV, plen, loadV, storeV, fnFr]
  | true =>
  rw [hc] at hC
  apply Run.seq (fr' := fnFr t ++ [(7, .bool false)]) (H' := [some (whO w)])
  · (refine ⟨0, ?_⟩; simp (maxSteps := 2000000) -implicitDefEqProofs [-getElem?_pos, List.getElem?_cons_zero, List.getElem?_cons_succ, go_sem, eqV, plen, loadV, storeV, whO, Wh.pay, mkWh, hC, unV, fnFr])
  by_cases h11 : t = 11
  · subst h11
    rw [if_pos rfl]
    apply Run.seq_out (hne := by simp)
    apply Run.seq (fr' := fnFr 11 ++ [(9, .bool true)]) (H' := [some (whO w)])
    · (refine ⟨0, ?_⟩; simp (maxSteps := 2000000) -implicitDefEqProofs [-getElem?_pos, List.getElem?_cons_zero, List.getElem?_cons_succ, go_sem, eqV, plen, loadV, storeV, whO, fnFr])
    refine condT (by simp [evalO, getF, fnFr]) ?_
    refine Run.seq (fr' := [(4, .bool (decide (w.y = 0) && (decide (w.mo = 0) && (btw w.d 0 34 && !(w.neg && (decide (w.d = 0) && mid w))))))]) (H' := [some (whO w)]) ?_ ⟨0, by simp [exec]⟩
    by_cases hy : w.y = 0
    case neg =>
      have hyb : (w.y == 0) = false := by simpa using hy
      (refine ⟨0, ?_⟩; simp (maxSteps := 2000000) -implicitDefEqProofs [-getElem?_pos, List.getElem?_cons_zero, List.getElem?_cons_succ, go_sem, eqV, plen, loadV, storeV, whO, Wh.pay, fnFr, hyb, hy])
    by_cases hmo : w.mo = 0
    case neg =>
      have hyb : (w.mo == 0) = false := by simpa using hmo
      (refine ⟨0, ?_⟩; simp (maxSteps := 2000000) -implicitDefEqProofs [-getElem?_pos, List.getElem?_cons_zero, List.getElem?_cons_succ, go_sem, eqV, plen, loadV, storeV, whO, Wh.pay, fnFr, hy, hyb, hmo])
    cases hd : btw w.d 0 34 with
    | false => (refine ⟨0, ?_⟩; simp (maxSteps := 2000000) -implicitDefEqProofs [-getElem?_pos, List.getElem?_cons_zero, List.getElem?_cons_succ, go_sem, eqV, plen, loadV, storeV, whO, Wh.pay, fnFr, hy, hmo, hB, hd])
    | true =>
    cases hn : w.neg with
    | false => (refine ⟨0, ?_⟩; simp (maxSteps := 2000000) -implicitDefEqProofs [-getElem?_pos, List.getElem?_cons_zero, List.getElem?_cons_succ, go_sem, eqV, plen, loadV, storeV, whO, Wh.pay, fnFr, hy, hmo, hB, hd, hn, unV])
    | true =>
      have e : decide ((⟨true, 0, 0, w.d, w.h, w.mi, w.s, w.us⟩ : Wh) = ⟨true, 0, 0, 0, 0, 0, 0, 0⟩) = (decide (w.d = 0) && mid w) := by
        unfold mid
        rw [Bool.eq_iff_iff]; simp
      have hE1 := fun H xo yo => whEqS true 0 0 w.d w.h w.mi w.s w.us true 0 0 0 0 0 0 0 H xo yo
      rw [e] at hE1
      generalize (decide (w.d = 0) && mid w) = m at *
      clear hE e
      (refine ⟨0, ?_⟩; simp (maxSteps := 2000000) -implicitDefEqProofs [-getElem?_pos, List.getElem?_cons_zero, List.getElem?_cons_succ, go_sem, eqV, plen, loadV, storeV, -eqV, whO, Wh.pay, fnFr, mkWh, unV, hy, hmo, hB, hd, hn, bdW1, hE1])
  · have h11i : ((t : Int) == 11) = false := by simp; omega
    rw [if_neg h11]
    apply Run.seq (fr' := fnFr t ++ [(9, .bool false)]) (H' := [some (whO w)])
    · (refine ⟨0, ?_⟩; simp (maxSteps := 2000000) -implicitDefEqProofs [-getElem?_pos, List.getElem?_cons_zero, List.getElem?_cons_succ, go_sem, eqV, plen, loadV, storeV, whO, fnFr, h11i])
    cases hp : (!w.neg && (btw w.y 0 9999 && (btw w.mo 0 12 && btw w.d 0 31))) with
    | false =>
      have e : (!w.neg && (btw w.y 0 9999 && (btw w.mo 0 12 && (btw w.d 0 31 && (decide (t ≠ 10) || mid w))))) = false := by
        revert hp
        generalize btw w.y 0 9999 = a
        generalize btw w.mo 0 12 = b
        generalize btw w.d 0 31 = c
        generalize w.neg = n
        cases n <;> cases a <;> cases b <;> cases c <;> simp
      rw [e]
      apply Run.seq_out (hne := by simp)
      apply Run.seq (fr' := fnFr t ++ [(52, .bool true)]) (H' := [some (whO w)])
      · clear e
        cases hn : w.neg with
        | true => (refine ⟨0, ?_⟩; simp (maxSteps := 2000000) -implicitDefEqProofs [-getElem?_pos, List.getElem?_cons_zero, List.getElem?_cons_succ, go_sem, eqV, plen, loadV, storeV, whO, Wh.pay, fnFr, hn])
        | false =>
        cases hy : btw w.y 0 9999 with
        | false => (refine ⟨0, ?_⟩; simp (maxSteps := 2000000) -implicitDefEqProofs [-getElem?_pos, List.getElem?_cons_zero, List.getElem?_cons_succ, go_sem, eqV, plen, loadV, storeV, whO, Wh.pay, fnFr, hn, hB, hy, unV])
        | true =>
        cases hmo : btw w.mo 0 12 with
        | false => (refine ⟨0, ?_⟩; simp (maxSteps := 2000000) -implicitDefEqProofs [-getElem?_pos, List.getElem?_cons_zero, List.getElem?_cons_succ, go_sem, eqV, plen, loadV, storeV, whO, Wh.pay, fnFr, hn, hB, hy, hmo, unV])
        | true =>
        cases hd : btw w.d 0 31 with
        | false => (refine ⟨0, ?_⟩; simp (maxSteps := 2000000) -implicitDefEqProofs [-getElem?_pos, List.getElem?_cons_zero, List.getElem?_cons_succ, go_sem, eqV, plen, loadV, storeV, whO, Wh.pay, fnFr, hn, hB, hy, hmo, hd, unV])
        | true => rw [hn, hy, hmo, hd] at hp; cases hp
      refine ⟨0, ?_⟩
      simp (maxSteps := 2000000) -implicitDefEqProofs [-getElem?_pos, List.getElem?_cons_zero, List.getElem?_cons_succ, go_sem, eqV, plen, loadV, storeV, fnFr]
    | true =>
      simp only [Bool.and_eq_true, Bool.not_eq_true'] at hp
      obtain ⟨hn, hy, hmo, hd⟩ := hp
      apply Run.seq (fr' := fnFr t ++ [(52, .bool false)]) (H' := [some (whO w)])
      · (refine ⟨0, ?_⟩; simp (maxSteps := 2000000) -implicitDefEqProofs [-getElem?_pos, List.getElem?_cons_zero, List.getElem?_cons_succ, go_sem, eqV, plen, loadV, storeV, whO, Wh.pay, fnFr, hn, hB, hy, hmo, hd, unV])
      rw [hn, hy, hmo, hd]
      refine Run.seq (fr' := [(4, .bool (decide (t ≠ 10) || mid w))]) (H' := [some (whO w)]) ?_ ⟨0, by simp [exec]⟩
      by_cases h10 : t = 10
      · subst h10
        have e : decide ((⟨false, w.y, w.mo, w.d, w.h, w.mi, w.s, w.us⟩ : Wh) = ⟨false, w.y, w.mo, w.d, 0, 0, 0, 0⟩) = mid w := by
          unfold mid
          rw [Bool.eq_iff_iff]; simp
        have hE1 := fun H xo yo => whEqS false w.y w.mo w.d w.h w.mi w.s w.us false w.y w.mo w.d 0 0 0 0 H xo yo
        rw [e] at hE1
        generalize mid w = m at *
        clear hE e
        (refine ⟨0, ?_⟩; simp (maxSteps := 2000000) -implicitDefEqProofs [-getElem?_pos, List.getElem?_cons_zero, List.getElem?_cons_succ, go_sem, eqV, plen, loadV, storeV, -eqV, whO, Wh.pay, fnFr, mkWh, hn, bdW3, hE1])
      · have h10i : ((t : Int) != 10) = true := by simp; omega
        (refine ⟨0, ?_⟩; simp (maxSteps := 2000000) -implicitDefEqProofs [-getElem?_pos, List.getElem?_cons_zero, List.getElem?_cons_succ, go_sem, eqV, plen, loadV, storeV, whO, fnFr, h10, h10i])

end

theorem fin_ev (w : Wh) {t : Nat} (ht : t < 256) (H : AM.Heap) : evT X 32 [.agg w.pay, .int .u8 (t : Nat)] H = some (.bool (fin w t), H) := by
  obtain ⟨code, hcode, hr⟩ := fin_code w t ht
  exact evT_eq (Ev1.toldP (l := [.bool (fin w t)]) (evT_below X) Tryd.func32 hcode (args_wh (i := 0) (args_flat (i := 1) rfl rfl (args_nil 2))) (by simp [Wh.pay, idsL, ids]) (by simp [gtag]) rfl rfl rfl ⟨_, ⟨rfl, rfl⟩, hr⟩)

end Go.Proofs.YtafdnpcamepbmaaDoor

/- Walks: the check of a value. -/
namespace Go.Proofs.YtafdnpcamepbmaaDoor
open Go.AM
set_option linter.unusedSimpArgs false
set_option linter.unusedVariables false

theorem vaEqF (k i b : Int) (t : List UInt8) (a : Bool) (y mo d h mi s us : Int) (k' i' b' : Int) (t' : List UInt8) (a' : Bool) (y' mo' d' h' mi' s' us' : Int) :
    eqFlat X 6 38 [.int .i64 k, .int .i64 i, .int .u64 b, .str t, .bool a, .int .i64 y, .int .i64 mo, .int .i64 d, .int .i64 h, .int .i64 mi, .int .i64 s, .int .i64 us] [.int .i64 k', .int .i64 i', .int .u64 b', .str t', .bool a', .int .i64 y', .int .i64 mo', .int .i64 d', .int .i64 h', .int .i64 mi', .int .i64 s', .int .i64 us'] =
      some (k == k' && (i == i' && (b == b' && (t == t' && ((a == a' && (y == y' && (mo == mo' && (d == d' && (h == h' && (mi == mi' && (s == s' && (us == us' && true)))))))) && true))))) := by kernel_rfl
theorem stVa : isStructT X 38 = true := by kernel_rfl
theorem guVa : X.P.eqGuardType X.P.depth 38 = false := by kernel_rfl
theorem eqVa (v v' : Va) (H : AM.Heap) (xo yo : Operand) : eqV X H 38 (.agg v.pay) (.agg v'.pay) xo yo = some (decide (v = v')) := by
  unfold Va.pay
  rw [eqV_agg stVa guVa]
  have := vaEqF v.k v.i v.b v.t v.w.neg v.w.y v.w.mo v.w.d v.w.h v.w.mi v.w.s v.w.us v'.k v'.i v'.b v'.t v'.w.neg v'.w.y v'.w.mo v'.w.d v'.w.h v'.w.mi v'.w.s v'.w.us
  refine this.trans (congrArg some ?_)
  rw [Bool.eq_iff_iff, decide_eq_true_eq]
  simp only [Bool.and_eq_true, beq_iff_eq, and_true]
  obtain ⟨k, i, b, t, w⟩ := v
  obtain ⟨k', i', b', t', w'⟩ := v'
  cases w; cases w'
  simp only [Va.mk.injEq, Wh.mk.injEq]
  constructor
  · rintro ⟨h1, h2, h3, h4, h5⟩; exact ⟨h1, h2, Int.ofNat.inj h3, h4, h5⟩
  · rintro ⟨h1, h2, h3, h4, h5⟩; exact ⟨h1, h2, by rw [h3], h4, h5⟩

theorem bdV0 : buildV X 38 [] = some (.agg ({} : Va).pay) := by kernel_rfl
theorem bdVi (k i : Int) : buildV X 38 [(0, .int .i64 k), (1, .int .i64 i)] = some (.agg ({ k := k, i := i } : Va).pay) := by kernel_rfl
theorem bdVb (k : Int) (b : Nat) : buildV X 38 [(0, .int .i64 k), (2, .int .u64 (b : Nat))] = some (.agg ({ k := k, b := b } : Va).pay) := by kernel_rfl
theorem bdVt (k : Int) (t : List UInt8) : buildV X 38 [(0, .int .i64 k), (3, .str t)] = some (.agg ({ k := k, t := t } : Va).pay) := by kernel_rfl
theorem bdVw (k : Int) (w : Wh) : buildV X 38 [(0, .int .i64 k), (4, .agg w.pay)] = some (.agg ({ k := k, w := w } : Va).pay) := by kernel_rfl

/-- fits a number in n bytes? -/
def okI (i : Int) (n : Nat) : Bool := decide (8 ≤ n) || decide (-(2 ^ (8 * n - 1)) ≤ i ∧ i < 2 ^ (8 * n - 1))
def okB (b n : Nat) : Bool := decide (8 ≤ n) || decide (b < 2 ^ (8 * n))
/-- is a value, other than nothing, one of its type? -/
def okVk (v : Va) (k : Int) (n tt : Nat) : Bool :=
  if v.k = 1 then decide (k = 1) && (decide (v = { k := 1, i := v.i }) && okI v.i n)
  else if v.k = 2 ∨ v.k = 3 ∨ v.k = 4 then decide (k = v.k) && (decide (v = { k := v.k, b := v.b }) && okB v.b n)
  else if v.k = 5 ∨ v.k = 6 then decide (k = v.k) && (decide (v = { k := v.k, w := v.w }) && fin v.w tt)
  else if v.k = 7 then decide (k = 7) && (decide (v = { k := 7, t := v.t }) && decide (v.t.length ≤ 16777216))
  else false
def okVa (v : Va) (t : Ty) : Bool := okVk v (kindN t.t t.u) (sizeN t.t) t.t
/-- a value's check -/
def chkV (v : Va) (t : Ty) : Int := if kindN t.t t.u < 0 then 2 else if v = {} then 0 else if okVa v t then 0 else 2

theorem kind_bd : ∀ t u, -1 ≤ kindN t u ∧ kindN t u ≤ 7 := by
  intro t u
  unfold kindN
  repeat' split
  all_goals omega

theorem size_num {t : Nat} {u : Bool} (h : kindN t u = 1 ∨ kindN t u = 2 ∨ kindN t u = 3 ∨ kindN t u = 4) : sizeN t = 1 ∨ sizeN t = 2 ∨ sizeN t = 4 ∨ sizeN t = 8 := by
  unfold kindN at h
  unfold sizeN
  by_cases h0 : kn t = false
  · rw [if_pos h0] at h; omega
  rw [if_neg h0] at h
  by_cases h1 : t = 1 ∨ t = 2 ∨ t = 13 ∨ t = 3 ∨ t = 9 ∨ t = 8
  · rcases h1 with h1 | h1 | h1 | h1 | h1 | h1 <;> subst h1 <;> simp
  rw [if_neg h1] at h
  by_cases h2 : t = 4
  · subst h2; simp
  rw [if_neg h2] at h
  by_cases h3 : t = 5
  · subst h3; simp
  rw [if_neg h3] at h
  by_cases h4 : t = 7 ∨ t = 10 ∨ t = 12
  · rw [if_pos h4] at h; omega
  rw [if_neg h4] at h
  by_cases h5 : t = 11
  · rw [if_pos h5] at h; omega
  rw [if_neg h5] at h
  by_cases h6 : t = 6
  · rw [if_pos h6] at h; omega
  rw [if_neg h6] at h
  omega

theorem fdiv_q {i : Int} {m : Nat} (q : Int) (hq : i.fdiv (2 ^ m) = q) : ((q == 0) || (q == -1)) = decide (-(2 ^ m) ≤ i ∧ i < 2 ^ m) := by
  have hp : (0 : Int) < 2 ^ m := Int.pow_pos (by decide)
  rw [Int.fdiv_eq_ediv_of_nonneg _ (Int.le_of_lt hp)] at hq
  have h1 := Int.mul_ediv_add_emod i (2 ^ m)
  have h2 := Int.emod_nonneg i (b := 2 ^ m) (by omega)
  have h3 := Int.emod_lt_of_pos i hp
  rw [hq] at h1
  generalize i % 2 ^ m = r at *
  generalize (2 : Int) ^ m = B at *
  rw [Bool.eq_iff_iff]
  simp only [Bool.or_eq_true, beq_iff_eq, decide_eq_true_eq]
  constructor
  · rintro (h | h) <;> subst h <;> constructor <;> omega
  · rintro ⟨h4, h5⟩
    apply Classical.byContradiction
    intro hc
    rcases Int.lt_or_gt_of_ne (show q ≠ 0 by omega) with h6 | h6
    · have : B * q ≤ B * (-2) := Int.mul_le_mul_of_nonneg_left (by omega) (by omega)
      omega
    · have : B * 1 ≤ B * q := Int.mul_le_mul_of_nonneg_left (by omega) (by omega)
      omega

def ckFr (k : Int) (f : Bool) (n : Nat) : AM.Frame := [(2, .ptr 0 0 0 0), (3, .ptr 1 0 0 0), (5, .int .i64 k), (6, .bool f), (7, .int .i64 (n : Nat))]

/-- the check's choice -/
noncomputable def ckO : Option Code := (((((((Tryd.f19.body).bind cR).bind cR).bind cR).bind cR).bind cR).bind cR).bind cL

/-- how the choice leaves the frame and the heap -/
def ckP (v : Va) (t : Ty) (k : Int) (n : Nat) (fr : AM.Frame) (H : AM.Heap) : Prop := H = [some (vaO v), some (tyO t)] ∧ (fr = [(6, .bool (okVk v k n t.t))] ∨ fr = [(2, .ptr 0 0 0 0), (5, .int .i64 k), (6, .bool (okVk v k n t.t)), (103, .bool false)])

theorem rsz (t : Nat) : rsizeN t = 1 ∨ rsizeN t = 2 ∨ rsizeN t = 4 ∨ rsizeN t = 8 := by
  unfold rsizeN; repeat' split
  all_goals omega
theorem rsize_eq {t : Nat} (h : sizeN t ≠ 0) : rsizeN t = sizeN t := by
  unfold sizeN at h ⊢
  unfold rsizeN
  repeat' split
  all_goals first | rfl | (simp_all; done) | omega

end Go.Proofs.YtafdnpcamepbmaaDoor

/- Walks: the document's reader of fields. -/
namespace Go.Proofs.YtafdnpcamepbmaaDoor
open Go.AM
set_option linter.unusedSimpArgs false
set_option linter.unusedVariables false

/-- the fields' box -/
def bxO (p : AV) (c t tg : Nat) (e : Int) : AM.Obj := ⟨.pc [.ro c p t, .int .i64 e], 0, some 2, 1, false, true, tg⟩
/-- the error, when what was read is wrong -/
def wr (bad : Bool) (e : Int) : Int := if e = 0 ∧ bad = true then 5 else e
/-- bytes off what is left -/
def bts (n : Nat) (s : St) : List UInt8 := if s.2 ≠ 0 ∨ s.1.length < n then List.replicate n 0 else s.1.take n

theorem leV_zeros (n : Nat) : leV (List.replicate n 0) = 0 := by
  induction n with
  | zero => rfl
  | succ n ih => rw [List.replicate_succ, leV, ih]; rfl

theorem mkB {n : Nat} (hn : n ≤ 1000000) (H : AM.Heap) : makeSliceV X H 29 (.int .i64 (n : Nat)) (.int .i64 (n : Nat)) = some (.sl H.length 0 n 0, H ++ [some ⟨.pb (List.replicate n 0), 0, some n, 1, true, false, 0⟩]) := by
  have hz : ∀ n, zeroRow X 5 n = some (.pb (List.replicate n 0)) := fun n => by simp [zeroRow, cellsAV, scalars, scalar, idsL, ids, tagsL, tags]
  have h0 : (0 : Int) ≤ n := by omega
  have h1 : (n : Int) ≤ 9223372036854775807 := by omega
  have h2 : (n : Int) ≤ 140737488355328 := by omega
  simp [makeSliceV, hz, h0, h1, h2, rowOf]

theorem slTo {c t n : Nat} {b : List UInt8} (hc : c = 0 → b = []) (hn : n ≤ b.length) (H : AM.Heap) : sliceV X H 29 (.ro c (.pb b) t) none (some (.int .i64 (n : Nat))) = some (.ro (if c = 0 then 0 else 2) (.pb (b.take n)) t) := by
  have hnl : (n : Int) ≤ (b.length : Int) := by omega
  simp [sliceV, bound, plen, pesz, psub, hnl, hn]

theorem slFrom {c t n : Nat} {b : List UInt8} (hc : c = 0 → b = []) (hn : n ≤ b.length) (H : AM.Heap) : sliceV X H 29 (.ro c (.pb b) t) (some (.int .i64 (n : Nat))) none = some (.ro c (.pb (b.drop n)) t) := by
  have hcc : (if c = 0 then 0 else c) = c := by split <;> omega
  have hnl : (n : Int) ≤ (b.length : Int) := by omega
  have hle : n + (b.length - n) ≤ b.length := by omega
  have ht : List.take (b.length - n) (b.drop n) = b.drop n := by rw [List.take_of_length_le (by simp)]
  simp [sliceV, bound, plen, pesz, psub, hnl, hcc, hle, ht]

section
variable (c t tg : Nat) (p : AV) (e : Int) (s : St) (n : Nat) (bad : Bool)

end

section
variable (c t : Nat) (p : AV) (e : Int) (s : St) (n : Nat)

/-- all that is left -/
def rsF (s : St) : List UInt8 := if s.2 ≠ 0 then [] else s.1
def rsO (c t : Nat) (s : St) : AM.Obj := if s.2 ≠ 0 then rdO c t t s else rdN t 0

end

end Go.Proofs.YtafdnpcamepbmaaDoor

/- Structures: a parameter; places in a heap. -/
namespace Go.Proofs.YtafdnpcamepbmaaDoor
open Go.AM
set_option linter.unusedSimpArgs false
set_option linter.unusedVariables false

structure Pm where
  t : Ty
  lg : Bool
  v : Va

def Pm.pay (p : Pm) : AV := .pc [.int .u8 (p.t.t : Nat), .bool p.t.u, .bool p.lg, .int .i64 p.v.k, .int .i64 p.v.i, .int .u64 (p.v.b : Nat), .str p.v.t, .bool p.v.w.neg, .int .i64 p.v.w.y, .int .i64 p.v.w.mo, .int .i64 p.v.w.d, .int .i64 p.v.w.h, .int .i64 p.v.w.mi, .int .i64 p.v.w.s, .int .i64 p.v.w.us]
def pmO (p : Pm) : AM.Obj := ⟨p.pay, 0, some 15, 1, false, true, 0⟩
def pmL (l : List Pm) : AV := .pr 15 (l.map Pm.pay)
/-- a parameter that may be -/
def Pm.ok (p : Pm) : Prop := p.t.t < 256 ∧ p.v.b < 18446744073709551616 ∧ -9223372036854775808 ≤ p.v.i ∧ p.v.i < 9223372036854775808
/-- a parameter that Append refuses -/
def Pm.bad (p : Pm) : Bool := decide (chkV p.v p.t ≠ 0) || (p.lg && decide (p.v.k ≠ 0))

theorem at_cat {α : Type} {H r : List α} {j : Nat} {y : α} (h : H[j]? = some y) : (H ++ r)[j]? = some y := by
  rw [List.getElem?_append_left]
  · exact h
  · exact (List.getElem?_eq_some_iff.1 h).1
theorem at_lt {α : Type} {H : List α} {j : Nat} {y : α} (h : H[j]? = some y) : j < H.length := (List.getElem?_eq_some_iff.1 h).1
theorem at_set {α : Type} {H : List α} {j : Nat} {y x : α} (h : H[j]? = some y) : (H.set j x)[j]? = some x := by
  rw [List.getElem?_set_self (at_lt h)]
theorem at_ne {α : Type} {H : List α} {j k : Nat} {y x : α} (h : H[j]? = some y) (hne : k ≠ j) : (H.set k x)[j]? = some y := by
  rw [List.getElem?_set_ne hne]; exact h
theorem take_cat {α β : Type} {l : List α} {i : Nat} {p : α} (f : α → List β) (h : l[i]? = some p) : (l.take (i + 1)).flatMap f = (l.take i).flatMap f ++ f p := by
  rw [List.take_add_one, h]; simp

end Go.Proofs.YtafdnpcamepbmaaDoor

/- Walks: the closure that reads a number out of a moment's bytes. -/
namespace Go.Proofs.YtafdnpcamepbmaaDoor
open Go.AM
set_option linter.unusedSimpArgs false
set_option linter.unusedVariables false

/-- so many bytes from a place, as a number -/
def nb (c : List UInt8) (i k : Nat) : Nat := leV ((c.drop i).take k)

theorem nb_lt (c : List UInt8) (i k : Nat) : nb c i k < 256 ^ k := by
  unfold nb
  have h := leV_lt ((c.drop i).take k)
  have : ((c.drop i).take k).length ≤ k := by simp; omega
  exact Nat.lt_of_lt_of_le h (Nat.pow_le_pow_right (by omega) this)

section
variable (c : List UInt8) (i k : Nat) (b1 b2 : AM.Obj)

set_option maxRecDepth 100000 in
theorem number_code (hc : c.length = 13) (hi : i + k ≤ 13) (hk : 1 ≤ k) (hk4 : k ≤ 4) (hp1 : b1.p = .pc [.sl 1 0 13 0]) (hi1 : b1.ids = true) (hg1 : b1.g = 0) (hp2 : b2.p = .pb c) (hi2 : b2.ids = false) (hg2 : b2.g = 0) : ∃ code, Tryd.f37.body = some code ∧
    Run X (evT X) 37 2 code [(0, .int .i64 (i : Nat)), (1, .int .i64 (k : Nat)), (2, .ptr 0 0 0 0)] [some b1, some b2] ⟨.ret, [(5, .int .i64 (nb c i k : Nat))], [some b1, some b2]⟩ := by
  refine ⟨_, rfl, ?_⟩
  have hB : Byt [some b1, some b2] (.sl 1 i (13 - i) 0) (c.drop i) := Byt.part (H := [some b1, some b2]) (o := 1) rfl hg2 hp2 hi2 (by rw [List.take_of_length_le (by simp; omega)]) (by omega)
  have hR := rf_ev (n := k) hB (by simp; omega)
  have hlt := nb_lt c i k
  have h4 : 256 ^ k ≤ 256 ^ 4 := Nat.pow_le_pow_right (by omega) hk4
  have hrf : rfR (c.drop i) (k : Nat) = (((nb c i k : Nat) : Int), 0) := by
    unfold rfR
    rw [if_neg (by omega), if_neg (by simp; omega)]
    rfl
  rw [hrf] at hR
  have w1 : IntKind.i64.wrap ((nb c i k : Nat) : Int) = ((nb c i k : Nat) : Int) := wrap_i64 (by omega) (by omega)
  have hsl : sliceV X [some b1, some b2] 29 (.sl 1 0 13 0) (some (.int .i64 (i : Nat))) none = some (.sl 1 i (13 - i) 0) := by
    have hiI : (i : Int) ≤ 13 := by omega
    simp [sliceV, bound, live, hg2, hp2, pesz, hiI]
  generalize nb c i k = z at *
  generalize 13 - i = n at *
  refine ⟨0, ?_⟩
  simp (maxSteps := 2000000) -implicitDefEqProofs [-getElem?_pos, List.getElem?_cons_zero, List.getElem?_cons_succ, go_sem, eqV, plen, loadV, storeV, hp1, hi1, hg1, hsl, hR, w1]

end

theorem number_ev {H : AM.Heap} {o1 o2 i k g2 : Nat} {I K : Int} {b1 b2 : AM.Obj} {c : List UInt8} (hI : I = (i : Nat)) (hK : K = (k : Nat)) (hc : c.length = 13) (hi : i + k ≤ 13) (hk : 1 ≤ k) (hk4 : k ≤ 4)
    (h1 : H[o1]? = some (some b1)) (hp1 : b1.p = .pc [.sl o2 0 13 g2]) (hi1 : b1.ids = true) (hg1 : b1.g = 0) (ht1 : b1.tg = 0) (h2 : H[o2]? = some (some b2)) (hp2 : b2.p = .pb c) (hi2 : b2.ids = false) (hg2 : b2.g = g2) (ht2 : b2.tg = 0) (hne : o1 ≠ o2) :
    evT X 37 [.int .i64 I, .int .i64 K, .ptr o1 0 0 0] H = some (.int .i64 (nb c i k : Nat), H) := by
  subst hI hK
  obtain ⟨code, hcode, hr⟩ := number_code c i k { b1 with p := .pc [.sl 1 0 13 0], g := 0, tg := 4 } { b2 with g := 0, tg := 4 } hc hi hk hk4 rfl hi1 rfl hp2 hi2 rfl
  exact evT_eq (Ev1.fn2 (C := X) (f := 37) (H := H) (xs := [.int .i64 (i : Nat), .int .i64 (k : Nat)]) (n := 4) (l := [.int .i64 (nb c i k : Nat)]) (rest := []) (evT_below X) Tryd.func37 hcode (fun i => by rfl) h1 hg1 (by rw [hg2]; exact hp1) hi1 ht1 h2 hi2 ht2 hp2 hne rfl rfl (by simp [gtag])
    (by rw [par37]; simpa [coerce, numbered] using hr) (.inr rfl) rfl rfl rfl rfl)

end Go.Proofs.YtafdnpcamepbmaaDoor

/- Walks: a moment, or a span, read. -/
namespace Go.Proofs.YtafdnpcamepbmaaDoor
open Go.AM
set_option linter.unusedSimpArgs false
set_option linter.unusedVariables false

/-- the lengths that a moment, a span may have -/
def szL (t : Nat) : List Int := if t = 11 then [0, 8, 12] else [0, 4, 7, 11]
def knW (n t : Nat) : Bool := (szL t).any fun x => (n : Int) == x
/-- the bytes behind the length, with nothing behind them -/
def cW (b : List UInt8) : List UInt8 := let n := (b.headD 0).toNat; ((b.drop 1).take n) ++ List.replicate (13 - n) 0
def spW (c : List UInt8) : Wh := { neg := (c.headD 0).toNat == 1, y := 0, mo := 0, d := (nb c 1 4 : Nat), h := (nb c 5 1 : Nat), mi := (nb c 6 1 : Nat), s := (nb c 7 1 : Nat), us := (nb c 8 4 : Nat) }
def moW (c : List UInt8) : Wh := { neg := false, y := (nb c 0 2 : Nat), mo := (nb c 2 1 : Nat), d := (nb c 3 1 : Nat), h := (nb c 4 1 : Nat), mi := (nb c 5 1 : Nat), s := (nb c 6 1 : Nat), us := (nb c 7 4 : Nat) }
/-- what readWhen tells -/
def rdW (b : List UInt8) (t : Nat) : Wh × Nat × Int :=
  if b.length = 0 then ({}, 0, 4) else if knW (b.headD 0).toNat t = false then ({}, 0, 5) else if b.length < 1 + (b.headD 0).toNat then ({}, 0, 4) else
  if t = 11 then (if 1 < ((cW b).headD 0).toNat then ({}, 0, 5) else if fin (spW (cW b)) t = false then ({}, 0, 5) else (spW (cW b), 1 + (b.headD 0).toNat, 0))
  else if fin (moW (cW b)) t = false then ({}, 0, 5) else (moW (cW b), 1 + (b.headD 0).toNat, 0)

theorem bdSp (a : Bool) (x3 x4 x5 x6 x7 : Int) : buildV X 36 [(0, .bool a), (3, .int .i64 x3), (4, .int .i64 x4), (5, .int .i64 x5), (6, .int .i64 x6), (7, .int .i64 x7)] = some (.agg (.pc [.bool a, .int .i64 0, .int .i64 0, .int .i64 x3, .int .i64 x4, .int .i64 x5, .int .i64 x6, .int .i64 x7])) := by kernel_rfl
theorem bdMo (x1 x2 x3 x4 x5 x6 x7 : Int) : buildV X 36 [(1, .int .i64 x1), (2, .int .i64 x2), (3, .int .i64 x3), (4, .int .i64 x4), (5, .int .i64 x5), (6, .int .i64 x6), (7, .int .i64 x7)] = some (.agg (.pc [.bool false, .int .i64 x1, .int .i64 x2, .int .i64 x3, .int .i64 x4, .int .i64 x5, .int .i64 x6, .int .i64 x7])) := by kernel_rfl

/-- a variable that holds a slice -/
def svO (o n g : Nat) : AM.Obj := ⟨.pc [.sl o 0 n g], 0, some 1, 1, false, true, 0⟩

section
variable (c : Nat) (b : List UInt8) (t : Nat)

def rwFr (n : Nat) (L : List Int) (kd : Bool) (i : Nat) : AM.Frame := [(0, .ro c (.pb b) 1), (1, .int .u8 (t : Nat)), (4, .ptr 0 0 0 0), (7, .ptr 1 0 0 0), (8, .int .i64 (n : Nat)), (10, .bool kd), (27, .ro 1 (.pi .i64 L) 0), (28, .int .i64 (L.length : Nat)), (29, .int .i64 (i : Nat))]

set_option maxRecDepth 100000 in
set_option maxHeartbeats 4000000 in
theorem rw_loop (n : Nat) (L : List Int) (hL : L.length ≤ 100) : ∃ code, ((Tryd.f24.body).bind (codeAt [1, 1, 1, 1, 1, 1, 1, 0, 1])) = some code ∧
    Tells (Goes fun fr H => H = [some (whO {}), some (whO {})] ∧ fr = rwFr c b t n L (L.any fun x => (n : Int) == x) L.length ++ [(30, .bool false)]) X (evT X) 24 0 code (rwFr c b t n L false 0) [some (whO {}), some (whO {})] := by
  refine ⟨_, rfl, ?_⟩
  apply Tells.block
  refine Tells.loopP (fun k fr H => ∃ i, k = L.length - i ∧ i ≤ L.length ∧ H = [some (whO {}), some (whO {})] ∧ fr = rwFr c b t n L ((L.take i).any fun x => (n : Int) == x) i) ?_ (k := L.length) ⟨0, rfl, by omega, rfl, rfl⟩
  rintro k fr H ⟨i, rfl, hi, rfl, rfl⟩
  by_cases hin : i = L.length
  · subst hin
    rw [List.take_length]
    refine Tells.of (o := ⟨.exit 0, rwFr c b t n L (L.any fun x => (n : Int) == x) L.length ++ [(30, .bool false)], _⟩) ⟨0, ?_⟩ (.inr ⟨by simp, rfl, rfl, rfl⟩)
    generalize (L.any fun x => (n : Int) == x) = a at *
    simp (maxSteps := 2000000) -implicitDefEqProofs [-getElem?_pos, List.getElem?_cons_zero, List.getElem?_cons_succ, go_sem, eqV, plen, loadV, storeV, rwFr]
  have hlt : i < L.length := by omega
  have hiI : (i : Int) < (L.length : Int) := by omega
  obtain ⟨x, hx⟩ : ∃ x, L[i]? = some x := ⟨_, List.getElem?_eq_getElem hlt⟩
  have hsn : ((L.take (i + 1)).any fun x => (n : Int) == x) = (((L.take i).any fun x => (n : Int) == x) || ((n : Int) == x)) := by
    rw [List.take_add_one, hx]; simp
  have w1 : IntKind.i64.wrap ((i : Int) + 1) = ((i + 1 : Nat) : Int) := by rw [wrap_i64 (by omega) (by omega)]; omega
  refine Tells.of (o := ⟨.normal, rwFr c b t n L ((L.take (i + 1)).any fun x => (n : Int) == x) (i + 1), _⟩) ⟨0, ?_⟩ (.inl ⟨rfl, L.length - (i + 1), by omega, i + 1, rfl, by omega, rfl, rfl⟩)
  rw [hsn]
  generalize ((L.take i).any fun x => (n : Int) == x) = a at *
  cases a with
  | true => simp (maxSteps := 2000000) -implicitDefEqProofs [-getElem?_pos, List.getElem?_cons_zero, List.getElem?_cons_succ, go_sem, eqV, plen, loadV, storeV, rwFr, hiI, hlt, hx, w1]
  | false =>
    generalize hnx : ((n : Int) == x) = e at *
    simp (maxSteps := 2000000) -implicitDefEqProofs [-getElem?_pos, List.getElem?_cons_zero, List.getElem?_cons_succ, go_sem, eqV, plen, loadV, storeV, rwFr, hiI, hlt, hx, w1, hnx]

end

theorem slMid1 {c t n : Nat} {b : List UInt8} (hc : c = 0 → b = []) (hn : 1 + n ≤ b.length) (H : AM.Heap) : sliceV X H 29 (.ro c (.pb b) t) (some (.int .i64 1)) (some (.int .i64 ((1 + n : Nat) : Int))) = some (.ro (if c = 0 then 0 else 2) (.pb ((b.drop 1).take n)) t) :=
  slMid (m := 1) hn H

theorem cpN {H : AM.Heap} {ob : AM.Obj} {m l : List UInt8} {c t : Nat} (h2 : H[2]? = some (some ob)) (hg : ob.g = 0) (hp : ob.p = .pb m) (hi : ob.ids = false) (hm : m.length = 13) (hl : l.length ≤ 13) :
    copyV X H 29 (.sl 2 0 13 0) (.ro c (.pb l) t) = some (.int .i64 l.length, upd H 2 (some { ob with p := .pb (l ++ m.drop l.length) })) := by
  have hok : okT X 5 = true := by kernel_rfl
  simp [copyV, live, h2, hg, hp, hi, hm, hl, hok]

end Go.Proofs.YtafdnpcamepbmaaDoor
