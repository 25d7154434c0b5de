/- Plain: numbers in bytes, the lowest first; walks: both ReadFixed. -/
import Derived.Test.YtbmddnokokoofaaX
import Derived.Test.YtbmddnokokoofaaAm3
namespace Go.Proofs.Ytbmddnokokoofaa
open Go.AM
set_option linter.unusedSimpArgs false
set_option linter.unusedVariables false

/-- bytes as a number, the lowest first -/
def leV : List UInt8 → Nat
  | [] => 0
  | b :: r => b.toNat + 256 * leV r

/-- the n lowest bytes of a number -/
def leB : Nat → Nat → List UInt8
  | 0, _ => []
  | n + 1, x => UInt8.ofNat (x % 256) :: leB n (x / 256)

theorem leB_len : ∀ n x, (leB n x).length = n
  | 0, _ => rfl
  | n + 1, x => by simp [leB, leB_len n]

theorem leV_lt : ∀ l : List UInt8, leV l < 256 ^ l.length
  | [] => by simp [leV]
  | b :: r => by
    have := leV_lt r
    have := b.toNat_lt
    simp only [leV, List.length_cons, Nat.pow_succ]
    omega

theorem leV_snoc (b : UInt8) : ∀ l : List UInt8, leV (l ++ [b]) = leV l + b.toNat * 256 ^ l.length
  | [] => by simp [leV]
  | c :: r => by
    simp only [List.cons_append, leV, leV_snoc b r, List.length_cons, Nat.pow_succ, Nat.mul_add]
    rw [Nat.mul_comm (256 ^ r.length) 256, ← Nat.mul_assoc, ← Nat.mul_assoc, Nat.mul_comm 256 b.toNat]
    omega

theorem leV_leB : ∀ n x, leV (leB n x) = x % 256 ^ n
  | 0, x => by simp [leB, leV]; omega
  | n + 1, x => by
    simp only [leB, leV, leV_leB n]
    have h : (UInt8.ofNat (x % 256)).toNat = x % 256 := by simp
    rw [h, Nat.pow_succ, Nat.mul_comm (256 ^ n) 256, Nat.mod_mul]

theorem leB_leV : ∀ l : List UInt8, leB l.length (leV l) = l
  | [] => rfl
  | b :: r => by
    have hb := b.toNat_lt
    simp only [List.length_cons, leB, leV]
    rw [show (b.toNat + 256 * leV r) % 256 = b.toNat by omega, show (b.toNat + 256 * leV r) / 256 = leV r by omega, leB_leV r]
    simp

theorem leB_snoc : ∀ n x, leB (n + 1) x = leB n x ++ [UInt8.ofNat (x / 256 ^ n % 256)]
  | 0, x => by simp [leB]
  | n + 1, x => by
    rw [leB, leB_snoc n (x / 256), leB]
    simp only [List.cons_append]
    rw [Nat.div_div_eq_div_mul, Nat.pow_succ, Nat.mul_comm]

theorem pow256 (i : Nat) : (256 : Nat) ^ i = 2 ^ (8 * i) := by rw [Nat.pow_mul]

theorem or_le {x y i : Nat} (hx : x < 256 ^ i) (hy : y < 256) (hi : i < 8) :
    IntKind.u64.wrap ((AM.bits .u64 (x : Int) ||| AM.bits .u64 (IntKind.u64.wrap ((y : Int) * 2 ^ (8 * i)))).toNat : Nat) = ((x + y * 256 ^ i : Nat) : Int) := by
  have hp : (256 : Nat) ^ i ≤ 256 ^ 7 := Nat.pow_le_pow_right (by omega) (by omega)
  have hm : y * 256 ^ i ≤ 255 * 256 ^ 7 := Nat.mul_le_mul (by omega) hp
  have hpi : ((y : Int) * 2 ^ (8 * i)) = ((y * 256 ^ i : Nat) : Int) := by rw [pow256]; simp
  have hxx : x < 18446744073709551616 := by omega
  rw [hpi, wrap_u64 (n := ((y * 256 ^ i : Nat) : Int)) (by omega) (by omega)]
  have hb : ∀ v : Nat, v < 18446744073709551616 → (AM.bits .u64 (v : Int)).toNat = v := by
    intro v hv
    unfold AM.bits
    simp [IntKind.bits]
    omega
  have e : (AM.bits .u64 (x : Int) ||| AM.bits .u64 ((y * 256 ^ i : Nat) : Int)).toNat = x + y * 256 ^ i := by
    rw [show (AM.bits .u64 (x : Int) ||| AM.bits .u64 ((y * 256 ^ i : Nat) : Int)).toNat = (AM.bits .u64 (x : Int)).toNat ||| (AM.bits .u64 ((y * 256 ^ i : Nat) : Int)).toNat by simp]
    rw [hb x hxx, hb _ (by omega), pow256, ← Nat.shiftLeft_eq, Nat.or_comm, ← Nat.shiftLeft_add_eq_or_of_lt (by rw [← pow256]; exact hx), Nat.add_comm]
  rw [e, wrap_u64 (by omega) (by omega)]

theorem take_snoc {l : List UInt8} {i : Nat} {y : UInt8} (h : l[i]? = some y) : l.take (i + 1) = l.take i ++ [y] := by
  rw [List.take_add_one, h]; rfl

/-- what a fixed number's reading tells -/
def rfR (b : List UInt8) (n : Int) : Int × Int :=
  if n < 1 ∨ 8 < n then (0, 2) else if (b.length : Int) < n then (0, 4) else ((leV (b.take n.toNat) : Nat), 0)

section
variable (T : Cf) (c : Nat) (b : List UInt8) (n : Nat)

def rfFr (i : Nat) (x : Nat) : AM.Frame := [(0, .ro c (.pb b) 1), (6, .int .u64 (x : Nat)), (18, .int .i64 (n : Nat)), (19, .int .i64 (i : Nat))]

set_option maxRecDepth 100000 in
theorem readFixed_code (n : Int) (hb : b.length < 9223372036854775808) : ∃ code, Try.f45.body = some code ∧
    Run X T 45 0 code [(0, .ro c (.pb b) 1), (1, .int .i64 n)] [] ⟨.ret, [(4, .int .u64 (rfR b n).1), (5, .int .i64 (rfR b n).2)], []⟩ := by
  refine ⟨_, rfl, ?_⟩
  unfold rfR
  by_cases h1 : n < 1
  · rw [if_pos (.inl h1)]
    refine ⟨0, ?_⟩
    simp (maxSteps := 2000000) -implicitDefEqProofs [-getElem?_pos, List.getElem?_cons_zero, List.getElem?_cons_succ, go_sem, eqV, plen, loadV, storeV, h1]
  by_cases h8 : 8 < n
  · rw [if_pos (.inr h8)]
    refine ⟨0, ?_⟩
    simp (maxSteps := 2000000) -implicitDefEqProofs [-getElem?_pos, List.getElem?_cons_zero, List.getElem?_cons_succ, go_sem, eqV, plen, loadV, storeV, h1, h8]
  rw [if_neg (by omega)]
  by_cases hl : (b.length : Int) < n
  · rw [if_pos hl]
    refine ⟨0, ?_⟩
    simp (maxSteps := 2000000) -implicitDefEqProofs [-getElem?_pos, List.getElem?_cons_zero, List.getElem?_cons_succ, go_sem, eqV, plen, loadV, storeV, h1, h8, hl]
  rw [if_neg hl]
  obtain ⟨n, rfl⟩ : ∃ m : Nat, n = (m : Int) := ⟨n.toNat, by omega⟩
  rw [Int.toNat_natCast]
  apply Run.seq
  · (refine ⟨0, ?_⟩; conv => lhs; simp (maxSteps := 2000000) -implicitDefEqProofs [-getElem?_pos, List.getElem?_cons_zero, List.getElem?_cons_succ, go_sem, eqV, plen, loadV, storeV])
  apply Run.seq
  · (refine ⟨0, ?_⟩; conv => lhs; simp (maxSteps := 2000000) -implicitDefEqProofs [-getElem?_pos, List.getElem?_cons_zero, List.getElem?_cons_succ, go_sem, eqV, plen, loadV, storeV, h1, h8])
  apply Run.seq
  · (refine ⟨0, ?_⟩; conv => lhs; simp (maxSteps := 2000000) -implicitDefEqProofs [-getElem?_pos, List.getElem?_cons_zero, List.getElem?_cons_succ, go_sem, eqV, plen, loadV, storeV, hl])
  apply Run.seq
  · (refine ⟨0, ?_⟩; conv => lhs; simp (maxSteps := 2000000) -implicitDefEqProofs [-getElem?_pos, List.getElem?_cons_zero, List.getElem?_cons_succ, go_sem, eqV, plen, loadV, storeV])
  apply Run.seq (fr' := rfFr c b n n (leV (b.take n)) ++ [(20, .bool false)]) (H' := [])
  · apply Run.seq (fr' := rfFr c b n 0 0) (H' := [])
    · (refine ⟨0, ?_⟩; simp (maxSteps := 2000000) -implicitDefEqProofs [-getElem?_pos, List.getElem?_cons_zero, List.getElem?_cons_succ, go_sem, eqV, plen, loadV, storeV, rfFr])
    · apply Run.block_exit
      refine Run.loop_rule (σ := Nat) (fun i => i ≤ n) (fun i => rfFr c b n i (leV (b.take i))) (fun _ => []) (fun _ => ⟨.exit 0, rfFr c b n n (leV (b.take n)) ++ [(20, .bool false)], []⟩) (fun i => n - i) ?_ 0 (Nat.zero_le _)
      intro i hi
      simp only
      by_cases hin : i = n
      · right
        refine ⟨?_, by simp⟩
        subst hin
        (refine ⟨0, ?_⟩; simp (maxSteps := 2000000) -implicitDefEqProofs [-getElem?_pos, List.getElem?_cons_zero, List.getElem?_cons_succ, go_sem, eqV, plen, loadV, storeV, rfFr])
      · left
        have hlt : i < b.length := by omega
        have hiI : (i : Int) < (n : Int) := by omega
        obtain ⟨y, hy⟩ : ∃ y, b[i]? = some y := ⟨b[i], List.getElem?_eq_getElem hlt⟩
        have hx := leV_lt (b.take i)
        rw [List.length_take, Nat.min_eq_left (by omega)] at hx
        have hor := or_le hx y.toNat_lt (show i < 8 by omega)
        have hsn := leV_snoc y (b.take i)
        rw [← take_snoc hy, List.length_take, Nat.min_eq_left (by omega)] at hsn
        rw [← hsn] at hor
        refine ⟨i + 1, by omega, ?_, trivial, by omega⟩
        have w1 : IntKind.i64.wrap ((i : Int) + 1) = ((i + 1 : Nat) : Int) := by rw [wrap_i64 (by omega) (by omega)]; omega
        have w8 : IntKind.i64.wrap (8 * (i : Int)) = ((8 * i : Nat) : Int) := by rw [wrap_i64 (by omega) (by omega)]; omega
        have wy : IntKind.u64.wrap (y.toNat : Int) = (y.toNat : Int) := wrap_u64 (by omega) (by have := y.toNat_lt; omega)
        have hm : min (8 * i) 64 = 8 * i := by omega
        have hm0 : ¬ (((8 * i : Nat) : Int) < 0) := by omega
        generalize h8i : 8 * i = i8 at *
        (refine ⟨0, ?_⟩; simp (maxSteps := 2000000) -implicitDefEqProofs [-getElem?_pos, List.getElem?_cons_zero, List.getElem?_cons_succ, go_sem, eqV, plen, loadV, storeV, rfFr, hiI, hlt, hy, w8, wy, hm, hm0, w1, IntKind.bits])
        exact hor
  refine ⟨0, ?_⟩
  simp (maxSteps := 2000000) -implicitDefEqProofs [-getElem?_pos, List.getElem?_cons_zero, List.getElem?_cons_succ, go_sem, eqV, plen, loadV, storeV, rfFr]

def rgFr (i : Nat) (x : Nat) : AM.Frame := [(0, .ro c (.pb b) 1), (1, .int .i64 (n : Nat)), (6, .int .u64 (x : Nat)), (7, .int .i64 (i : Nat))]

set_option maxRecDepth 100000 in
theorem rreadFixed_code (n : Int) (hb : b.length < 9223372036854775808) : ∃ code, Try.f70.body = some code ∧
    Run X T 70 0 code [(0, .ro c (.pb b) 1), (1, .int .i64 n)] [] ⟨.ret, [(4, .int .u64 (rfR b n).1), (5, .int .i64 (rfR b n).2)], []⟩ := by
  refine ⟨_, rfl, ?_⟩
  unfold rfR
  by_cases h1 : n < 1
  · rw [if_pos (.inl h1)]
    refine ⟨0, ?_⟩
    simp (maxSteps := 2000000) -implicitDefEqProofs [-getElem?_pos, List.getElem?_cons_zero, List.getElem?_cons_succ, go_sem, eqV, plen, loadV, storeV, h1]
  by_cases h8 : 8 < n
  · rw [if_pos (.inr h8)]
    refine ⟨0, ?_⟩
    simp (maxSteps := 2000000) -implicitDefEqProofs [-getElem?_pos, List.getElem?_cons_zero, List.getElem?_cons_succ, go_sem, eqV, plen, loadV, storeV, h1, h8]
  rw [if_neg (by omega)]
  by_cases hl : (b.length : Int) < n
  · rw [if_pos hl]
    refine ⟨0, ?_⟩
    simp (maxSteps := 2000000) -implicitDefEqProofs [-getElem?_pos, List.getElem?_cons_zero, List.getElem?_cons_succ, go_sem, eqV, plen, loadV, storeV, h1, h8, hl]
  rw [if_neg hl]
  obtain ⟨n, rfl⟩ : ∃ m : Nat, n = (m : Int) := ⟨n.toNat, by omega⟩
  rw [Int.toNat_natCast]
  apply Run.seq
  · (refine ⟨0, ?_⟩; conv => lhs; simp (maxSteps := 2000000) -implicitDefEqProofs [-getElem?_pos, List.getElem?_cons_zero, List.getElem?_cons_succ, go_sem, eqV, plen, loadV, storeV])
  apply Run.seq
  · (refine ⟨0, ?_⟩; conv => lhs; simp (maxSteps := 2000000) -implicitDefEqProofs [-getElem?_pos, List.getElem?_cons_zero, List.getElem?_cons_succ, go_sem, eqV, plen, loadV, storeV, h1, h8])
  apply Run.seq
  · (refine ⟨0, ?_⟩; conv => lhs; simp (maxSteps := 2000000) -implicitDefEqProofs [-getElem?_pos, List.getElem?_cons_zero, List.getElem?_cons_succ, go_sem, eqV, plen, loadV, storeV, hl])
  apply Run.seq
  · (refine ⟨0, ?_⟩; conv => lhs; simp (maxSteps := 2000000) -implicitDefEqProofs [-getElem?_pos, List.getElem?_cons_zero, List.getElem?_cons_succ, go_sem, eqV, plen, loadV, storeV])
  apply Run.seq (fr' := rgFr c b n n (leV (b.take n)) ++ [(20, .bool false)]) (H' := [])
  · apply Run.seq (fr' := rgFr c b n 0 0) (H' := [])
    · (refine ⟨0, ?_⟩; simp (maxSteps := 2000000) -implicitDefEqProofs [-getElem?_pos, List.getElem?_cons_zero, List.getElem?_cons_succ, go_sem, eqV, plen, loadV, storeV, rgFr])
    · apply Run.block_exit
      refine Run.loop_rule (σ := Nat) (fun i => i ≤ n) (fun i => rgFr c b n i (leV (b.take i))) (fun _ => []) (fun _ => ⟨.exit 0, rgFr c b n n (leV (b.take n)) ++ [(20, .bool false)], []⟩) (fun i => n - i) ?_ 0 (Nat.zero_le _)
      intro i hi
      simp only
      by_cases hin : i = n
      · right
        refine ⟨?_, by simp⟩
        subst hin
        (refine ⟨0, ?_⟩; simp (maxSteps := 2000000) -implicitDefEqProofs [-getElem?_pos, List.getElem?_cons_zero, List.getElem?_cons_succ, go_sem, eqV, plen, loadV, storeV, rgFr])
      · left
        have hlt : i < b.length := by omega
        have hiI : (i : Int) < (n : Int) := by omega
        obtain ⟨y, hy⟩ : ∃ y, b[i]? = some y := ⟨b[i], List.getElem?_eq_getElem hlt⟩
        have hx := leV_lt (b.take i)
        rw [List.length_take, Nat.min_eq_left (by omega)] at hx
        have hor := or_le hx y.toNat_lt (show i < 8 by omega)
        have hsn := leV_snoc y (b.take i)
        rw [← take_snoc hy, List.length_take, Nat.min_eq_left (by omega)] at hsn
        rw [← hsn] at hor
        refine ⟨i + 1, by omega, ?_, trivial, by omega⟩
        have w1 : IntKind.i64.wrap ((i : Int) + 1) = ((i + 1 : Nat) : Int) := by rw [wrap_i64 (by omega) (by omega)]; omega
        have wi : IntKind.u64.wrap (i : Int) = (i : Int) := wrap_u64 (by omega) (by omega)
        have w8 : IntKind.u64.wrap (8 * (i : Int)) = ((8 * i : Nat) : Int) := by rw [wrap_u64 (by omega) (by omega)]; omega
        have wy : IntKind.u64.wrap (y.toNat : Int) = (y.toNat : Int) := wrap_u64 (by omega) (by have := y.toNat_lt; omega)
        have hm : min (8 * i) 64 = 8 * i := by omega
        have hm0 : ¬ (((8 * i : Nat) : Int) < 0) := by omega
        generalize h8i : 8 * i = i8 at *
        (refine ⟨0, ?_⟩; simp (maxSteps := 2000000) -implicitDefEqProofs [-getElem?_pos, List.getElem?_cons_zero, List.getElem?_cons_succ, go_sem, eqV, plen, loadV, storeV, rgFr, hiI, hlt, hy, wi, w8, wy, hm, hm0, w1, IntKind.bits])
        exact hor
  refine ⟨0, ?_⟩
  simp (maxSteps := 2000000) -implicitDefEqProofs [-getElem?_pos, List.getElem?_cons_zero, List.getElem?_cons_succ, go_sem, eqV, plen, loadV, storeV, rgFr]

end

end Go.Proofs.Ytbmddnokokoofaa
