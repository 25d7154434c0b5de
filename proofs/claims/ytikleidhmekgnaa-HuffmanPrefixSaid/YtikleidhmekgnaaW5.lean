/- Walks: Write, its inner loop. -/
import Derived.Test.YtikleidhmekgnaaW4
namespace Go.Proofs.Ytikleidhmekgnaa
open Go.AM
set_option linter.unusedSimpArgs false
set_option linter.unusedVariables false

def okV (l : List Int) : AV := .tup [.sl 0 0 l.length 0, .int .i64 0]
def badV (e : Int) : AV := .tup [.sl 0 0 0 0, .int .i64 e]

theorem codes_ev_ok (c : Nat) (l : List Int) (he : (checkR l).2 = 0) : Ev1 X 14 [.ro c (.pi .i64 l) 1] [] (okV l, [rowI l.length (codesR l)]) := by
  obtain ⟨code, hb, hr⟩ := codes_code c l he
  have := Ev1.fresh (args := [.ro c (.pi .i64 l) 1]) (l := [.sl 3 0 l.length 0, .int .i64 0]) (o := 3) (g := 0) (H := []) T2_below Try.func14 hb rfl rfl (by simp [gtag]) hr (.inr rfl) rfl rfl rfl rfl rfl rfl rfl
  exact this

theorem codes_ev_bad (c : Nat) (l : List Int) (h63 : l.length < 9223372036854775808) (he : (checkR l).2 ≠ 0) : Ev1 X 14 [.ro c (.pi .i64 l) 1] [] (badV (checkR l).2, [nilI]) := by
  obtain ⟨code, hb, hr⟩ := codes_bad c l h63 he
  have := Ev1.fresh (args := [.ro c (.pi .i64 l) 1]) (l := [.sl 1 0 0 0, .int .i64 (checkR l).2]) (o := 1) (g := 0) (H := []) T2_below Try.func14 hb rfl rfl (by simp [gtag]) hr (.inr rfl) rfl rfl rfl rfl rfl rfl rfl
  exact this

def S3 (f : Nat) (xs : List AV) : Option (AV × AM.Heap) :=
  match f, xs with
  | 14, [.ro _ (.pi .i64 l) 1] => if l.length < 9223372036854775808 then (if (checkR l).2 = 0 then some (okV l, [rowI l.length (codesR l)]) else some (badV (checkR l).2, [nilI])) else .none
  | f, xs => S2 f xs

theorem S3_ok : ∀ f xs v N, S3 f xs = some (v, N) → Ev1 X f xs [] (v, N) := by
  intro f xs v N h
  unfold S3 at h
  split at h
  · split at h
    · rename_i hl
      split at h
      · rename_i he
        simp only [Option.some.injEq, Prod.mk.injEq] at h
        obtain ⟨rfl, rfl⟩ := h
        exact codes_ev_ok _ _ he
      · rename_i he
        simp only [Option.some.injEq, Prod.mk.injEq] at h
        obtain ⟨rfl, rfl⟩ := h
        exact codes_ev_bad _ _ hl he
    · cases h
  · exact S2_ok _ _ _ _ h

noncomputable def T3 : Cf := lentT X S3
theorem T3_below : Below X T3 := lentT_below S3_ok

theorem T3_codes {H : AM.Heap} {a : AV} {l : List Int} (h : payOf H a = some (.pi .i64 l)) (hl : l.length < 9223372036854775808) (he : (checkR l).2 = 0) : T3 14 [a] H = some (.tup [.sl H.length 0 l.length 0, .int .i64 0], H ++ [rowI l.length (codesR l)]) := by
  obtain ⟨c, x, hx⟩ := args_pay (C := X) (f := 14) (i := 0) rfl h (args_nil 1)
  unfold T3 lentT
  rw [hx]
  simp [S3, hl, he, okV, rowI, idsL, ids, cleanV, cleanH, tags, tagsL, shiftV, shiftH, shiftN, ren, renL, renObj]

theorem T3_bad {H : AM.Heap} {a : AV} {l : List Int} (h : payOf H a = some (.pi .i64 l)) (hl : l.length < 9223372036854775808) (he : (checkR l).2 ≠ 0) : T3 14 [a] H = some (.tup [.sl H.length 0 0 0, .int .i64 (checkR l).2], H ++ [nilI]) := by
  obtain ⟨c, x, hx⟩ := args_pay (C := X) (f := 14) (i := 0) rfl h (args_nil 1)
  unfold T3 lentT
  rw [hx]
  simp [S3, hl, he, badV, nilI, idsL, ids, cleanV, cleanH, tags, tagsL, shiftV, shiftH, shiftN, ren, renL, renObj]

/-- the j-th bit of a code, as the program takes it -/
def bitV (a : Int) (j : Nat) : Int := IntKind.i64.wrap ((AM.bits .i64 (a.fdiv (2 ^ (min j 64))) &&& AM.bits .i64 1).toNat)

/-- a byte with a bit more -/
def orB (b : UInt8) (x : Int) (k : Nat) : UInt8 := UInt8.ofNat (IntKind.u8.wrap ((AM.bits .u8 (b.toNat : Int) ||| AM.bits .u8 (IntKind.u8.wrap (IntKind.u8.wrap x * 2 ^ (min (k % 8) 8)))).toNat)).toNat

/-- a bit behind k bits -/
def putB (b : List UInt8) (k : Nat) (x : Int) : List UInt8 :=
  if k % 8 = 0 then (b ++ [0]).set (k / 8) (orB ((b ++ [0]).getD (k / 8) 0) x k) else b.set (k / 8) (orB (b.getD (k / 8) 0) x k)

/-- j bits of a code, the highest first -/
def putC (a : Int) : Nat → Nat → List UInt8 → List UInt8
  | 0, _, b => b
  | j + 1, k, b => putC a j (k + 1) (putB b k (bitV a j))

/-- as many bytes as k bits take -/
def byB (k : Nat) : Nat := (k + 7) / 8

theorem putB_len {b : List UInt8} {k : Nat} {x : Int} (h : b.length = byB k) : (putB b k x).length = byB (k + 1) := by
  unfold putB byB at *
  split
  · simp; omega
  · simp; omega

theorem putC_len (a : Int) : ∀ (j k : Nat) (b : List UInt8), b.length = byB k → (putC a j k b).length = byB (k + j)
  | 0, k, b, h => h
  | j + 1, k, b, h => by
    rw [putC, putC_len a j (k + 1) _ (putB_len h)]
    congr 1
    omega

theorem u8_range (n : Int) : 0 ≤ IntKind.u8.wrap n ∧ IntKind.u8.wrap n < 256 := by
  have h : IntKind.u8.wrap n = n % 256 := by
    simp [IntKind.wrap, IntKind.signed, IntKind.bits]
  rw [h]
  omega

/-- the bytes' object -/
def obB (b : List UInt8) : Option AM.Obj := some { p := .pb b, g := b.length, cap := .none, z := if b.length ≤ 1 then 0 else 1, row := true, ids := false, tg := 0 }

end Go.Proofs.Ytikleidhmekgnaa
