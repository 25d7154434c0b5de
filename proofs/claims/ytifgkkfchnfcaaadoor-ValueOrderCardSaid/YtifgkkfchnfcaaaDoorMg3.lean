/- V7 to D9: texts of this claim, one behind the other; what each shows stands at its head. -/
import Derived.Test.YtifgkkfchnfcaaaDoorAm3
import Derived.Test.YtifgkkfchnfcaaaDoorMg2
/- Walks: a fixed number's lowest bytes, appended to what is handed over. -/
namespace Go.Proofs.YtifgkkfchnfcaaaDoor
open Go.AM
set_option linter.unusedSimpArgs false
set_option linter.unusedVariables false

theorem app_t {H : AM.Heap} {o g t : Nat} {ob : AM.Obj} {l m : List UInt8} {src : AV} (ho : H[o]? = some (some ob)) (h : RwT (.pb l) g t ob) (hsrc : srcV H src = some (.pb m, 0) ∨ (srcV H src = some (.pn, 0) ∧ m = [])) (hn : l.length + m.length ≤ 100000000) :
    ∃ ob', RwT (.pb (l ++ m)) (g + 1) t ob' ∧ appendV X H 22 (.sl o 0 l.length g) src = some (.sl o 0 (l.length + m.length) (g + 1), upd H o (some ob')) :=
  app_rwt (by simp) (und5) (by simp) (by simp) (by simp) ho h hsrc hn

section
variable (l : List UInt8) (x n tg : Nat)

def vfFr (i : Nat) : AM.Frame := [(0, .sl 0 0 (l.length + i) i), (1, .int .u64 (x : Nat)), (8, .int .i64 (n : Nat)), (9, .int .i64 (i : Nat))]

set_option maxRecDepth 100000 in
theorem vfixed_code (ob : AM.Obj) (hw : RwT (.pb l) 0 tg ob) (hl : l.length ≤ 90000000) (h8 : n ≤ 8) : ∃ code, Tryd.f19.body = some code ∧
    Tells (Rets fun fr H => ∃ ob', getF fr 6 = .sl 0 0 (l.length + n) n ∧ H = [some ob', some nilB] ∧ RwT (.pb (l ++ leB n x)) n tg ob') X (evT X) 19 1 code [(0, .sl 0 0 l.length 0), (1, .int .u64 (x : Nat)), (2, .int .i64 (n : Nat))] [some ob] := by
  refine ⟨_, rfl, ?_⟩
  have hmb : IntKind.u64.bits = 64 := rfl
  apply Tells.seq (fr' := [(0, .sl 0 0 l.length 0), (1, .int .u64 (x : Nat)), (2, .int .i64 (n : Nat))]) (H' := [some ob, some nilB])
  · (refine ⟨0, ?_⟩; simp (maxSteps := 2000000) -implicitDefEqProofs [-getElem?_pos, List.getElem?_cons_zero, List.getElem?_cons_succ, go_sem, eqV, plen, loadV, storeV, assignV, emB])
  apply Tells.andThen (P := fun fr H => ∃ ob', fr = vfFr l x n n ++ [(10, .bool false)] ∧ H = [some ob', some nilB] ∧ RwT (.pb (l ++ leB n x)) n tg ob')
  · apply Tells.seq (fr' := vfFr l x n 0) (H' := [some ob, some nilB])
    · (refine ⟨0, ?_⟩; simp (maxSteps := 2000000) -implicitDefEqProofs [-getElem?_pos, List.getElem?_cons_zero, List.getElem?_cons_succ, go_sem, eqV, plen, loadV, storeV, vfFr])
    apply Tells.block
    refine Tells.loop (σ := Nat × AM.Obj) (fun s => s.1 ≤ n ∧ RwT (.pb (l ++ leB s.1 x)) s.1 tg s.2) (fun s => vfFr l x n s.1) (fun s => [some s.2, some nilB]) (fun s => n - s.1) ?_ (0, ob) ⟨by simp, by simpa [leB] using hw⟩
    rintro ⟨i, ob⟩ ⟨hi, hw⟩
    simp only at hi hw ⊢
    by_cases hin : i = n
    · right
      subst hin
      refine ⟨⟨.exit 0, vfFr l x i i ++ [(10, .bool false)], [some ob, some nilB]⟩, ⟨rfl, ob, rfl, rfl, hw⟩, by simp, ?_⟩
      (refine ⟨0, ?_⟩; simp (maxSteps := 2000000) -implicitDefEqProofs [-getElem?_pos, List.getElem?_cons_zero, List.getElem?_cons_succ, go_sem, eqV, plen, loadV, storeV, vfFr])
    · left
      have hlt : i < 8 := by omega
      have hiI : (i : Int) < (n : Int) := by omega
      have w1 : IntKind.i64.wrap ((i : Int) + 1) = ((i + 1 : Nat) : Int) := by rw [wrap_i64 (by omega) (by omega)]; omega
      have w8 : IntKind.i64.wrap (8 * (i : Int)) = ((8 * i : Nat) : Int) := by rw [wrap_i64 (by omega) (by omega)]; omega
      have hn0 : ¬ (((8 * i : Nat) : Int) < 0) := by omega
      have hsh := shr_u64 (x := x) hlt
      have hlen := leB_len i x
      obtain ⟨ob', hw', hA⟩ := app_t (H := [some ob, some nilB]) (o := 0) (src := .ro 1 (.pb [UInt8.ofNat (x / 256 ^ i % 256)]) 0) rfl hw (.inl rfl) (by simp [hlen]; omega)
      rw [List.append_assoc, ← leB_snoc] at hw'
      simp only [List.length_append, hlen, List.length_cons, List.length_nil] at hA
      refine ⟨(i + 1, ob'), ⟨by simp only; omega, hw'⟩, ?_, by simp only; omega⟩
      have hwb := wrap_byte (x / 256 ^ i)
      have hbs := fun H => bs1 H (UInt8.ofNat (x / 256 ^ i % 256))
      generalize x / 256 ^ i = z at *
      generalize UInt8.ofNat (z % 256) = y at *
      generalize 8 * i = i8 at *
      (refine ⟨0, ?_⟩; simp (maxSteps := 2000000) -implicitDefEqProofs [-getElem?_pos, List.getElem?_cons_zero, List.getElem?_cons_succ, go_sem, eqV, plen, loadV, storeV, vfFr, hiI, w1, w8, hn0, hmb, hsh, hwb, hbs, hA, upd])
      omega
  · rintro fr H ⟨ob', rfl, rfl, hw⟩
    refine Tells.of (o := ⟨.ret, [(6, .sl 0 0 (l.length + n) n)], [some ob', some nilB]⟩) ?_ ⟨rfl, ob', rfl, rfl, hw⟩
    refine ⟨0, ?_⟩
    simp (maxSteps := 2000000) -implicitDefEqProofs [-getElem?_pos, List.getElem?_cons_zero, List.getElem?_cons_succ, go_sem, eqV, plen, loadV, storeV, vfFr, assignV]

end

/-- as it is told to the caller -/
theorem vfixed_ev {H : AM.Heap} {o g x n tg : Nat} {N : Int} {ob : AM.Obj} {l : List UInt8} (ho : H[o]? = some (some ob)) (hw : RwT (.pb l) g tg ob) (hN : N = (n : Nat)) (hl : l.length ≤ 90000000) (h1 : 1 ≤ n) (h8 : n ≤ 8) :
    ∃ ob', RwT (.pb (l ++ leB n x)) (g + 1) tg ob' ∧ evT X 19 [.sl o 0 l.length g, .int .u64 (x : Nat), .int .i64 N] H = some (.sl o 0 (l.length + n) (g + 1), upd H o (some ob')) := by
  subst hN
  obtain ⟨code, hcode, ⟨out, ⟨he, ob', q1, q2, q3⟩, hrun⟩⟩ := vfixed_code l x n 4 { ob with g := 0, tg := 4 } ⟨hw.p, rfl, hw.row, hw.ids, rfl⟩ hl h8
  refine ⟨{ ob' with g := g + 1, tg := tg }, ⟨q3.p, rfl, q3.row, q3.ids, rfl⟩, evT_eq ?_⟩
  have := Ev1.rwB (C := X) (f := 19) (H := H) (o := o) (off := 0) (len := l.length) (g := g) (ob := ob) (ob1 := ob') (xs := [.int .u64 (x : Nat), .int .i64 (n : Nat)]) (ys := [.int .u64 (x : Nat), .int .i64 (n : Nat)]) (n := 4) (rest := []) (restH := [some nilB]) (off1 := 0) (n1 := l.length + n) (g1 := n)
    (evT_below X) Tryd.func19 hcode rfl ho hw.g hw.ids (by rw [hw.p]; rfl) (args_flat rfl rfl (args_flat rfl rfl (args_nil 3))) rfl rfl rfl (by simp [gtag])
    (by rw [par19]; simpa [coerce, numbered] using hrun) (.inr he) (by show some [getF out.fr 6] = _; rw [q1]) q2 q3.g q3.ids (by rw [q3.p]; rfl) (.inr q3.tg) rfl rfl rfl
  rw [if_neg (by omega), q3.tg, hw.tg] at this
  exact this

end Go.Proofs.YtifgkkfchnfcaaaDoor

/- Walks: counted texts, read. -/
namespace Go.Proofs.YtifgkkfchnfcaaaDoor
open Go.AM
set_option linter.unusedSimpArgs false
set_option linter.unusedVariables false

theorem slMid {c t m n : Nat} {b : List UInt8} (hn : m + n ≤ b.length) (H : AM.Heap) : sliceV X H 22 (.ro c (.pb b) t) (some (.int .i64 (m : Nat))) (some (.int .i64 ((m + n : Nat) : Int))) = some (.ro (if c = 0 then 0 else 2) (.pb ((b.drop m).take n)) t) := by
  have h1 : ((m + n : Nat) : Int) ≤ (b.length : Int) := by omega
  have h2 : (m : Int) ≤ ((m + n : Nat) : Int) := by omega
  have h3 : m + (m + n - m) ≤ b.length := by omega
  have h4 : m + n - m = n := by omega
  have h5 : (0 : Int) ≤ ((m + n : Nat) : Int) := by omega
  generalize hk : m + n = k at *
  have h6 : m + n ≤ b.length := by omega
  simp [sliceV, bound, plen, pesz, psub, h1, h2, h3, h4, h5, h6]

section
variable (c : Nat) (b : List UInt8)

set_option maxRecDepth 100000 in
theorem readText_code (hc : c = 0 → b = []) (hb : b.length ≤ 90000000) : ∃ code, Tryd.f37.body = some code ∧
    Run X (evT X) 37 0 code [(0, .ro c (.pb b) 1)] [] ⟨.ret, [(2, .str (rdT b).1), (3, .int .i64 ((rdT b).2.1 : Nat)), (4, .int .i64 (rdT b).2.2)], []⟩ := by
  refine ⟨_, rfl, 0, ?_⟩
  have hI := readInt_ev (H := []) (a := .ro c (.pb b) 1) (b := b) (Byt.ro (.inl rfl) hc) hb
  have hle := rdI_le (b := b)
  have hlt := rdI_lt b
  unfold rdT
  generalize rdI b = r at *
  obtain ⟨x, m, e⟩ := r
  simp only at hI hle hlt ⊢
  by_cases he : e = 0
  · subst he
    obtain ⟨h1, h2⟩ := hle rfl
    rw [if_neg (by simp)]
    have w1 : IntKind.i64.wrap ((b.length : Int) - (m : Int)) = ((b.length - m : Nat) : Int) := by rw [wrap_i64 (by omega) (by omega)]; omega
    have w2 : IntKind.u64.wrap ((b.length - m : Nat) : Int) = ((b.length - m : Nat) : Int) := wrap_u64 (by omega) (by omega)
    by_cases hx : b.length - m < x
    · rw [if_pos hx]
      have hxi : ((b.length - m : Nat) : Int) < (x : Int) := by omega
      generalize b.length - m = z at *
      simp (maxSteps := 2000000) -implicitDefEqProofs [-getElem?_pos, List.getElem?_cons_zero, List.getElem?_cons_succ, go_sem, eqV, plen, loadV, storeV, hI, w1, w2, hxi]
    · rw [if_neg hx]
      have hxi : ¬ ((b.length - m : Nat) : Int) < (x : Int) := by omega
      have w3 : IntKind.i64.wrap (x : Int) = (x : Int) := wrap_i64 (by omega) (by omega)
      have w4 : IntKind.i64.wrap ((m : Int) + (x : Int)) = ((m + x : Nat) : Int) := by rw [wrap_i64 (by omega) (by omega)]; omega
      have hS := fun H => slMid (c := c) (t := 1) (m := m) (n := x) (b := b) (by omega) H
      generalize m + x = k at *
      generalize b.length - m = z at *
      simp (maxSteps := 2000000) -implicitDefEqProofs [-getElem?_pos, List.getElem?_cons_zero, List.getElem?_cons_succ, go_sem, eqV, plen, loadV, storeV, hI, w1, w2, hxi, w3, w4, hS, readSl]
  · have heb : (e != 0) = true := by simpa using he
    rw [if_pos he]
    simp (maxSteps := 2000000) -implicitDefEqProofs [-getElem?_pos, List.getElem?_cons_zero, List.getElem?_cons_succ, go_sem, eqV, plen, loadV, storeV, hI, he, heb]

end

theorem readText_ev {H : AM.Heap} {a : AV} {b : List UInt8} (h : Byt H a b) (hb : b.length ≤ 90000000) :
    evT X 37 [a] H = some (.tup [.str (rdT b).1, .int .i64 ((rdT b).2.1 : Nat), .int .i64 (rdT b).2.2], H) := by
  obtain ⟨c, p, xl, hp, hc, hx'⟩ := args_byt (C := X) (f := 37) (i := 0) rfl h (args_nil 1)
  obtain ⟨code, hcode, hr⟩ := readText_code c b hc hb
  refine evT_eq (Ev1.toldP (l := [.str (rdT b).1, .int .i64 ((rdT b).2.1 : Nat), .int .i64 (rdT b).2.2]) (evT_below X) Tryd.func37 hcode hx' (by simp [idsL, ids, hp.ids]) (by simp [gtag]) rfl rfl rfl ?_)
  rw [par37, coB hp]
  exact ⟨_, ⟨rfl, rfl⟩, hr⟩

end Go.Proofs.YtifgkkfchnfcaaaDoor

/- Types' names, by evaluation. -/
namespace Go.Proofs.YtifgkkfchnfcaaaDoor
open Go.AM
set_option linter.unusedSimpArgs false
set_option linter.unusedVariables false

/-- a number below 1000, written -/
def dg (k : Nat) : List UInt8 := if k < 10 then [UInt8.ofNat (48 + k)] else if k < 100 then [UInt8.ofNat (48 + k / 10), UInt8.ofNat (48 + k % 10)] else [UInt8.ofNat (48 + k / 100), UInt8.ofNat (48 + k / 10 % 10), UInt8.ofNat (48 + k % 10)]
/-- the name of a type that is known -/
def nmC (k : Nat) : List UInt8 := match k with
  | 0 => [100, 101, 99, 105, 109, 97, 108]
  | 1 => [116, 105, 110, 121]
  | 2 => [115, 104, 111, 114, 116]
  | 3 => [108, 111, 110, 103]
  | 4 => [102, 108, 111, 97, 116]
  | 5 => [100, 111, 117, 98, 108, 101]
  | 6 => [110, 117, 108, 108]
  | 7 => [116, 105, 109, 101, 115, 116, 97, 109, 112]
  | 8 => [108, 111, 110, 103, 45, 108, 111, 110, 103]
  | 9 => [105, 110, 116, 50, 52]
  | 10 => [100, 97, 116, 101]
  | 11 => [116, 105, 109, 101]
  | 12 => [100, 97, 116, 101, 45, 116, 105, 109, 101]
  | 13 => [121, 101, 97, 114]
  | 15 => [118, 97, 114, 45, 99, 104, 97, 114]
  | 16 => [98, 105, 116]
  | 245 => [106, 115, 111, 110]
  | 246 => [110, 101, 119, 45, 100, 101, 99, 105, 109, 97, 108]
  | 247 => [101, 110, 117, 109]
  | 248 => [115, 101, 116]
  | 249 => [116, 105, 110, 121, 45, 98, 108, 111, 98]
  | 250 => [109, 101, 100, 105, 117, 109, 45, 98, 108, 111, 98]
  | 251 => [108, 111, 110, 103, 45, 98, 108, 111, 98]
  | 252 => [98, 108, 111, 98]
  | 253 => [118, 97, 114, 45, 115, 116, 114, 105, 110, 103]
  | 254 => [115, 116, 114, 105, 110, 103]
  | 255 => [103, 101, 111, 109, 101, 116, 114, 121]
  | _ => []
/-- is a type known? -/
def kn (k : Nat) : Bool := !(nmC k).isEmpty
/-- a type's name -/
def nmS (k : Nat) : List UInt8 := if kn k then nmC k else [116, 121, 112, 101, 45] ++ dg k
/-- all names -/
def nmL : List AV := (List.range 256).map fun k => .str (nmC k)

theorem idsL_strs : ∀ l : List Nat, idsL (l.map fun k => AV.str (nmC k)) = []
  | [] => rfl
  | a :: r => by simp [idsL, ids, idsL_strs r]

theorem nmL_at {k : Nat} (h : k < 256) : nmL[k]? = some (.str (nmC k)) := by simp [nmL, h]

theorem names_ev (H : AM.Heap) : evT X 47 [] H = some (.agg (.pc nmL), H) := by
  have h := Ev1.tried (T := fun _ _ _ => none) (C := X) Below.none (n := 50) (f := 47) (args := []) (v := .agg (.pc nmL)) (N := []) (by kernel_rfl) H
  have e : shiftV H.length (.agg (.pc nmL)) = .agg (.pc nmL) := ren_flat _ (by show idsL nmL = []; exact idsL_strs _) (fun _ _ => rfl)
  rw [e] at h
  exact evT_eq (by simpa [shiftH] using h)

section
variable (k : Nat)

set_option maxRecDepth 100000 in
theorem known_code (hk : k < 256) : ∃ code, Tryd.f32.body = some code ∧
    Run X (evT X) 32 0 code [(0, .int .u8 (k : Nat))] [] ⟨.ret, [(2, .bool (kn k))], []⟩ := by
  refine ⟨_, rfl, 0, ?_⟩
  have hN := names_ev []
  have hA := nmL_at hk
  have hk2 : (k : Int) < 256 := by omega
  have hb : ∀ l : List UInt8, (!(l == [])) = !l.isEmpty := fun l => by cases l <;> rfl
  unfold kn
  generalize nmL = L at *
  generalize nmC k = s at *
  simp (maxSteps := 2000000) -implicitDefEqProofs [-getElem?_pos, List.getElem?_cons_zero, List.getElem?_cons_succ, go_sem, eqV, plen, loadV, storeV, hN, hA, indexV, hk2, strOp, hb]

end

theorem known_ev {k : Nat} (hk : k < 256) (H : AM.Heap) : evT X 32 [.int .u8 (k : Nat)] H = some (.bool (kn k), H) := by
  obtain ⟨code, hcode, hr⟩ := known_code k hk
  exact evT_eq (Ev1.toldP (l := [.bool (kn k)]) (evT_below X) Tryd.func32 hcode (args_flat (i := 0) rfl rfl (args_nil 1)) rfl (by simp [gtag]) rfl rfl rfl ⟨_, ⟨rfl, rfl⟩, hr⟩)

theorem rknown_ev {k : Nat} (hk : k < 256) (H : AM.Heap) : evT X 33 [.int .u8 (k : Nat)] H = some (.bool (kn k), H) :=
  evT_eq (Ev1.each (T := fun _ _ _ => none) Below.none (n := 50) (f := 33) (N := 256) (a := fun k => .int .u8 (k : Nat)) (v := fun k => .bool (kn k)) (by kernel_rfl) (fun _ => rfl) hk H)

section
variable (k : Nat)

end

end Go.Proofs.YtifgkkfchnfcaaaDoor

/- Walks: kinds and sizes of types; moments that may be. -/
namespace Go.Proofs.YtifgkkfchnfcaaaDoor
open Go.AM
set_option linter.unusedSimpArgs false
set_option linter.unusedVariables false

structure Wh where
  neg : Bool := false
  y : Int := 0
  mo : Int := 0
  d : Int := 0
  h : Int := 0
  mi : Int := 0
  s : Int := 0
  us : Int := 0
  deriving DecidableEq

structure Va where
  k : Int := 0
  i : Int := 0
  b : Nat := 0
  t : List UInt8 := []
  w : Wh := {}
  deriving DecidableEq

structure Ty where
  t : Nat
  u : Bool

def Wh.pay (w : Wh) : AV := .pc [.bool w.neg, .int .i64 w.y, .int .i64 w.mo, .int .i64 w.d, .int .i64 w.h, .int .i64 w.mi, .int .i64 w.s, .int .i64 w.us]
def Va.pay (v : Va) : AV := .pc [.int .i64 v.k, .int .i64 v.i, .int .u64 (v.b : Nat), .str v.t, .bool v.w.neg, .int .i64 v.w.y, .int .i64 v.w.mo, .int .i64 v.w.d, .int .i64 v.w.h, .int .i64 v.w.mi, .int .i64 v.w.s, .int .i64 v.w.us]
def Ty.pay (t : Ty) : AV := .pc [.int .u8 (t.t : Nat), .bool t.u]
def whO (w : Wh) : AM.Obj := ⟨w.pay, 0, some 8, 1, false, true, 0⟩
def vaO (v : Va) : AM.Obj := ⟨v.pay, 0, some 12, 1, false, true, 0⟩
def tyO (t : Ty) : AM.Obj := ⟨t.pay, 0, some 2, 1, false, true, 0⟩

theorem mkWh (l : List AV) : mkAgg X 25 l = some (.pc l) := by kernel_rfl
theorem mkVa (l : List AV) : mkAgg X 27 l = some (.pc l) := by kernel_rfl
theorem mkTy (l : List AV) : mkAgg X 29 l = some (.pc l) := by kernel_rfl

theorem args_wh {f i : Nat} {H : AM.Heap} {w : Wh} {r ys : List AV} {xs : List Lent} (hr : lendArgs X f H (i + 1) r = some (ys, xs)) (hrw : X.rw f i = false := by rfl) :
    lendArgs X f H i (.agg w.pay :: r) = some (.agg w.pay :: ys, ⟨[], []⟩ :: xs) := by
  simp [lendArgs, hrw, hr, lendV, Wh.pay, lendL, lend1, tags]
theorem args_va {f i : Nat} {H : AM.Heap} {v : Va} {r ys : List AV} {xs : List Lent} (hr : lendArgs X f H (i + 1) r = some (ys, xs)) (hrw : X.rw f i = false := by rfl) :
    lendArgs X f H i (.agg v.pay :: r) = some (.agg v.pay :: ys, ⟨[], []⟩ :: xs) := by
  simp [lendArgs, hrw, hr, lendV, Va.pay, lendL, lend1, tags]
theorem args_ty {f i : Nat} {H : AM.Heap} {t : Ty} {r ys : List AV} {xs : List Lent} (hr : lendArgs X f H (i + 1) r = some (ys, xs)) (hrw : X.rw f i = false := by rfl) :
    lendArgs X f H i (.agg t.pay :: r) = some (.agg t.pay :: ys, ⟨[], []⟩ :: xs) := by
  simp [lendArgs, hrw, hr, lendV, Ty.pay, lendL, lend1, tags]

/-- a type's kind -/
def kindN (t : Nat) (u : Bool) : Int := if kn t = false then -1 else if t = 1 ∨ t = 2 ∨ t = 13 ∨ t = 3 ∨ t = 9 ∨ t = 8 then (if u then 2 else 1) else if t = 4 then 3 else if t = 5 then 4 else if t = 7 ∨ t = 10 ∨ t = 12 then 5 else if t = 11 then 6 else if t = 6 then 0 else 7
/-- how many bytes a number's type has -/
def sizeN (t : Nat) : Nat := if t = 1 then 1 else if t = 2 ∨ t = 13 then 2 else if t = 3 ∨ t = 9 ∨ t = 4 then 4 else if t = 8 ∨ t = 5 then 8 else 0
def rsizeN (t : Nat) : Nat := if t = 1 then 1 else if t = 2 ∨ t = 13 then 2 else if t = 3 ∨ t = 9 ∨ t = 4 then 4 else 8

theorem rowNames : RowsOk X [⟨47, [], .agg (.pc nmL), []⟩] :=
  RowsOk.cons (T := fun _ _ _ => none) (n := 50) Below.none RowsOk.nil (by kernel_rfl)

theorem kind_each {j : Nat} (hj : j < 512) (H : AM.Heap) : Ev1 X 13 [.agg (.pc [.int .u8 ((j / 2 : Nat) : Int), .bool (j % 2 == 1)])] H (.int .i64 (kindN (j / 2) (j % 2 == 1)), H) :=
  Ev1.each (T := tabF [⟨47, [], .agg (.pc nmL), []⟩]) (tabF_below rowNames) (n := 60) (f := 13) (N := 512) (a := fun j => .agg (.pc [.int .u8 ((j / 2 : Nat) : Int), .bool (j % 2 == 1)])) (v := fun j => .int .i64 (kindN (j / 2) (j % 2 == 1))) (by kernel_rfl) (fun _ => rfl) hj H

theorem kind_ev {t : Ty} (ht : t.t < 256) (H : AM.Heap) : evT X 13 [.agg t.pay] H = some (.int .i64 (kindN t.t t.u), H) := by
  obtain ⟨t, u⟩ := t
  simp only at ht
  have h1 : (2 * t + (if u then 1 else 0)) / 2 = t := by split <;> omega
  have h2 : ((2 * t + (if u then 1 else 0)) % 2 == 1) = u := by
    cases u
    · simp
    · simp only [if_true]
      rw [show (2 * t + 1) % 2 = 1 by omega]; rfl
  have := kind_each (j := 2 * t + (if u then 1 else 0)) (by split <;> omega) H
  rw [h1, h2] at this
  exact evT_eq this

theorem rkind_each {j : Nat} (hj : j < 512) (H : AM.Heap) : Ev1 X 14 [.agg (.pc [.int .u8 ((j / 2 : Nat) : Int), .bool (j % 2 == 1)])] H (.int .i64 (kindN (j / 2) (j % 2 == 1)), H) :=
  Ev1.each (T := fun _ _ _ => none) Below.none (n := 60) (f := 14) (N := 512) (a := fun j => .agg (.pc [.int .u8 ((j / 2 : Nat) : Int), .bool (j % 2 == 1)])) (v := fun j => .int .i64 (kindN (j / 2) (j % 2 == 1))) (by kernel_rfl) (fun _ => rfl) hj H

theorem rkind_ev {t : Ty} (ht : t.t < 256) (H : AM.Heap) : evT X 14 [.agg t.pay] H = some (.int .i64 (kindN t.t t.u), H) := by
  obtain ⟨t, u⟩ := t
  simp only at ht
  have h1 : (2 * t + (if u then 1 else 0)) / 2 = t := by split <;> omega
  have h2 : ((2 * t + (if u then 1 else 0)) % 2 == 1) = u := by
    cases u
    · simp
    · simp only [if_true]
      rw [show (2 * t + 1) % 2 = 1 by omega]; rfl
  have := rkind_each (j := 2 * t + (if u then 1 else 0)) (by split <;> omega) H
  rw [h1, h2] at this
  exact evT_eq this

theorem size_ev' {k : Nat} (hk : k < 256) (H : AM.Heap) : evT X 20 [.int .u8 (k : Nat)] H = some (.int .i64 (sizeN k : Nat), H) :=
  evT_eq (Ev1.each (T := fun _ _ _ => none) Below.none (n := 50) (f := 20) (N := 256) (a := fun k => .int .u8 (k : Nat)) (v := fun k => .int .i64 (sizeN k : Nat)) (by kernel_rfl) (fun _ => rfl) hk H)

theorem rsize_ev' {k : Nat} (hk : k < 256) (H : AM.Heap) : evT X 23 [.int .u8 (k : Nat)] H = some (.int .i64 (rsizeN k : Nat), H) :=
  evT_eq (Ev1.each (T := fun _ _ _ => none) Below.none (n := 50) (f := 23) (N := 256) (a := fun k => .int .u8 (k : Nat)) (v := fun k => .int .i64 (rsizeN k : Nat)) (by kernel_rfl) (fun _ => rfl) hk H)

/-- is a number between? -/
def btw (x l m : Int) : Bool := decide (l ≤ x ∧ x ≤ m)

set_option maxRecDepth 100000 in
theorem btw_code (x l m : Int) : ∃ code, Tryd.f50.body = some code ∧
    Run X (evT X) 50 0 code [(0, .int .i64 x), (1, .int .i64 l), (2, .int .i64 m)] [] ⟨.ret, [(6, .bool (btw x l m))], []⟩ := by
  refine ⟨_, rfl, 0, ?_⟩
  unfold btw
  by_cases h : l ≤ x
  · simp (maxSteps := 2000000) -implicitDefEqProofs [-getElem?_pos, List.getElem?_cons_zero, List.getElem?_cons_succ, go_sem, eqV, plen, loadV, storeV, h]
  · simp (maxSteps := 2000000) -implicitDefEqProofs [-getElem?_pos, List.getElem?_cons_zero, List.getElem?_cons_succ, go_sem, eqV, plen, loadV, storeV, h]

theorem btw_ev (x l m : Int) (H : AM.Heap) : evT X 50 [.int .i64 x, .int .i64 l, .int .i64 m] H = some (.bool (btw x l m), H) := by
  obtain ⟨code, hcode, hr⟩ := btw_code x l m
  exact evT_eq (Ev1.toldP (l := [.bool (btw x l m)]) (evT_below X) Tryd.func50 hcode (args_flat (i := 0) rfl rfl (args_flat (i := 1) rfl rfl (args_flat (i := 2) rfl rfl (args_nil 3)))) rfl (by simp [gtag]) rfl rfl rfl ⟨_, ⟨rfl, rfl⟩, hr⟩)

/-- may a time of day be? -/
def clk (w : Wh) : Bool := btw w.h 0 23 && (btw w.mi 0 59 && (btw w.s 0 59 && btw w.us 0 999999))
/-- is there no time of day? -/
def mid (w : Wh) : Bool := decide (w.h = 0 ∧ w.mi = 0 ∧ w.s = 0 ∧ w.us = 0)

section
variable (w : Wh)

set_option maxRecDepth 100000 in
theorem clock_code : ∃ code, Tryd.f49.body = some code ∧
    Run X (evT X) 49 0 code [(0, .agg w.pay)] [] ⟨.ret, [(2, .bool (clk w))], [some (whO w)]⟩ := by
  refine ⟨_, rfl, 0, ?_⟩
  have hB := btw_ev
  unfold clk
  cases h1 : btw w.h 0 23 with
  | false => simp (maxSteps := 2000000) -implicitDefEqProofs [-getElem?_pos, List.getElem?_cons_zero, List.getElem?_cons_succ, go_sem, eqV, plen, loadV, storeV, whO, Wh.pay, hB, h1]
  | true =>
  cases h2 : btw w.mi 0 59 with
  | false => simp (maxSteps := 2000000) -implicitDefEqProofs [-getElem?_pos, List.getElem?_cons_zero, List.getElem?_cons_succ, go_sem, eqV, plen, loadV, storeV, whO, Wh.pay, hB, h1, h2]
  | true =>
  cases h3 : btw w.s 0 59 with
  | false => simp (maxSteps := 2000000) -implicitDefEqProofs [-getElem?_pos, List.getElem?_cons_zero, List.getElem?_cons_succ, go_sem, eqV, plen, loadV, storeV, whO, Wh.pay, hB, h1, h2, h3]
  | true => simp (maxSteps := 2000000) -implicitDefEqProofs [-getElem?_pos, List.getElem?_cons_zero, List.getElem?_cons_succ, go_sem, eqV, plen, loadV, storeV, whO, Wh.pay, hB, h1, h2, h3]

set_option maxRecDepth 100000 in
theorem rclock_code : ∃ code, Tryd.f51.body = some code ∧
    Run X (evT X) 51 0 code [(0, .agg w.pay)] [] ⟨.ret, [(2, .bool (clk w))], [some (whO w)]⟩ := by
  refine ⟨_, rfl, 0, ?_⟩
  unfold clk btw
  by_cases h1 : 0 ≤ w.h
  case neg => simp (maxSteps := 2000000) -implicitDefEqProofs [-getElem?_pos, List.getElem?_cons_zero, List.getElem?_cons_succ, go_sem, eqV, plen, loadV, storeV, whO, Wh.pay, h1]
  by_cases h2 : w.h ≤ 23
  case neg => simp (maxSteps := 2000000) -implicitDefEqProofs [-getElem?_pos, List.getElem?_cons_zero, List.getElem?_cons_succ, go_sem, eqV, plen, loadV, storeV, whO, Wh.pay, h1, h2]
  by_cases h3 : 0 ≤ w.mi
  case neg => simp (maxSteps := 2000000) -implicitDefEqProofs [-getElem?_pos, List.getElem?_cons_zero, List.getElem?_cons_succ, go_sem, eqV, plen, loadV, storeV, whO, Wh.pay, h1, h2, h3]
  by_cases h4 : w.mi ≤ 59
  case neg => simp (maxSteps := 2000000) -implicitDefEqProofs [-getElem?_pos, List.getElem?_cons_zero, List.getElem?_cons_succ, go_sem, eqV, plen, loadV, storeV, whO, Wh.pay, h1, h2, h3, h4]
  by_cases h5 : 0 ≤ w.s
  case neg => simp (maxSteps := 2000000) -implicitDefEqProofs [-getElem?_pos, List.getElem?_cons_zero, List.getElem?_cons_succ, go_sem, eqV, plen, loadV, storeV, whO, Wh.pay, h1, h2, h3, h4, h5]
  by_cases h6 : w.s ≤ 59
  case neg => simp (maxSteps := 2000000) -implicitDefEqProofs [-getElem?_pos, List.getElem?_cons_zero, List.getElem?_cons_succ, go_sem, eqV, plen, loadV, storeV, whO, Wh.pay, h1, h2, h3, h4, h5, h6]
  by_cases h7 : 0 ≤ w.us
  case neg => simp (maxSteps := 2000000) -implicitDefEqProofs [-getElem?_pos, List.getElem?_cons_zero, List.getElem?_cons_succ, go_sem, eqV, plen, loadV, storeV, whO, Wh.pay, h1, h2, h3, h4, h5, h6, h7]
  simp (maxSteps := 2000000) -implicitDefEqProofs [-getElem?_pos, List.getElem?_cons_zero, List.getElem?_cons_succ, go_sem, eqV, plen, loadV, storeV, whO, Wh.pay, h1, h2, h3, h4, h5, h6, h7]

set_option maxRecDepth 100000 in
theorem mid_code (hc : clk w = true) : ∃ code, Tryd.f41.body = some code ∧
    Run X (evT X) 41 0 code [(0, .agg w.pay)] [] ⟨.ret, [(2, .bool (mid w))], [some (whO w)]⟩ := by
  refine ⟨_, rfl, 0, ?_⟩
  unfold clk btw at hc
  simp only [Bool.and_eq_true, decide_eq_true_eq] at hc
  unfold mid
  have w1 : IntKind.i64.wrap (w.h + w.mi) = w.h + w.mi := wrap_i64 (by omega) (by omega)
  have w2 : IntKind.i64.wrap (w.h + w.mi + w.s) = w.h + w.mi + w.s := wrap_i64 (by omega) (by omega)
  have w3 : IntKind.i64.wrap (w.h + w.mi + w.s + w.us) = w.h + w.mi + w.s + w.us := wrap_i64 (by omega) (by omega)
  have e : (w.h + w.mi + w.s + w.us == 0) = decide (w.h = 0 ∧ w.mi = 0 ∧ w.s = 0 ∧ w.us = 0) := by
    rw [Bool.eq_iff_iff, beq_iff_eq, decide_eq_true_eq]; omega
  simp (maxSteps := 2000000) -implicitDefEqProofs [-getElem?_pos, List.getElem?_cons_zero, List.getElem?_cons_succ, go_sem, eqV, plen, loadV, storeV, whO, Wh.pay, w1, w2, w3, e]

end

theorem clock_ev (w : Wh) (H : AM.Heap) : evT X 49 [.agg w.pay] H = some (.bool (clk w), H) := by
  obtain ⟨code, hcode, hr⟩ := clock_code w
  exact evT_eq (Ev1.toldP (l := [.bool (clk w)]) (evT_below X) Tryd.func49 hcode (args_wh (i := 0) (args_nil 1)) (by simp [Wh.pay, idsL, ids]) (by simp [gtag]) rfl rfl rfl ⟨_, ⟨rfl, rfl⟩, hr⟩)
theorem rclock_ev (w : Wh) (H : AM.Heap) : evT X 51 [.agg w.pay] H = some (.bool (clk w), H) := by
  obtain ⟨code, hcode, hr⟩ := rclock_code w
  exact evT_eq (Ev1.toldP (l := [.bool (clk w)]) (evT_below X) Tryd.func51 hcode (args_wh (i := 0) (args_nil 1)) (by simp [Wh.pay, idsL, ids]) (by simp [gtag]) rfl rfl rfl ⟨_, ⟨rfl, rfl⟩, hr⟩)
theorem mid_ev {w : Wh} (hc : clk w = true) (H : AM.Heap) : evT X 41 [.agg w.pay] H = some (.bool (mid w), H) := by
  obtain ⟨code, hcode, hr⟩ := mid_code w hc
  exact evT_eq (Ev1.toldP (l := [.bool (mid w)]) (evT_below X) Tryd.func41 hcode (args_wh (i := 0) (args_nil 1)) (by simp [Wh.pay, idsL, ids]) (by simp [gtag]) rfl rfl rfl ⟨_, ⟨rfl, rfl⟩, hr⟩)

end Go.Proofs.YtifgkkfchnfcaaaDoor

/- Walks: moments and spans that may be. -/
namespace Go.Proofs.YtifgkkfchnfcaaaDoor
open Go.AM
set_option linter.unusedSimpArgs false
set_option linter.unusedVariables false

theorem eqV_agg {C : AM.Ctx} {H : AM.Heap} {t : TypeId} {a b : List AV} {xo yo : Operand} (h1 : isStructT C t = true) (h2 : C.P.eqGuardType C.P.depth t = false) : eqV C H t (.agg (.pc a)) (.agg (.pc b)) xo yo = eqFlat C 6 t a b := by
  show (if isStructT C t && !C.P.eqGuardType C.P.depth t then eqFlat C 6 t a b else none) = _
  rw [h1, h2]; rfl

theorem whEqF (a : Bool) (y mo d h mi s us : Int) (a' : Bool) (y' mo' d' h' mi' s' us' : Int) :
    eqFlat X 6 25 [.bool a, .int .i64 y, .int .i64 mo, .int .i64 d, .int .i64 h, .int .i64 mi, .int .i64 s, .int .i64 us] [.bool a', .int .i64 y', .int .i64 mo', .int .i64 d', .int .i64 h', .int .i64 mi', .int .i64 s', .int .i64 us'] =
      some (a == a' && (y == y' && (mo == mo' && (d == d' && (h == h' && (mi == mi' && (s == s' && (us == us' && true)))))))) := by kernel_rfl
theorem stWh : isStructT X 25 = true := by kernel_rfl
theorem guWh : X.P.eqGuardType X.P.depth 25 = false := by kernel_rfl
theorem eqWh (w w' : Wh) (H : AM.Heap) (xo yo : Operand) : eqV X H 25 (.agg w.pay) (.agg w'.pay) xo yo = some (decide (w = w')) := by
  unfold Wh.pay
  rw [eqV_agg stWh guWh]
  have := whEqF w.neg w.y w.mo w.d w.h w.mi w.s w.us w'.neg w'.y w'.mo w'.d w'.h w'.mi w'.s w'.us
  refine this.trans (congrArg some ?_)
  rw [Bool.eq_iff_iff, decide_eq_true_eq]
  simp only [Bool.and_eq_true, beq_iff_eq, and_true]
  cases w; cases w'
  simp

theorem whEqS (a : Bool) (y mo d h mi s us : Int) (a' : Bool) (y' mo' d' h' mi' s' us' : Int) (H : AM.Heap) (xo yo : Operand) :
    eqV X H 25 (.agg (.pc [.bool a, .int .i64 y, .int .i64 mo, .int .i64 d, .int .i64 h, .int .i64 mi, .int .i64 s, .int .i64 us])) (.agg (.pc [.bool a', .int .i64 y', .int .i64 mo', .int .i64 d', .int .i64 h', .int .i64 mi', .int .i64 s', .int .i64 us'])) xo yo =
      some (decide ((⟨a, y, mo, d, h, mi, s, us⟩ : Wh) = ⟨a', y', mo', d', h', mi', s', us'⟩)) := eqWh ⟨a, y, mo, d, h, mi, s, us⟩ ⟨a', y', mo', d', h', mi', s', us'⟩ H xo yo

/-- may a moment, or a span, be? -/
def fin (w : Wh) (t : Nat) : Bool := clk w && (if t = 11 then decide (w.y = 0) && (decide (w.mo = 0) && (btw w.d 0 34 && !(w.neg && (decide (w.d = 0) && mid w)))) else (!w.neg && (btw w.y 0 9999 && (btw w.mo 0 12 && (btw w.d 0 31 && (decide (t ≠ 10) || mid w))))))

theorem bdW1 : buildV X 25 [(0, .bool true)] = some (.agg (.pc [.bool true, .int .i64 0, .int .i64 0, .int .i64 0, .int .i64 0, .int .i64 0, .int .i64 0, .int .i64 0])) := by kernel_rfl
theorem bdW0 : buildV X 25 [] = some (.agg (.pc [.bool false, .int .i64 0, .int .i64 0, .int .i64 0, .int .i64 0, .int .i64 0, .int .i64 0, .int .i64 0])) := by kernel_rfl
theorem bdW3 (y mo d : Int) : buildV X 25 [(1, .int .i64 y), (2, .int .i64 mo), (3, .int .i64 d)] = some (.agg (.pc [.bool false, .int .i64 y, .int .i64 mo, .int .i64 d, .int .i64 0, .int .i64 0, .int .i64 0, .int .i64 0])) := by kernel_rfl

section
variable (w : Wh) (t : Nat)

def fnFr : AM.Frame := [(1, .int .u8 (t : Nat)), (2, .ptr 0 0 0 0)]

set_option maxRecDepth 100000 in
set_option maxHeartbeats 4000000 in
theorem fin_code (ht : t < 256) : ∃ code, Tryd.f34.body = some code ∧
    Run X (evT X) 34 0 code [(0, .agg w.pay), (1, .int .u8 (t : Nat))] [] ⟨.ret, [(4, .bool (fin w t))], [some (whO w)]⟩ := by
  refine ⟨_, rfl, ?_⟩
  have hB := btw_ev
  have hC := fun H => clock_ev w H
  have hE := whEqS
  unfold fin
  simp only [Wh.pay] at hC
  apply Run.seq (fr' := fnFr t) (H' := [some (whO w)])
  · (refine ⟨0, ?_⟩; simp (maxSteps := 2000000) -implicitDefEqProofs [-getElem?_pos, List.getElem?_cons_zero, List.getElem?_cons_succ, go_sem, eqV, plen, loadV, storeV, whO, Wh.pay, fnFr])
  cases hc : clk w with
  | false =>
    rw [hc] at hC
    apply Run.seq_out (hne := by simp)
    apply Run.seq (fr' := fnFr t ++ [(7, .bool true)]) (H' := [some (whO w)])
    · (refine ⟨0, ?_⟩; simp (maxSteps := 2000000) -implicitDefEqProofs [-getElem?_pos, List.getElem?_cons_zero, List.getElem?_cons_succ, go_sem, eqV, plen, loadV, storeV, whO, Wh.pay, mkWh, hC, unV, fnFr])
    refine ⟨0, ?_⟩
    simp (maxSteps := 2000000) -implicitDefEqProofs [-getElem?_pos, List.getElem?_cons_zero, List.getElem?_cons_succ, go_sem, eqV, plen, loadV, storeV, fnFr]
  | true =>
  rw [hc] at hC
  apply Run.seq (fr' := fnFr t ++ [(7, .bool false)]) (H' := [some (whO w)])
  · (refine ⟨0, ?_⟩; simp (maxSteps := 2000000) -implicitDefEqProofs [-getElem?_pos, List.getElem?_cons_zero, List.getElem?_cons_succ, go_sem, eqV, plen, loadV, storeV, whO, Wh.pay, mkWh, hC, unV, fnFr])
  by_cases h11 : t = 11
  · subst h11
    rw [if_pos rfl]
    apply Run.seq_out (hne := by simp)
    apply Run.seq (fr' := fnFr 11 ++ [(9, .bool true)]) (H' := [some (whO w)])
    · (refine ⟨0, ?_⟩; simp (maxSteps := 2000000) -implicitDefEqProofs [-getElem?_pos, List.getElem?_cons_zero, List.getElem?_cons_succ, go_sem, eqV, plen, loadV, storeV, whO, fnFr])
    refine condT (by simp [evalO, getF, fnFr]) ?_
    refine Run.seq (fr' := [(4, .bool (decide (w.y = 0) && (decide (w.mo = 0) && (btw w.d 0 34 && !(w.neg && (decide (w.d = 0) && mid w))))))]) (H' := [some (whO w)]) ?_ ⟨0, by simp [exec]⟩
    by_cases hy : w.y = 0
    case neg =>
      have hyb : (w.y == 0) = false := by simpa using hy
      (refine ⟨0, ?_⟩; simp (maxSteps := 2000000) -implicitDefEqProofs [-getElem?_pos, List.getElem?_cons_zero, List.getElem?_cons_succ, go_sem, eqV, plen, loadV, storeV, whO, Wh.pay, fnFr, hyb, hy])
    by_cases hmo : w.mo = 0
    case neg =>
      have hyb : (w.mo == 0) = false := by simpa using hmo
      (refine ⟨0, ?_⟩; simp (maxSteps := 2000000) -implicitDefEqProofs [-getElem?_pos, List.getElem?_cons_zero, List.getElem?_cons_succ, go_sem, eqV, plen, loadV, storeV, whO, Wh.pay, fnFr, hy, hyb, hmo])
    cases hd : btw w.d 0 34 with
    | false => (refine ⟨0, ?_⟩; simp (maxSteps := 2000000) -implicitDefEqProofs [-getElem?_pos, List.getElem?_cons_zero, List.getElem?_cons_succ, go_sem, eqV, plen, loadV, storeV, whO, Wh.pay, fnFr, hy, hmo, hB, hd])
    | true =>
    cases hn : w.neg with
    | false => (refine ⟨0, ?_⟩; simp (maxSteps := 2000000) -implicitDefEqProofs [-getElem?_pos, List.getElem?_cons_zero, List.getElem?_cons_succ, go_sem, eqV, plen, loadV, storeV, whO, Wh.pay, fnFr, hy, hmo, hB, hd, hn, unV])
    | true =>
      have e : decide ((⟨true, 0, 0, w.d, w.h, w.mi, w.s, w.us⟩ : Wh) = ⟨true, 0, 0, 0, 0, 0, 0, 0⟩) = (decide (w.d = 0) && mid w) := by
        unfold mid
        rw [Bool.eq_iff_iff]; simp
      have hE1 := fun H xo yo => whEqS true 0 0 w.d w.h w.mi w.s w.us true 0 0 0 0 0 0 0 H xo yo
      rw [e] at hE1
      generalize (decide (w.d = 0) && mid w) = m at *
      clear hE e
      (refine ⟨0, ?_⟩; simp (maxSteps := 2000000) -implicitDefEqProofs [-getElem?_pos, List.getElem?_cons_zero, List.getElem?_cons_succ, go_sem, eqV, plen, loadV, storeV, -eqV, whO, Wh.pay, fnFr, mkWh, unV, hy, hmo, hB, hd, hn, bdW1, hE1])
  · have h11i : ((t : Int) == 11) = false := by simp; omega
    rw [if_neg h11]
    apply Run.seq (fr' := fnFr t ++ [(9, .bool false)]) (H' := [some (whO w)])
    · (refine ⟨0, ?_⟩; simp (maxSteps := 2000000) -implicitDefEqProofs [-getElem?_pos, List.getElem?_cons_zero, List.getElem?_cons_succ, go_sem, eqV, plen, loadV, storeV, whO, fnFr, h11i])
    cases hp : (!w.neg && (btw w.y 0 9999 && (btw w.mo 0 12 && btw w.d 0 31))) with
    | false =>
      have e : (!w.neg && (btw w.y 0 9999 && (btw w.mo 0 12 && (btw w.d 0 31 && (decide (t ≠ 10) || mid w))))) = false := by
        revert hp
        generalize btw w.y 0 9999 = a
        generalize btw w.mo 0 12 = b
        generalize btw w.d 0 31 = c
        generalize w.neg = n
        cases n <;> cases a <;> cases b <;> cases c <;> simp
      rw [e]
      apply Run.seq_out (hne := by simp)
      apply Run.seq (fr' := fnFr t ++ [(52, .bool true)]) (H' := [some (whO w)])
      · clear e
        cases hn : w.neg with
        | true => (refine ⟨0, ?_⟩; simp (maxSteps := 2000000) -implicitDefEqProofs [-getElem?_pos, List.getElem?_cons_zero, List.getElem?_cons_succ, go_sem, eqV, plen, loadV, storeV, whO, Wh.pay, fnFr, hn])
        | false =>
        cases hy : btw w.y 0 9999 with
        | false => (refine ⟨0, ?_⟩; simp (maxSteps := 2000000) -implicitDefEqProofs [-getElem?_pos, List.getElem?_cons_zero, List.getElem?_cons_succ, go_sem, eqV, plen, loadV, storeV, whO, Wh.pay, fnFr, hn, hB, hy, unV])
        | true =>
        cases hmo : btw w.mo 0 12 with
        | false => (refine ⟨0, ?_⟩; simp (maxSteps := 2000000) -implicitDefEqProofs [-getElem?_pos, List.getElem?_cons_zero, List.getElem?_cons_succ, go_sem, eqV, plen, loadV, storeV, whO, Wh.pay, fnFr, hn, hB, hy, hmo, unV])
        | true =>
        cases hd : btw w.d 0 31 with
        | false => (refine ⟨0, ?_⟩; simp (maxSteps := 2000000) -implicitDefEqProofs [-getElem?_pos, List.getElem?_cons_zero, List.getElem?_cons_succ, go_sem, eqV, plen, loadV, storeV, whO, Wh.pay, fnFr, hn, hB, hy, hmo, hd, unV])
        | true => rw [hn, hy, hmo, hd] at hp; cases hp
      refine ⟨0, ?_⟩
      simp (maxSteps := 2000000) -implicitDefEqProofs [-getElem?_pos, List.getElem?_cons_zero, List.getElem?_cons_succ, go_sem, eqV, plen, loadV, storeV, fnFr]
    | true =>
      simp only [Bool.and_eq_true, Bool.not_eq_true'] at hp
      obtain ⟨hn, hy, hmo, hd⟩ := hp
      apply Run.seq (fr' := fnFr t ++ [(52, .bool false)]) (H' := [some (whO w)])
      · (refine ⟨0, ?_⟩; simp (maxSteps := 2000000) -implicitDefEqProofs [-getElem?_pos, List.getElem?_cons_zero, List.getElem?_cons_succ, go_sem, eqV, plen, loadV, storeV, whO, Wh.pay, fnFr, hn, hB, hy, hmo, hd, unV])
      rw [hn, hy, hmo, hd]
      refine Run.seq (fr' := [(4, .bool (decide (t ≠ 10) || mid w))]) (H' := [some (whO w)]) ?_ ⟨0, by simp [exec]⟩
      by_cases h10 : t = 10
      · subst h10
        have e : decide ((⟨false, w.y, w.mo, w.d, w.h, w.mi, w.s, w.us⟩ : Wh) = ⟨false, w.y, w.mo, w.d, 0, 0, 0, 0⟩) = mid w := by
          unfold mid
          rw [Bool.eq_iff_iff]; simp
        have hE1 := fun H xo yo => whEqS false w.y w.mo w.d w.h w.mi w.s w.us false w.y w.mo w.d 0 0 0 0 H xo yo
        rw [e] at hE1
        generalize mid w = m at *
        clear hE e
        (refine ⟨0, ?_⟩; simp (maxSteps := 2000000) -implicitDefEqProofs [-getElem?_pos, List.getElem?_cons_zero, List.getElem?_cons_succ, go_sem, eqV, plen, loadV, storeV, -eqV, whO, Wh.pay, fnFr, mkWh, hn, bdW3, hE1])
      · have h10i : ((t : Int) != 10) = true := by simp; omega
        (refine ⟨0, ?_⟩; simp (maxSteps := 2000000) -implicitDefEqProofs [-getElem?_pos, List.getElem?_cons_zero, List.getElem?_cons_succ, go_sem, eqV, plen, loadV, storeV, whO, fnFr, h10, h10i])

set_option maxRecDepth 100000 in
set_option maxHeartbeats 4000000 in
theorem rfin_code (ht : t < 256) : ∃ code, Tryd.f35.body = some code ∧
    Run X (evT X) 35 0 code [(0, .agg w.pay), (1, .int .u8 (t : Nat))] [] ⟨.ret, [(4, .bool (fin w t))], [some (whO w)]⟩ := by
  refine ⟨_, rfl, ?_⟩
  have hC := fun H => rclock_ev w H
  unfold fin
  simp only [Wh.pay] at hC
  apply Run.seq (fr' := fnFr t) (H' := [some (whO w)])
  · (refine ⟨0, ?_⟩; simp (maxSteps := 2000000) -implicitDefEqProofs [-getElem?_pos, List.getElem?_cons_zero, List.getElem?_cons_succ, go_sem, eqV, plen, loadV, storeV, whO, Wh.pay, fnFr])
  cases hc : clk w with
  | false =>
    rw [hc] at hC
    apply Run.seq_out (hne := by simp)
    apply Run.seq (fr' := fnFr t ++ [(7, .bool true)]) (H' := [some (whO w)])
    · (refine ⟨0, ?_⟩; simp (maxSteps := 2000000) -implicitDefEqProofs [-getElem?_pos, List.getElem?_cons_zero, List.getElem?_cons_succ, go_sem, eqV, plen, loadV, storeV, whO, Wh.pay, mkWh, hC, unV, fnFr])
    refine ⟨0, ?_⟩
    simp (maxSteps := 2000000) -implicitDefEqProofs [-getElem?_pos, List.getElem?_cons_zero, List.getElem?_cons_succ, go_sem, eqV, plen, loadV, storeV, fnFr]
  | true =>
  rw [hc] at hC
  have hM := fun H => mid_ev hc H
  simp only [Wh.pay] at hM
  unfold btw
  generalize mid w = m at *
  apply Run.seq (fr' := fnFr t ++ [(7, .bool false)]) (H' := [some (whO w)])
  · (refine ⟨0, ?_⟩; simp (maxSteps := 2000000) -implicitDefEqProofs [-getElem?_pos, List.getElem?_cons_zero, List.getElem?_cons_succ, go_sem, eqV, plen, loadV, storeV, whO, Wh.pay, mkWh, hC, unV, fnFr])
  by_cases h11 : t = 11
  · subst h11
    rw [if_pos rfl]
    apply Run.seq_out (hne := by simp)
    apply Run.seq (fr' := fnFr 11 ++ [(9, .bool true)]) (H' := [some (whO w)])
    · (refine ⟨0, ?_⟩; simp (maxSteps := 2000000) -implicitDefEqProofs [-getElem?_pos, List.getElem?_cons_zero, List.getElem?_cons_succ, go_sem, eqV, plen, loadV, storeV, whO, fnFr])
    refine condT (by simp [evalO, getF, fnFr]) ?_
    refine Run.seq (fr' := [(4, .bool (decide (w.y = 0) && (decide (w.mo = 0) && (decide (0 ≤ w.d ∧ w.d ≤ 34) && !(w.neg && (decide (w.d = 0) && m))))))]) (H' := [some (whO w)]) ?_ ⟨0, by simp [exec]⟩
    by_cases hy : w.y = 0
    case neg =>
      have hyb : (w.y == 0) = false := by simpa using hy
      (refine ⟨0, ?_⟩; simp (maxSteps := 2000000) -implicitDefEqProofs [-getElem?_pos, List.getElem?_cons_zero, List.getElem?_cons_succ, go_sem, eqV, plen, loadV, storeV, whO, Wh.pay, fnFr, hy, hyb])
    by_cases hmo : w.mo = 0
    case neg =>
      have hyb : (w.mo == 0) = false := by simpa using hmo
      (refine ⟨0, ?_⟩; simp (maxSteps := 2000000) -implicitDefEqProofs [-getElem?_pos, List.getElem?_cons_zero, List.getElem?_cons_succ, go_sem, eqV, plen, loadV, storeV, whO, Wh.pay, fnFr, hy, hmo, hyb])
    by_cases hd : 0 ≤ w.d
    case neg => (refine ⟨0, ?_⟩; simp (maxSteps := 2000000) -implicitDefEqProofs [-getElem?_pos, List.getElem?_cons_zero, List.getElem?_cons_succ, go_sem, eqV, plen, loadV, storeV, whO, Wh.pay, fnFr, hy, hmo, hd])
    by_cases hd2 : w.d ≤ 34
    case neg => (refine ⟨0, ?_⟩; simp (maxSteps := 2000000) -implicitDefEqProofs [-getElem?_pos, List.getElem?_cons_zero, List.getElem?_cons_succ, go_sem, eqV, plen, loadV, storeV, whO, Wh.pay, fnFr, hy, hmo, hd, hd2])
    cases hn : w.neg with
    | false => (refine ⟨0, ?_⟩; simp (maxSteps := 2000000) -implicitDefEqProofs [-getElem?_pos, List.getElem?_cons_zero, List.getElem?_cons_succ, go_sem, eqV, plen, loadV, storeV, whO, Wh.pay, fnFr, unV, hy, hmo, hd, hd2, hn])
    | true =>
    by_cases hd0 : w.d = 0
    · rw [hn, hy, hmo, hd0] at hM
      (refine ⟨0, ?_⟩; simp (maxSteps := 2000000) -implicitDefEqProofs [-getElem?_pos, List.getElem?_cons_zero, List.getElem?_cons_succ, go_sem, eqV, plen, loadV, storeV, whO, Wh.pay, fnFr, mkWh, unV, hy, hmo, hn, hd0, hM])
    · have hd0b : (w.d == 0) = false := by simpa using hd0
      (refine ⟨0, ?_⟩; simp (maxSteps := 2000000) -implicitDefEqProofs [-getElem?_pos, List.getElem?_cons_zero, List.getElem?_cons_succ, go_sem, eqV, plen, loadV, storeV, whO, Wh.pay, fnFr, unV, hy, hmo, hd, hd2, hn, hd0, hd0b])
  · have h11i : ((t : Int) == 11) = false := by simp; omega
    rw [if_neg h11]
    apply Run.seq (fr' := fnFr t ++ [(9, .bool false)]) (H' := [some (whO w)])
    · (refine ⟨0, ?_⟩; simp (maxSteps := 2000000) -implicitDefEqProofs [-getElem?_pos, List.getElem?_cons_zero, List.getElem?_cons_succ, go_sem, eqV, plen, loadV, storeV, whO, fnFr, h11i])
    refine Run.seq (fr' := [(4, .bool (!w.neg && (decide (0 ≤ w.y ∧ w.y ≤ 9999) && (decide (0 ≤ w.mo ∧ w.mo ≤ 12) && (decide (0 ≤ w.d ∧ w.d ≤ 31) && (decide (t ≠ 10) || m))))))]) (H' := [some (whO w)]) ?_ ⟨0, by simp [exec]⟩
    cases hn : w.neg with
    | true => (refine ⟨0, ?_⟩; simp (maxSteps := 2000000) -implicitDefEqProofs [-getElem?_pos, List.getElem?_cons_zero, List.getElem?_cons_succ, go_sem, eqV, plen, loadV, storeV, whO, Wh.pay, fnFr, unV, hn])
    | false =>
    by_cases hy : 0 ≤ w.y
    case neg => (refine ⟨0, ?_⟩; simp (maxSteps := 2000000) -implicitDefEqProofs [-getElem?_pos, List.getElem?_cons_zero, List.getElem?_cons_succ, go_sem, eqV, plen, loadV, storeV, whO, Wh.pay, fnFr, unV, hn, hy])
    by_cases hy2 : w.y ≤ 9999
    case neg => (refine ⟨0, ?_⟩; simp (maxSteps := 2000000) -implicitDefEqProofs [-getElem?_pos, List.getElem?_cons_zero, List.getElem?_cons_succ, go_sem, eqV, plen, loadV, storeV, whO, Wh.pay, fnFr, unV, hn, hy, hy2])
    by_cases hmo : 0 ≤ w.mo
    case neg => (refine ⟨0, ?_⟩; simp (maxSteps := 2000000) -implicitDefEqProofs [-getElem?_pos, List.getElem?_cons_zero, List.getElem?_cons_succ, go_sem, eqV, plen, loadV, storeV, whO, Wh.pay, fnFr, unV, hn, hy, hy2, hmo])
    by_cases hmo2 : w.mo ≤ 12
    case neg => (refine ⟨0, ?_⟩; simp (maxSteps := 2000000) -implicitDefEqProofs [-getElem?_pos, List.getElem?_cons_zero, List.getElem?_cons_succ, go_sem, eqV, plen, loadV, storeV, whO, Wh.pay, fnFr, unV, hn, hy, hy2, hmo, hmo2])
    by_cases hd : 0 ≤ w.d
    case neg => (refine ⟨0, ?_⟩; simp (maxSteps := 2000000) -implicitDefEqProofs [-getElem?_pos, List.getElem?_cons_zero, List.getElem?_cons_succ, go_sem, eqV, plen, loadV, storeV, whO, Wh.pay, fnFr, unV, hn, hy, hy2, hmo, hmo2, hd])
    by_cases hd2 : w.d ≤ 31
    case neg => (refine ⟨0, ?_⟩; simp (maxSteps := 2000000) -implicitDefEqProofs [-getElem?_pos, List.getElem?_cons_zero, List.getElem?_cons_succ, go_sem, eqV, plen, loadV, storeV, whO, Wh.pay, fnFr, unV, hn, hy, hy2, hmo, hmo2, hd, hd2])
    by_cases h10 : t = 10
    · subst h10
      rw [hn] at hM
      (refine ⟨0, ?_⟩; simp (maxSteps := 2000000) -implicitDefEqProofs [-getElem?_pos, List.getElem?_cons_zero, List.getElem?_cons_succ, go_sem, eqV, plen, loadV, storeV, whO, Wh.pay, fnFr, mkWh, unV, hn, hy, hy2, hmo, hmo2, hd, hd2, hM])
    · have h10i : ((t : Int) != 10) = true := by simp; omega
      (refine ⟨0, ?_⟩; simp (maxSteps := 2000000) -implicitDefEqProofs [-getElem?_pos, List.getElem?_cons_zero, List.getElem?_cons_succ, go_sem, eqV, plen, loadV, storeV, whO, Wh.pay, fnFr, unV, hn, hy, hy2, hmo, hmo2, hd, hd2, h10, h10i])

end

theorem fin_ev (w : Wh) {t : Nat} (ht : t < 256) (H : AM.Heap) : evT X 34 [.agg w.pay, .int .u8 (t : Nat)] H = some (.bool (fin w t), H) := by
  obtain ⟨code, hcode, hr⟩ := fin_code w t ht
  exact evT_eq (Ev1.toldP (l := [.bool (fin w t)]) (evT_below X) Tryd.func34 hcode (args_wh (i := 0) (args_flat (i := 1) rfl rfl (args_nil 2))) (by simp [Wh.pay, idsL, ids]) (by simp [gtag]) rfl rfl rfl ⟨_, ⟨rfl, rfl⟩, hr⟩)
theorem rfin_ev (w : Wh) {t : Nat} (ht : t < 256) (H : AM.Heap) : evT X 35 [.agg w.pay, .int .u8 (t : Nat)] H = some (.bool (fin w t), H) := by
  obtain ⟨code, hcode, hr⟩ := rfin_code w t ht
  exact evT_eq (Ev1.toldP (l := [.bool (fin w t)]) (evT_below X) Tryd.func35 hcode (args_wh (i := 0) (args_flat (i := 1) rfl rfl (args_nil 2))) (by simp [Wh.pay, idsL, ids]) (by simp [gtag]) rfl rfl rfl ⟨_, ⟨rfl, rfl⟩, hr⟩)

end Go.Proofs.YtifgkkfchnfcaaaDoor

/- Walks: Own and Kept. -/
namespace Go.Proofs.YtifgkkfchnfcaaaDoor
open Go.AM
set_option linter.unusedSimpArgs false
set_option linter.unusedVariables false

def e8 : List UInt8 := [165, 165, 165, 165, 165, 165, 165, 165]

theorem bs8 (H : AM.Heap) : buildSliceV X H 22 8 [(0, .int .u8 165), (1, .int .u8 165), (2, .int .u8 165), (3, .int .u8 165), (4, .int .u8 165), (5, .int .u8 165), (6, .int .u8 165), (7, .int .u8 165)] = some (.ro 1 (.pb e8) 0, H) := by kernel_rfl

theorem mk0 {n : Nat} (hn : n ≤ 1000000) (H : AM.Heap) : makeSliceV X H 22 (.int .i64 0) (.int .i64 (n : Nat)) = some (.sl H.length 0 0 0, H ++ [some ⟨.pb [], 0, some n, 1, true, false, 0⟩]) := by
  have hz : ∀ n, zeroRow X 5 n = some (.pb (List.replicate n 0)) := fun n => by simp [zeroRow, cellsAV, scalars, scalar, idsL, ids, tagsL, tags]
  have h0 : (0 : Int) ≤ n := by omega
  have h1 : (n : Int) ≤ 9223372036854775807 := by omega
  have h2 : (n : Int) ≤ 140737488355328 := by omega
  simp [makeSliceV, hz, h0, h1, h2, rowOf]

theorem pieceF {O : Option Code} {P : Code → Prop} (h : ∃ code, O = some code ∧ P code) (code' : Code) (h' : O = some code') : P code' := by
  obtain ⟨c, h1, h2⟩ := h
  rw [h'] at h1
  exact (Option.some.inj h1) ▸ h2

noncomputable def ownO : Option Code := ((Tryd.f8.body).bind cR).bind cL

set_option maxRecDepth 100000 in
theorem own_r1 {c n8 : Nat} {b E : List UInt8} {ob0 ob1 ob2 : AM.Obj} (w8 : IntKind.i64.wrap ((b.length : Int) + 8) = (n8 : Nat))
    (hM : makeSliceV X [some nilB] 22 (.int .i64 0) (.int .i64 (n8 : Nat)) = some (.sl 1 0 0 0, [some nilB, some ob0]))
    (hA1 : appendV X [some nilB, some ob0] 22 (.sl 1 0 0 0) (.ro c (.pb b) 1) = some (.sl 1 0 b.length 1, [some nilB, some ob1]))
    (hb8 : ∀ H, buildSliceV X H 22 8 [(0, .int .u8 165), (1, .int .u8 165), (2, .int .u8 165), (3, .int .u8 165), (4, .int .u8 165), (5, .int .u8 165), (6, .int .u8 165), (7, .int .u8 165)] = some (.ro 1 (.pb E) 0, H))
    (hA2 : appendV X [some nilB, some ob1] 22 (.sl 1 0 b.length 1) (.ro 1 (.pb E) 0) = some (.sl 1 0 n8 2, [some nilB, some ob2]))
    (hS2 : sliceV X [some nilB, some ob2] 22 (.sl 1 0 n8 2) none (some (.int .i64 (b.length : Nat))) = some (.sl 1 0 b.length 2)) :
    ∃ code, ownO = some code ∧ Run X (evT X) 8 0 code [(0, .ro c (.pb b) 1)] [some nilB] ⟨.normal, [(2, .sl 1 0 b.length 2)], [some nilB, some ob2]⟩ := by
  refine ⟨_, rfl, 0, ?_⟩
  simp (maxSteps := 2000000) -implicitDefEqProofs [-getElem?_pos, List.getElem?_cons_zero, List.getElem?_cons_succ, go_sem, eqV, plen, loadV, storeV, assignV, w8, hM, hA1, hA2, hb8, hS2]

section
variable (c : Nat) (b : List UInt8)

set_option maxRecDepth 100000 in
theorem own_code (hc : c = 0 → b = []) (hb : b.length ≤ 900000) : ∃ code, Tryd.f8.body = some code ∧
    Tells (Rets fun fr H => ∃ o g ob, getF fr 2 = .sl o 0 b.length g ∧ H[o]? = some (some ob) ∧ Rw (.pb (b ++ e8)) g ob ∧ ob.cap = some (b.length + 8)) X (evT X) 8 0 code [(0, .ro c (.pb b) 1)] [] := by
  refine ⟨_, rfl, ?_⟩
  have w8 : IntKind.i64.wrap ((b.length : Int) + 8) = ((b.length + 8 : Nat) : Int) := by rw [wrap_i64 (by omega) (by omega)]; omega
  have hM := mk0 (n := b.length + 8) (by omega) [some nilB]
  have hw0 : Rw (.pb []) 0 ⟨.pb [], 0, some (b.length + 8), 1, true, false, 0⟩ := ⟨rfl, rfl, rfl, rfl, rfl⟩
  obtain ⟨ob1, hw1, hk1, hA1⟩ := app_rwc (C := X) (T := 22) (e := 5) (by simp) (und5) (by simp) (by simp) (by simp) (H := [some nilB, some ⟨.pb [], 0, some (b.length + 8), 1, true, false, 0⟩]) (o := 1) (g := 0) (k := b.length + 8) (l := []) (m := b) (src := .ro c (.pb b) 1) rfl hw0 rfl (by simp) (srcB (.inl rfl)) (by simp; omega)
  rw [List.nil_append] at hw1
  rw [List.length_nil, Nat.zero_add] at hA1
  obtain ⟨ob2, hw2, hk2, hA2⟩ := app_rwc (C := X) (T := 22) (e := 5) (by simp) (und5) (by simp) (by simp) (by simp) (H := [some nilB, some ob1]) (o := 1) (g := 1) (k := b.length + 8) (l := b) (m := e8) (src := .ro 1 (.pb e8) 0) rfl hw1 hk1 (by simp [e8]) (.inl rfl) (by simp [e8]; omega)
  have hPl : plen (.pb (b ++ e8)) = b.length + 8 := by simp [plen, e8]
  have hS2 : sliceV X [some nilB, some ob2] 22 (.sl 1 0 (b.length + 8) 2) none (some (.int .i64 (b.length : Nat))) = some (.sl 1 0 b.length 2) := by
    have hg := hw2.g
    have hp := hw2.p
    have hle : (b.length : Int) ≤ (b.length : Int) + 8 := by omega
    simp [sliceV, bound, live, hg, hp, hPl, pesz, hle]
  apply Tells.seq (fr' := [(0, .ro c (.pb b) 1)]) (H' := [some nilB])
  · (refine ⟨0, ?_⟩; simp (maxSteps := 2000000) -implicitDefEqProofs [-getElem?_pos, List.getElem?_cons_zero, List.getElem?_cons_succ, go_sem, eqV, plen, loadV, storeV, assignV, emB])
  refine Tells.seq (pieceF (own_r1 w8 hM hA1 bs8 hA2 hS2) _ rfl) (Tells.of (o := ⟨.ret, [(2, .sl 1 0 b.length 2)], [some nilB, some ob2]⟩) ⟨0, rfl⟩ ⟨rfl, 1, 2, ob2, rfl, rfl, hw2, hk2⟩)

/-- an own copy, its rows of eight behind it -/
structure OwnB (b : List UInt8) (ob : AM.Obj) : Prop where
  rw : Rw (.pb (b ++ e8)) 0 ob
  cap : ob.cap = some (b.length + 8)

def kpFr (c t : Nat) (b : List UInt8) (i : Nat) : AM.Frame := [(5, .sl 0 b.length 8 0), (6, .int .i64 (i : Nat))]

end

theorem own_ev {H : AM.Heap} {a : AV} {b : List UInt8} (h : Byt H a b) (hb : b.length ≤ 900000) : ∃ ob, OwnB b ob ∧ evT X 8 [a] H = some (.sl H.length 0 b.length 0, H ++ [some ob]) := by
  obtain ⟨c, p, xl, hp, hc, hx⟩ := args_byt (C := X) (f := 8) (i := 0) rfl h (args_nil 1)
  obtain ⟨code, hcode, hr⟩ := own_code c b hc hb
  obtain ⟨ob, q1, q2, q3⟩ := Ev1.newBc (H := H) (n := b.length) (k := some (b.length + 8)) (l := b ++ e8) (rest := []) (evT_below X) Tryd.func8 hcode hx (by simp [idsL, ids, hp.ids]) (by simp [gtag]) rfl rfl rfl (by
    obtain ⟨o, ⟨he, o1, g, ob, q1, q2, q3, q4⟩, hrun⟩ := hr
    exact ⟨o, ⟨he, o1, g, ob, congrArg (fun v => some [v]) q1, q2, q3, q4⟩, by rw [par8, coB hp]; exact hrun⟩)
  exact ⟨ob, ⟨q1, q2⟩, evT_eq q3⟩

theorem OwnB.byt {H : AM.Heap} {o : Nat} {ob : AM.Obj} {b : List UInt8} (ho : H[o]? = some (some ob)) (h : OwnB b ob) : Byt H (.sl o 0 b.length 0) b :=
  Byt.sl ho h.rw (by simp) (by simp)

end Go.Proofs.YtifgkkfchnfcaaaDoor

/- Walks: a moment, or a span, appended to what is handed over. -/
namespace Go.Proofs.YtifgkkfchnfcaaaDoor
open Go.AM
set_option linter.unusedSimpArgs false
set_option linter.unusedVariables false

/-- hours, minutes, seconds -/
def clB (w : Wh) : List UInt8 := [UInt8.ofNat w.h.toNat, UInt8.ofNat w.mi.toNat, UInt8.ofNat w.s.toNat]
def usB (w : Wh) : List UInt8 := if w.us = 0 then [] else leB 4 w.us.toNat
/-- a span's bytes -/
def spB (w : Wh) : List UInt8 := if w = {} then [0] else ((if w.us = 0 then 8 else 12) :: (if w.neg then 1 else 0) :: leB 4 w.d.toNat) ++ clB w ++ usB w
/-- how many bytes a moment has -/
def moN (w : Wh) : UInt8 := if w = { y := w.y, mo := w.mo, d := w.d } then 4 else if w.us = 0 then 7 else 11
/-- a moment's bytes -/
def moB (w : Wh) : List UInt8 := if w = {} then [0] else (moN w :: (leB 2 w.y.toNat ++ [UInt8.ofNat w.mo.toNat, UInt8.ofNat w.d.toNat])) ++ (if w = { y := w.y, mo := w.mo, d := w.d } then [] else clB w) ++ usB w
def whB (w : Wh) (t : Nat) : List UInt8 := if t = 11 then spB w else moB w

theorem bs3n (H : AM.Heap) (a b c : Nat) (ha : a < 256) (hb : b < 256) (hc : c < 256) : buildSliceV X H 22 3 [(0, .int .u8 (a : Nat)), (1, .int .u8 (b : Nat)), (2, .int .u8 (c : Nat))] = some (.ro 1 (.pb [UInt8.ofNat a, UInt8.ofNat b, UInt8.ofNat c]) 0, H) := by
  have h1 : (a : Int) < 256 := by omega
  have h2 : (b : Int) < 256 := by omega
  have h3 : (c : Int) < 256 := by omega
  simp [buildSliceV, setParts, litRow, mkRow, asBytes, cellsAV, cellsOf, scalars, scalar, idsL, ids, tagsL, tags, joinTags, h1, h2, h3]
theorem bs2n (H : AM.Heap) (a b : Nat) (ha : a < 256) (hb : b < 256) : buildSliceV X H 22 2 [(0, .int .u8 (a : Nat)), (1, .int .u8 (b : Nat))] = some (.ro 1 (.pb [UInt8.ofNat a, UInt8.ofNat b]) 0, H) := by
  have h1 : (a : Int) < 256 := by omega
  have h2 : (b : Int) < 256 := by omega
  simp [buildSliceV, setParts, litRow, mkRow, asBytes, cellsAV, cellsOf, scalars, scalar, idsL, ids, tagsL, tags, joinTags, h1, h2]
theorem bsK (H : AM.Heap) (y : UInt8) (k : Int) (h : (y.toNat : Int) = k) : buildSliceV X H 22 1 [(0, .int .u8 k)] = some (.ro 1 (.pb [y]) 0, H) := by
  subst h; exact bs1 H y

theorem fin_nn {w : Wh} {t : Nat} (h : fin w t = true) : 0 ≤ w.y ∧ w.y < 65536 ∧ 0 ≤ w.mo ∧ w.mo < 256 ∧ 0 ≤ w.d ∧ w.d < 256 ∧ 0 ≤ w.h ∧ w.h < 256 ∧ 0 ≤ w.mi ∧ w.mi < 256 ∧ 0 ≤ w.s ∧ w.s < 256 ∧ 0 ≤ w.us ∧ w.us < 4294967296 := by
  unfold fin clk btw at h
  simp only [Bool.and_eq_true, decide_eq_true_eq] at h
  obtain ⟨⟨h1, h2, h3, h4⟩, h5⟩ := h
  by_cases h11 : t = 11
  · rw [if_pos h11] at h5
    simp only [Bool.and_eq_true, decide_eq_true_eq] at h5
    omega
  · rw [if_neg h11] at h5
    simp only [Bool.and_eq_true, decide_eq_true_eq] at h5
    omega

theorem tcondT {Q : AM.Out → Prop} {C : Ctx} {T : Cf} {f m : Nat} {fr : AM.Frame} {H : AM.Heap} {c : Operand} {a b : Code} (hc : evalO C fr c = .bool true) (h : Tells Q C T f m a fr H) : Tells Q C T f m (.cond c a b) fr H := by
  obtain ⟨o, hq, ho⟩ := h
  exact ⟨o, hq, condT hc ho⟩
theorem tcondF {Q : AM.Out → Prop} {C : Ctx} {T : Cf} {f m : Nat} {fr : AM.Frame} {H : AM.Heap} {c : Operand} {a b : Code} (hc : evalO C fr c = .bool false) (h : Tells Q C T f m b fr H) : Tells Q C T f m (.cond c a b) fr H := by
  obtain ⟨o, hq, ho⟩ := h
  exact ⟨o, hq, condF hc ho⟩

section
variable (l : List UInt8) (w : Wh) (tg : Nat)

def wnP (M : List UInt8) (l : List UInt8) (w : Wh) (tg : Nat) (fr : AM.Frame) (H : AM.Heap) : Prop :=
  ∃ ob' g' tl, fr = (0, .sl 0 0 (l ++ M).length g') :: (4, .ptr 1 0 0 0) :: tl ∧ H = [some ob', some (whO w), some nilB] ∧ RwT (.pb (l ++ M)) (g' + 1) tg { ob' with g := ob'.g + 1 } ∧ 1 ≤ g'

noncomputable def wnO : Option Code := ((Tryd.f21.body).bind cR).bind cL

set_option maxRecDepth 100000 in
set_option maxHeartbeats 4000000 in
theorem span_code (ob : AM.Obj) (hw : RwT (.pb l) 0 tg ob) (hl : l.length ≤ 80000000) (hf : fin w 11 = true) (hz : w ≠ {}) : ∃ code, wnO = some code ∧
    Tells (Goes fun fr H => ∃ ob' g', fr = [(0, .sl 0 0 (l.length + 9) g'), (4, .ptr 1 0 0 0)] ∧ H = [some ob', some (whO w), some nilB] ∧ RwT (.pb (l ++ (((if w.us = 0 then 8 else 12) :: (if w.neg then 1 else 0) :: leB 4 w.d.toNat) ++ clB w))) g' tg ob' ∧ 1 ≤ g')
      X (evT X) 21 1 code [(0, .sl 0 0 l.length 0), (2, .int .u8 11), (4, .ptr 1 0 0 0)] [some ob, some (whO w), some nilB] := by
  refine ⟨_, rfl, ?_⟩
  have hE := fun H xo yo => eqWh w {} H xo yo
  rw [decide_eq_false hz] at hE
  simp only [Wh.pay, Int.cast_ofNat_Int] at hE
  have hb0 := bdW0
  obtain ⟨n1, n2, n3, n4, n5, n6, n7, n8, n9, n10, n11, n12, n13, n14⟩ := fin_nn hf
  apply Tells.seq (fr' := [(0, .sl 0 0 l.length 0), (4, .ptr 1 0 0 0), (10, .bool true)]) (H' := [some ob, some (whO w), some nilB])
  · (refine ⟨0, ?_⟩; simp (maxSteps := 2000000) -implicitDefEqProofs [-getElem?_pos, List.getElem?_cons_zero, List.getElem?_cons_succ, go_sem, eqV, plen, loadV, storeV])
  apply tcondT (by simp [evalO, getF])
  generalize hM : (if w.us = 0 then (8 : UInt8) else 12) = M0 at *
  generalize hy : (if w.neg then (1 : UInt8) else 0) = y at *
  obtain ⟨ob1, hw1, hA0⟩ := app_t (H := [some ob, some (whO w), some nilB]) (o := 0) (m := [M0]) (src := .ro 1 (.pb [M0]) 0) rfl hw (.inl rfl) (by simp; omega)
  apply Tells.seq (fr' := [(0, .sl 0 0 (l.length + 1) 1), (4, .ptr 1 0 0 0)]) (H' := [some ob1, some (whO w), some nilB])
  · refine Run.block (id := 0) ?_ (by simp)
    simp only [List.length_cons, List.length_nil] at hA0
    by_cases hus : w.us = 0
    · rw [if_pos hus] at hM
      have hbs := fun H => bsK H M0 8 (by rw [← hM]; rfl)
      generalize hz0 : (AV.pc [.bool false, .int .i64 0, .int .i64 0, .int .i64 0, .int .i64 0, .int .i64 0, .int .i64 0, .int .i64 0]) = pz at *
      simp only [whO, Wh.pay] at hA0
      rw [hus] at hE hA0
      (refine ⟨0, ?_⟩; simp (maxSteps := 2000000) -implicitDefEqProofs [-getElem?_pos, List.getElem?_cons_zero, List.getElem?_cons_succ, go_sem, eqV, plen, loadV, storeV, -eqV, whO, Wh.pay, mkWh, hb0, hE, hus, hbs, hA0, upd])
    · rw [if_neg hus] at hM
      have husb : (w.us == 0) = false := by simpa using hus
      have hbs := fun H => bsK H M0 12 (by rw [← hM]; rfl)
      generalize hz0 : (AV.pc [.bool false, .int .i64 0, .int .i64 0, .int .i64 0, .int .i64 0, .int .i64 0, .int .i64 0, .int .i64 0]) = pz at *
      simp only [whO, Wh.pay] at hA0
      (refine ⟨0, ?_⟩; simp (maxSteps := 2000000) -implicitDefEqProofs [-getElem?_pos, List.getElem?_cons_zero, List.getElem?_cons_succ, go_sem, eqV, plen, loadV, storeV, -eqV, whO, Wh.pay, mkWh, hb0, hE, husb, hbs, hA0, upd])
  clear hA0 hE hb0
  apply Tells.seq
  · (refine ⟨0, ?_⟩; conv => lhs; simp (maxSteps := 2000000) -implicitDefEqProofs [-getElem?_pos, List.getElem?_cons_zero, List.getElem?_cons_succ, go_sem, eqV, plen, loadV, storeV])
  apply Tells.andThen (P := fun fr H => ∃ tl, fr = [(0, .sl 0 0 (l.length + 1) 1), (4, .ptr 1 0 0 0), (7, .int .u8 (y.toNat : Nat))] ++ tl ∧ H = [some ob1, some (whO w), some nilB])
  · cases hn : w.neg with
    | true =>
      rw [hn] at hy
      refine Tells.of (o := ⟨.normal, [(0, .sl 0 0 (l.length + 1) 1), (4, .ptr 1 0 0 0), (7, .int .u8 1)], [some ob1, some (whO w), some nilB]⟩) ⟨0, ?_⟩ ⟨rfl, [], by rw [← hy]; rfl, rfl⟩
      simp (maxSteps := 2000000) -implicitDefEqProofs [-getElem?_pos, List.getElem?_cons_zero, List.getElem?_cons_succ, go_sem, eqV, plen, loadV, storeV, whO, Wh.pay, hn]
    | false =>
      rw [hn] at hy
      refine Tells.of (o := ⟨.normal, [(0, .sl 0 0 (l.length + 1) 1), (4, .ptr 1 0 0 0), (7, .int .u8 0), (29, .bool false)], [some ob1, some (whO w), some nilB]⟩) ⟨0, ?_⟩ ⟨rfl, [(29, .bool false)], by rw [← hy]; rfl, rfl⟩
      simp (maxSteps := 2000000) -implicitDefEqProofs [-getElem?_pos, List.getElem?_cons_zero, List.getElem?_cons_succ, go_sem, eqV, plen, loadV, storeV, whO, Wh.pay, hn]
  rintro fr H ⟨tl, rfl, rfl⟩
  obtain ⟨dn, hdn⟩ : ∃ n : Nat, w.d = (n : Int) := ⟨w.d.toNat, by omega⟩
  obtain ⟨hn, hhn⟩ : ∃ n : Nat, w.h = (n : Int) := ⟨w.h.toNat, by omega⟩
  obtain ⟨mn, hmn⟩ : ∃ n : Nat, w.mi = (n : Int) := ⟨w.mi.toNat, by omega⟩
  obtain ⟨sn, hsn⟩ : ∃ n : Nat, w.s = (n : Int) := ⟨w.s.toNat, by omega⟩
  obtain ⟨ob2, hw2, hA1⟩ := app_t (H := [some ob1, some (whO w), some nilB]) (o := 0) (m := [y]) (src := .ro 1 (.pb [y]) 0) rfl hw1 (.inl rfl) (by simp; omega)
  obtain ⟨ob3, hw3, hF⟩ := vfixed_ev (H := [some ob2, some (whO w), some nilB]) (o := 0) (x := dn) (n := 4) (N := 4) rfl hw2 rfl (by simp; omega) (by omega) (by omega)
  obtain ⟨ob4, hw4, hA2⟩ := app_t (H := [some ob3, some (whO w), some nilB]) (o := 0) (m := clB w) (src := .ro 1 (.pb (clB w)) 0) rfl hw3 (.inl rfl) (by simp [leB_len, clB]; omega)
  have l1 : (l ++ [M0]).length = l.length + 1 := by simp
  have l2 : (l ++ [M0] ++ [y]).length = l.length + 2 := by simp
  have l3 : (l ++ [M0] ++ [y] ++ leB 4 dn).length = l.length + 6 := by simp [leB_len]
  rw [l1] at hA1
  rw [l2] at hF
  rw [l3] at hA2
  apply Tells.seq (fr' := [(0, .sl 0 0 (l.length + 6) 3), (4, .ptr 1 0 0 0)]) (H' := [some ob3, some (whO w), some nilB])
  · have hbs := fun H => bs1 H y
    have wd : IntKind.u64.wrap w.d = (dn : Int) := by rw [hdn]; exact wrap_u64 (by omega) (by omega)
    have hre : reach [some ob2, some (whO w), some nilB] reachFuel [0] [] = [0] := reach_box rfl (by rw [hw2.p]; rfl)
    have hg1 := hw1.g
    have hp1 := hw1.p
    have hi1 := hw1.ids
    have hg2 := hw2.g
    have hp2 := hw2.p
    have hi2 := hw2.ids
    simp only [List.length_cons, List.length_nil, whO, Wh.pay] at hA1 hF hre
    clear hw hw1 hw2 hw3 hw4 hA2 l1 l2 l3
    apply Run.dy (by simp) keep21_10 (by simp)
    · (conv => lhs; simp (maxSteps := 2000000) -implicitDefEqProofs [-getElem?_pos, List.getElem?_cons_zero, List.getElem?_cons_succ, go_sem, eqV, plen, loadV, storeV, runD, out1, markOf, freeO, quietO, pushes, isAssign, calledV, touched, mentioned, opVals, touchCall, mentionCall, idsAt, Op.operands, ids, idsL, lendArgs, lendV, lend1, lendL, eqH_self, whO, Wh.pay, hbs, hA1, upd, wd, hF, assignV, reach_none, hre, hg1, hi1, hg2, hi2])
      rfl
    · kernel_rfl
    · rfl
  refine Tells.of (o := ⟨.normal, [(0, .sl 0 0 (l.length + 9) 4), (4, .ptr 1 0 0 0)], [some ob4, some (whO w), some nilB]⟩) ⟨0, ?_⟩ ⟨rfl, ob4, 4, rfl, rfl, ?_, by omega⟩
  · have w1 : IntKind.u8.wrap w.h = (hn : Int) := by rw [hhn]; exact wrap_u8 (by omega) (by omega)
    have w2 : IntKind.u8.wrap w.mi = (mn : Int) := by rw [hmn]; exact wrap_u8 (by omega) (by omega)
    have w3 : IntKind.u8.wrap w.s = (sn : Int) := by rw [hsn]; exact wrap_u8 (by omega) (by omega)
    have hbs := fun H => bs3n H hn mn sn (by omega) (by omega) (by omega)
    have hcl : clB w = [UInt8.ofNat hn, UInt8.ofNat mn, UInt8.ofNat sn] := by unfold clB; rw [hhn, hmn, hsn]; simp
    rw [hcl] at hA2
    simp only [List.length_cons, List.length_nil, whO, Wh.pay] at hA2
    generalize [UInt8.ofNat hn, UInt8.ofNat mn, UInt8.ofNat sn] = cl at *
    simp (maxSteps := 2000000) -implicitDefEqProofs [-getElem?_pos, List.getElem?_cons_zero, List.getElem?_cons_succ, go_sem, eqV, plen, loadV, storeV, whO, Wh.pay, w1, w2, w3, hbs, hA2, upd]
  · have e : w.d.toNat = dn := by rw [hdn]; simp
    rw [e]
    simpa using hw4

def moM (w : Wh) : List UInt8 := (moN w :: (leB 2 w.y.toNat ++ [UInt8.ofNat w.mo.toNat, UInt8.ofNat w.d.toNat])) ++ (if w = { y := w.y, mo := w.mo, d := w.d } then [] else clB w)

set_option maxRecDepth 100000 in
set_option maxHeartbeats 4000000 in
theorem moment_code (t : Nat) (ob : AM.Obj) (hw : RwT (.pb l) 0 tg ob) (hl : l.length ≤ 80000000) (ht : t < 256) (h11 : t ≠ 11) (hf : fin w t = true) (hz : w ≠ {}) : ∃ code, wnO = some code ∧
    Tells (Goes fun fr H => ∃ ob' g' tl, fr = [(0, .sl 0 0 (l ++ moM w).length g'), (4, .ptr 1 0 0 0)] ++ tl ∧ H = [some ob', some (whO w), some nilB] ∧ RwT (.pb (l ++ moM w)) g' tg ob' ∧ 1 ≤ g')
      X (evT X) 21 1 code [(0, .sl 0 0 l.length 0), (2, .int .u8 (t : Nat)), (4, .ptr 1 0 0 0)] [some ob, some (whO w), some nilB] := by
  refine ⟨_, rfl, ?_⟩
  have hE := fun H xo yo => eqWh w {} H xo yo
  rw [decide_eq_false hz] at hE
  have hE2 := fun H xo yo => eqWh w { y := w.y, mo := w.mo, d := w.d } H xo yo
  simp only [Wh.pay, Int.cast_ofNat_Int] at hE hE2
  have hb0 := bdW0
  have hb3 := bdW3 w.y w.mo w.d
  obtain ⟨n1, n2, n3, n4, n5, n6, n7, n8, n9, n10, n11, n12, n13, n14⟩ := fin_nn hf
  have h11b : ((t : Int) == 11) = false := by simp; omega
  apply Tells.seq (fr' := [(0, .sl 0 0 l.length 0), (4, .ptr 1 0 0 0), (10, .bool false)]) (H' := [some ob, some (whO w), some nilB])
  · (refine ⟨0, ?_⟩; simp (maxSteps := 2000000) -implicitDefEqProofs [-getElem?_pos, List.getElem?_cons_zero, List.getElem?_cons_succ, go_sem, eqV, plen, loadV, storeV, h11b])
  apply tcondF (by simp [evalO, getF])
  apply Tells.seq
  · (refine ⟨0, ?_⟩; conv => lhs; simp (maxSteps := 2000000) -implicitDefEqProofs [-getElem?_pos, List.getElem?_cons_zero, List.getElem?_cons_succ, go_sem, eqV, plen, loadV, storeV])
  unfold moM
  have hmn : moN w = if decide (w = { y := w.y, mo := w.mo, d := w.d }) = true then 4 else if w.us = 0 then 7 else 11 := by
    unfold moN
    simp only [decide_eq_true_eq]
  have hif : (if w = { y := w.y, mo := w.mo, d := w.d } then ([] : List UInt8) else clB w) = if decide (w = { y := w.y, mo := w.mo, d := w.d }) = true then [] else clB w := by
    simp only [decide_eq_true_eq]
  rw [hif]
  clear hif
  generalize decide (w = { y := w.y, mo := w.mo, d := w.d }) = e at *
  generalize moN w = N at *
  apply Tells.andThen (P := fun fr H => ∃ tl, fr = [(0, .sl 0 0 l.length 0), (4, .ptr 1 0 0 0), (8, .int .u8 (N.toNat : Nat))] ++ tl ∧ H = [some ob, some (whO w), some nilB])
  · generalize hz0 : (AV.pc [.bool false, .int .i64 0, .int .i64 0, .int .i64 0, .int .i64 0, .int .i64 0, .int .i64 0, .int .i64 0]) = pz at *
    generalize hz3 : (AV.pc [.bool false, .int .i64 w.y, .int .i64 w.mo, .int .i64 w.d, .int .i64 0, .int .i64 0, .int .i64 0, .int .i64 0]) = p3 at *
    cases e with
    | true =>
      rw [if_pos rfl] at hmn
      refine Tells.of (o := ⟨.normal, [(0, .sl 0 0 l.length 0), (4, .ptr 1 0 0 0), (8, .int .u8 4)], [some ob, some (whO w), some nilB]⟩) (Run.block (id := 1) ⟨0, ?_⟩ (by simp)) ⟨rfl, [], by rw [hmn]; rfl, rfl⟩
      simp (maxSteps := 2000000) -implicitDefEqProofs [-getElem?_pos, List.getElem?_cons_zero, List.getElem?_cons_succ, go_sem, eqV, plen, loadV, storeV, -eqV, whO, Wh.pay, mkWh, hb0, hb3, hE, hE2]
    | false =>
      rw [if_neg (by simp)] at hmn
      by_cases hus : w.us = 0
      · rw [if_pos hus] at hmn
        refine Tells.of (o := ⟨.normal, [(0, .sl 0 0 l.length 0), (4, .ptr 1 0 0 0), (8, .int .u8 7)], [some ob, some (whO w), some nilB]⟩) (Run.block (id := 1) ⟨0, ?_⟩ (by simp)) ⟨rfl, [], by rw [hmn]; rfl, rfl⟩
        rw [hus] at hE hE2
        simp (maxSteps := 2000000) -implicitDefEqProofs [-getElem?_pos, List.getElem?_cons_zero, List.getElem?_cons_succ, go_sem, eqV, plen, loadV, storeV, -eqV, whO, Wh.pay, mkWh, hb0, hb3, hE, hE2, hus]
      · rw [if_neg hus] at hmn
        have husb : (w.us == 0) = false := by simpa using hus
        refine Tells.of (o := ⟨.normal, [(0, .sl 0 0 l.length 0), (4, .ptr 1 0 0 0), (8, .int .u8 11), (67, .bool false)], [some ob, some (whO w), some nilB]⟩) (Run.block (id := 1) ⟨0, ?_⟩ (by simp)) ⟨rfl, [(67, .bool false)], by rw [hmn]; rfl, rfl⟩
        simp (maxSteps := 2000000) -implicitDefEqProofs [-getElem?_pos, List.getElem?_cons_zero, List.getElem?_cons_succ, go_sem, eqV, plen, loadV, storeV, -eqV, whO, Wh.pay, mkWh, hb0, hb3, hE, hE2, husb]
  clear hE hE2 hb0 hb3
  rintro fr H ⟨tl, rfl, rfl⟩
  obtain ⟨yn, hyn⟩ : ∃ n : Nat, w.y = (n : Int) := ⟨w.y.toNat, by omega⟩
  obtain ⟨on, hon⟩ : ∃ n : Nat, w.mo = (n : Int) := ⟨w.mo.toNat, by omega⟩
  obtain ⟨dn, hdn⟩ : ∃ n : Nat, w.d = (n : Int) := ⟨w.d.toNat, by omega⟩
  obtain ⟨hn, hhn⟩ : ∃ n : Nat, w.h = (n : Int) := ⟨w.h.toNat, by omega⟩
  obtain ⟨mn, hmnn⟩ : ∃ n : Nat, w.mi = (n : Int) := ⟨w.mi.toNat, by omega⟩
  obtain ⟨sn, hsn⟩ : ∃ n : Nat, w.s = (n : Int) := ⟨w.s.toNat, by omega⟩
  have ey : w.y.toNat = yn := by rw [hyn]; simp
  have eo : w.mo.toNat = on := by rw [hon]; simp
  have ed : w.d.toNat = dn := by rw [hdn]; simp
  rw [ey, eo, ed]
  obtain ⟨ob1, hw1, hA1⟩ := app_t (H := [some ob, some (whO w), some nilB]) (o := 0) (m := [N]) (src := .ro 1 (.pb [N]) 0) rfl hw (.inl rfl) (by simp; omega)
  obtain ⟨ob2, hw2, hF⟩ := vfixed_ev (H := [some ob1, some (whO w), some nilB]) (o := 0) (x := yn) (n := 2) (N := 2) rfl hw1 rfl (by simp; omega) (by omega) (by omega)
  obtain ⟨ob3, hw3, hA2⟩ := app_t (H := [some ob2, some (whO w), some nilB]) (o := 0) (m := [UInt8.ofNat on, UInt8.ofNat dn]) (src := .ro 1 (.pb [UInt8.ofNat on, UInt8.ofNat dn]) 0) rfl hw2 (.inl rfl) (by simp [leB_len]; omega)
  obtain ⟨ob4, hw4, hA3⟩ := app_t (H := [some ob3, some (whO w), some nilB]) (o := 0) (m := clB w) (src := .ro 1 (.pb (clB w)) 0) rfl hw3 (.inl rfl) (by simp [leB_len, clB]; omega)
  have l1 : (l ++ [N]).length = l.length + 1 := by simp
  have l2 : (l ++ [N] ++ leB 2 yn).length = l.length + 3 := by simp [leB_len]
  have l3 : (l ++ [N] ++ leB 2 yn ++ [UInt8.ofNat on, UInt8.ofNat dn]).length = l.length + 5 := by simp [leB_len]
  rw [l1] at hF
  rw [l2] at hA2
  rw [l3] at hA3
  apply Tells.seq (fr' := [(0, .sl 0 0 (l.length + 5) 3), (4, .ptr 1 0 0 0), (8, .int .u8 (N.toNat : Nat))]) (H' := [some ob3, some (whO w), some nilB])
  · have hbs := fun H => bs1 H N
    have hbs2 := fun H => bs2n H on dn (by omega) (by omega)
    have wd : IntKind.u64.wrap w.y = (yn : Int) := by rw [hyn]; exact wrap_u64 (by omega) (by omega)
    have w1 : IntKind.u8.wrap w.mo = (on : Int) := by rw [hon]; exact wrap_u8 (by omega) (by omega)
    have w2 : IntKind.u8.wrap w.d = (dn : Int) := by rw [hdn]; exact wrap_u8 (by omega) (by omega)
    have hre : reach [some ob1, some (whO w), some nilB] reachFuel [0] [] = [0] := reach_box rfl (by rw [hw1.p]; rfl)
    have hg1 := hw.g
    have hi1 := hw.ids
    have hg2 := hw1.g
    have hi2 := hw1.ids
    have hg3 := hw2.g
    have hi3 := hw2.ids
    have hq1 := hw1.p
    simp only [List.length_cons, List.length_nil, whO, Wh.pay] at hA1 hF hre hA2
    clear hw hw1 hw2 hw3 hw4 hA3 l1 l2 l3
    generalize [UInt8.ofNat on, UInt8.ofNat dn] = od at *
    apply Run.dy (by simp) keep21_19 (by simp)
    · (conv => lhs; simp (maxSteps := 2000000) -implicitDefEqProofs [-getElem?_pos, List.getElem?_cons_zero, List.getElem?_cons_succ, go_sem, eqV, plen, loadV, storeV, runD, out1, markOf, freeO, quietO, pushes, isAssign, calledV, touched, mentioned, opVals, touchCall, mentionCall, idsAt, Op.operands, ids, idsL, lendArgs, lendV, lend1, lendL, eqH_self, whO, Wh.pay, hbs, hbs2, hA1, upd, wd, w1, w2, hF, hA2, assignV, reach_none, hre, hg1, hi1, hg2, hi2, hg3, hi3, hq1])
      rfl
    · kernel_rfl
    · rfl
  cases e with
  | true =>
    rw [if_pos rfl] at hmn ⊢
    subst hmn
    refine Tells.of (o := ⟨.normal, [(0, .sl 0 0 (l.length + 5) 3), (4, .ptr 1 0 0 0), (88, .bool false)], [some ob3, some (whO w), some nilB]⟩) ⟨0, ?_⟩ ⟨rfl, ob3, 3, [(88, .bool false)], by simp [leB_len], rfl, by simpa using hw3, by omega⟩
    simp (maxSteps := 2000000) -implicitDefEqProofs [-getElem?_pos, List.getElem?_cons_zero, List.getElem?_cons_succ, go_sem, eqV, plen, loadV, storeV, whO, Wh.pay, show ((4 : UInt8).toNat : Int) = 4 from rfl]
  | false =>
    rw [if_neg (by simp)] at hmn ⊢
    have hN4 : (4 : Int) < (N.toNat : Int) := by
      rw [hmn]; split <;> decide
    have hcl : clB w = [UInt8.ofNat hn, UInt8.ofNat mn, UInt8.ofNat sn] := by unfold clB; rw [hhn, hmnn, hsn]; simp
    rw [hcl] at hA3 hw4 ⊢
    refine Tells.of (o := ⟨.normal, [(0, .sl 0 0 (l.length + 8) 4), (4, .ptr 1 0 0 0)], [some ob4, some (whO w), some nilB]⟩) ⟨0, ?_⟩ ⟨rfl, ob4, 4, [], by simp [leB_len], rfl, by simpa using hw4, by omega⟩
    have w1 : IntKind.u8.wrap w.h = (hn : Int) := by rw [hhn]; exact wrap_u8 (by omega) (by omega)
    have w2 : IntKind.u8.wrap w.mi = (mn : Int) := by rw [hmnn]; exact wrap_u8 (by omega) (by omega)
    have w3 : IntKind.u8.wrap w.s = (sn : Int) := by rw [hsn]; exact wrap_u8 (by omega) (by omega)
    have hbs := fun H => bs3n H hn mn sn (by omega) (by omega) (by omega)
    simp only [List.length_cons, List.length_nil, whO, Wh.pay] at hA3
    generalize [UInt8.ofNat hn, UInt8.ofNat mn, UInt8.ofNat sn] = cl at *
    simp (maxSteps := 2000000) -implicitDefEqProofs [-getElem?_pos, List.getElem?_cons_zero, List.getElem?_cons_succ, go_sem, eqV, plen, loadV, storeV, whO, Wh.pay, hN4, w1, w2, w3, hbs, hA3, upd]

/-- what stands behind the clock, and returns -/
noncomputable def wnE : Option Code := ((Tryd.f21.body).bind cR).bind cR

set_option maxRecDepth 100000 in
set_option maxHeartbeats 4000000 in
theorem end_code (M : List UInt8) (g : Nat) (tl : AM.Frame) (ob : AM.Obj) (hw : RwT (.pb (l ++ M)) g tg ob) (hg : 1 ≤ g) (hl : (l ++ M).length ≤ 80000100) (hu : 0 ≤ w.us ∧ w.us < 4294967296) : ∃ code, wnE = some code ∧
    Tells (Rets fun fr H => ∃ ob' g' R, getF fr 6 = .sl 0 0 (l ++ (M ++ usB w)).length g' ∧ H = some ob' :: R ∧ RwT (.pb (l ++ (M ++ usB w))) g' tg ob' ∧ 1 ≤ g')
      X (evT X) 21 1 code ([(0, .sl 0 0 (l ++ M).length g), (4, .ptr 1 0 0 0)] ++ tl) [some ob, some (whO w), some nilB] := by
  refine ⟨_, rfl, ?_⟩
  have hg0 := hw.g
  unfold usB
  by_cases hus : w.us = 0
  · rw [if_pos hus, List.append_nil]
    refine Tells.of (o := ⟨.ret, [(6, .sl 0 0 (l ++ M).length g)], [some ob, some (whO w), some nilB]⟩) ⟨0, ?_⟩ ⟨rfl, ob, g, _, rfl, rfl, hw, hg⟩
    generalize (l ++ M).length = n at *
    simp (maxSteps := 2000000) -implicitDefEqProofs [-getElem?_pos, List.getElem?_cons_zero, List.getElem?_cons_succ, go_sem, eqV, plen, loadV, storeV, whO, Wh.pay, hus, assignV]
  · rw [if_neg hus]
    have husb : (w.us != 0) = true := by simpa using hus
    obtain ⟨un, hun⟩ : ∃ n : Nat, w.us = (n : Int) := ⟨w.us.toNat, by omega⟩
    have eu : w.us.toNat = un := by rw [hun]; simp
    rw [eu, ← List.append_assoc]
    have wd : IntKind.u64.wrap w.us = (un : Int) := by rw [hun]; exact wrap_u64 (by omega) (by omega)
    obtain ⟨ob2, hw2, hF⟩ := vfixed_ev (H := [some ob, some (whO w), some nilB]) (o := 0) (x := un) (n := 4) (N := 4) rfl hw rfl (by omega) (by omega) (by omega)
    refine Tells.of (o := ⟨.ret, [(6, .sl 0 0 ((l ++ M).length + 4) (g + 1))], [some ob2, some (whO w), some nilB]⟩) ⟨0, ?_⟩ ⟨rfl, ob2, g + 1, _, by rw [List.length_append (bs := leB 4 un), leB_len]; rfl, rfl, hw2, by omega⟩
    generalize (l ++ M).length = n at *
    simp only [whO, Wh.pay] at hF
    simp (maxSteps := 2000000) -implicitDefEqProofs [-getElem?_pos, List.getElem?_cons_zero, List.getElem?_cons_succ, go_sem, eqV, plen, loadV, storeV, whO, Wh.pay, husb, wd, hF, assignV, upd]

set_option maxRecDepth 100000 in
set_option maxHeartbeats 4000000 in
theorem when_code (t : Nat) (ob : AM.Obj) (hw : RwT (.pb l) 0 tg ob) (hl : l.length ≤ 80000000) (ht : t < 256) (hf : fin w t = true) : ∃ code, Tryd.f21.body = some code ∧
    Tells (Rets fun fr H => ∃ ob' g' R, getF fr 6 = .sl 0 0 (l ++ whB w t).length g' ∧ H = some ob' :: R ∧ RwT (.pb (l ++ whB w t)) g' tg ob' ∧ 1 ≤ g')
      X (evT X) 21 1 code [(0, .sl 0 0 l.length 0), (1, .agg w.pay), (2, .int .u8 (t : Nat))] [some ob] := by
  refine ⟨_, rfl, ?_⟩
  have hnn := fin_nn hf
  apply Tells.seq (fr' := [(0, .sl 0 0 l.length 0), (2, .int .u8 (t : Nat)), (4, .ptr 1 0 0 0)]) (H' := [some ob, some (whO w), some nilB])
  · (refine ⟨0, ?_⟩; simp (maxSteps := 2000000) -implicitDefEqProofs [-getElem?_pos, List.getElem?_cons_zero, List.getElem?_cons_succ, go_sem, eqV, plen, loadV, storeV, whO, Wh.pay, assignV, emB])
  by_cases hz : w = {}
  · have hwb : whB w t = [0] := by unfold whB spB moB; rw [if_pos hz, if_pos hz]; simp
    rw [hwb]
    obtain ⟨ob1, hw1, hA1⟩ := app_t (H := [some ob, some (whO w), some nilB]) (o := 0) (m := [0]) (src := .ro 1 (.pb [0]) 0) rfl hw (.inl rfl) (by simp; omega)
    have hE := fun H xo yo => eqWh w {} H xo yo
    rw [decide_eq_true hz] at hE
    simp only [Wh.pay, Int.cast_ofNat_Int] at hE
    have hb0 := bdW0
    have hbs := fun H => bsK H 0 0 rfl
    have hg1 := hw1.g
    refine Tells.of (o := ⟨.ret, [(6, .sl 0 0 (l.length + 1) 1)], [some ob1, some (whO w), some nilB]⟩) ?_ ⟨rfl, ob1, 1, _, by simp [getF], rfl, hw1, by omega⟩
    apply Run.seq_out (hne := by simp)
    simp only [List.length_cons, List.length_nil, whO, Wh.pay] at hA1
    generalize hz0 : (AV.pc [.bool false, .int .i64 0, .int .i64 0, .int .i64 0, .int .i64 0, .int .i64 0, .int .i64 0, .int .i64 0]) = pz at *
    by_cases h11 : t = 11
    · subst h11
      apply Run.seq (fr' := [(0, .sl 0 0 l.length 0), (4, .ptr 1 0 0 0), (10, .bool true)]) (H' := [some ob, some (whO w), some nilB])
      · (refine ⟨0, ?_⟩; simp (maxSteps := 2000000) -implicitDefEqProofs [-getElem?_pos, List.getElem?_cons_zero, List.getElem?_cons_succ, go_sem, eqV, plen, loadV, storeV])
      refine condT (by simp [evalO, getF]) ?_
      apply Run.seq_out (hne := by simp)
      refine Run.block ?_ (by simp)
      refine ⟨0, ?_⟩
      simp (maxSteps := 2000000) -implicitDefEqProofs [-getElem?_pos, List.getElem?_cons_zero, List.getElem?_cons_succ, go_sem, eqV, plen, loadV, storeV, -eqV, whO, Wh.pay, mkWh, hb0, hE, hbs, hA1, upd, assignV]
    · have h11b : ((t : Int) == 11) = false := by simp; omega
      apply Run.seq (fr' := [(0, .sl 0 0 l.length 0), (4, .ptr 1 0 0 0), (10, .bool false)]) (H' := [some ob, some (whO w), some nilB])
      · (refine ⟨0, ?_⟩; simp (maxSteps := 2000000) -implicitDefEqProofs [-getElem?_pos, List.getElem?_cons_zero, List.getElem?_cons_succ, go_sem, eqV, plen, loadV, storeV, h11b])
      refine condF (by simp [evalO, getF]) ?_
      apply Run.seq
      · (refine ⟨0, ?_⟩; conv => lhs; simp (maxSteps := 2000000) -implicitDefEqProofs [-getElem?_pos, List.getElem?_cons_zero, List.getElem?_cons_succ, go_sem, eqV, plen, loadV, storeV])
      apply Run.seq_out (hne := by simp)
      refine Run.block ?_ (by simp)
      refine ⟨0, ?_⟩
      simp (maxSteps := 2000000) -implicitDefEqProofs [-getElem?_pos, List.getElem?_cons_zero, List.getElem?_cons_succ, go_sem, eqV, plen, loadV, storeV, -eqV, whO, Wh.pay, mkWh, hb0, hE, hbs, hA1, upd, assignV]
  · by_cases h11 : t = 11
    · subst h11
      have hwb : whB w 11 = ((if w.us = 0 then 8 else 12) :: (if w.neg then 1 else 0) :: leB 4 w.d.toNat) ++ clB w ++ usB w := by unfold whB spB; rw [if_pos rfl, if_neg hz]
      rw [hwb]
      refine Tells.andThen (pieceF (span_code l w tg ob hw hl hf hz) _ rfl) ?_
      rintro fr H ⟨ob', g', rfl, rfl, hw', hg'⟩
      have hle : (l ++ (((if w.us = 0 then 8 else 12) :: (if w.neg then 1 else 0) :: leB 4 w.d.toNat) ++ clB w)).length = l.length + 9 := by simp [leB_len, clB]
      have := pieceF (end_code l w tg _ g' [] ob' hw' hg' (by omega) ⟨hnn.2.2.2.2.2.2.2.2.2.2.2.2.1, hnn.2.2.2.2.2.2.2.2.2.2.2.2.2⟩) _ rfl
      rw [hle] at this
      exact this
    · have hwb : whB w t = moM w ++ usB w := by unfold whB moB moM; rw [if_neg h11, if_neg hz]
      rw [hwb]
      refine Tells.andThen (pieceF (moment_code l w tg t ob hw hl ht h11 hf hz) _ rfl) ?_
      rintro fr H ⟨ob', g', tl, rfl, rfl, hw', hg'⟩
      have hle : (l ++ moM w).length ≤ l.length + 8 := by
        unfold moM
        split <;> simp [leB_len, clB]
      exact pieceF (end_code l w tg _ g' tl ob' hw' hg' (by omega) ⟨hnn.2.2.2.2.2.2.2.2.2.2.2.2.1, hnn.2.2.2.2.2.2.2.2.2.2.2.2.2⟩) _ rfl

end

end Go.Proofs.YtifgkkfchnfcaaaDoor

/- Walks: digits, micros, whenText. -/
namespace Go.Proofs.YtifgkkfchnfcaaaDoor
open Go.AM
set_option linter.unusedSimpArgs false
set_option linter.unusedVariables false

theorem rep_all : (List.range 8).all (fun k => rowRun X (fun _ _ _ => none) 100 ⟨62, [.str [48], .int .i64 (k : Nat)], .str (List.replicate k 48), []⟩) = true := by kernel_rfl
theorem rep_ev {H : AM.Heap} {k : Nat} (h : k < 8) : evT X 62 [.str [48], .int .i64 (k : Nat)] H = some (.str (List.replicate k 48), H) :=
  evT_eq (Ev1.triedP (T := fun _ _ _ => none) Below.none (n := 100) (List.all_eq_true.1 rep_all k (List.mem_range.2 h)) rfl H)

section
variable (x n : Nat)

set_option maxRecDepth 100000 in
set_option maxHeartbeats 4000000 in
theorem dig_code (hx : x < 1000000000000) (hn : n < 8) : ∃ code, Tryd.f45.body = some code ∧
    Tells (Rets fun fr H => getF fr 4 = .str (padB x n)) X (evT X) 45 0 code [(0, .int .i64 (x : Nat)), (1, .int .i64 (n : Nat))] [] := by
  refine ⟨_, rfl, ?_⟩
  have hI := fun H => itoa_ev (H := H) (x := (x : Int)) (by omega) (by omega)
  have hib : intB (x : Int) = decB x := by unfold intB; rw [if_neg (by omega)]; rfl
  rw [hib] at hI
  have hl := decB_len x
  have h13 : ndN x ≤ 13 := by
    by_cases h0 : x = 0
    · subst h0
      have : ndN 0 = 1 := by unfold ndN; rfl
      omega
    · have h1 := ndN_le x (by omega)
      by_cases h : ndN x ≤ 13
      · exact h
      · have : (10 : Nat) ^ 13 ≤ 10 ^ (ndN x - 1) := Nat.pow_le_pow_right (by omega) (by omega)
        have : (10 : Nat) ^ 13 = 10000000000000 := by decide
        omega
  have hR := rep_ev (H := []) (k := n - ndN x) (by omega)
  have hp := padB_eq x n
  have w1 : IntKind.i64.wrap ((n : Int) - (ndN x : Int)) = (n : Int) - (ndN x : Int) := wrap_i64 (by omega) (by omega)
  have hmx : (if (0 : Int) < (n : Int) - (ndN x : Int) then (n : Int) - (ndN x : Int) else 0) = ((n - ndN x : Nat) : Int) := by
    split <;> omega
  have hmm : minmax true (.int .i64 0) [.int .i64 ((n : Int) - (ndN x : Int))] = some (.int .i64 ((n - ndN x : Nat) : Int)) := by
    simp only [minmax, if_true]
    rw [← hmx]
  have hsl : (List.replicate (n - ndN x) (48 : UInt8)).length + ndN x ≤ 9223372036854775807 := by simp; omega
  rw [hp]
  have hal : (List.replicate (n - ndN x) (48 : UInt8)).length = n - ndN x := by simp
  apply Tells.seq (fr' := [(0, .int .i64 (x : Nat)), (1, .int .i64 (n : Nat))]) (H' := [])
  · (refine ⟨0, ?_⟩; simp (maxSteps := 2000000) -implicitDefEqProofs [-getElem?_pos, List.getElem?_cons_zero, List.getElem?_cons_succ, go_sem, eqV, plen, loadV, storeV])
  generalize decB x = D at *
  generalize List.replicate (n - ndN x) (48 : UInt8) = R at *
  generalize ndN x = N at *
  apply Tells.seq (fr' := [(1, .int .i64 (n : Nat)), (5, .str D)]) (H' := [])
  · (refine ⟨0, ?_⟩; simp (maxSteps := 2000000) -implicitDefEqProofs [-getElem?_pos, List.getElem?_cons_zero, List.getElem?_cons_succ, go_sem, eqV, plen, loadV, storeV, hI])
  generalize hz : n - N = z at *
  refine Tells.of (o := ⟨.ret, [(4, .str (R ++ D))], []⟩) ⟨0, ?_⟩ ⟨rfl, rfl⟩
  rw [← hl] at w1 hmm hsl
  simp (maxSteps := 2000000) -implicitDefEqProofs [-getElem?_pos, List.getElem?_cons_zero, List.getElem?_cons_succ, go_sem, eqV, plen, loadV, storeV, w1, hmm, hR, hsl, strOp]

end

theorem dig_ev {H : AM.Heap} {x n : Nat} (hx : x < 1000000000000) (hn : n < 8) : evT X 45 [.int .i64 (x : Nat), .int .i64 (n : Nat)] H = some (.str (padB x n), H) := by
  obtain ⟨code, hcode, o, ⟨he, h4⟩, hr⟩ := dig_code x n hx hn
  exact evT_eq (Ev1.toldP (l := [.str (padB x n)]) (evT_below X) Tryd.func45 hcode (args_flat (i := 0) rfl rfl (args_flat (i := 1) rfl rfl (args_nil 2))) rfl (by simp [gtag]) rfl rfl rfl ⟨o, ⟨he, by show some [getF o.fr 4] = _; rw [h4]⟩, hr⟩)

/-- a second's rest -/
def usT (us : Nat) : List UInt8 := if us = 0 then [] else 46 :: padB us 6

set_option maxRecDepth 100000 in
set_option maxHeartbeats 4000000 in
theorem mic_code (x : Nat) (hx : x < 1000000) : ∃ code, Tryd.f46.body = some code ∧
    Tells (Rets fun fr H => getF fr 2 = .str (usT x)) X (evT X) 46 0 code [(0, .int .i64 (x : Nat))] [] := by
  refine ⟨_, rfl, ?_⟩
  by_cases h : x = 0
  · subst h
    refine Tells.of (o := ⟨.ret, [(2, .str (usT 0))], []⟩) ⟨0, ?_⟩ ⟨rfl, rfl⟩
    rw [show usT 0 = [] from rfl]
    simp (maxSteps := 2000000) -implicitDefEqProofs [-getElem?_pos, List.getElem?_cons_zero, List.getElem?_cons_succ, go_sem, eqV, plen, loadV, storeV]
  · have hD := dig_ev (H := []) (x := x) (n := 6) (by omega) (by omega)
    have hl : (padB x 6).length = 6 := by rw [padB_of (by omega) (by omega), dgs_len]
    simp only [Int.cast_ofNat_Int] at hD
    refine Tells.of (o := ⟨.ret, [(2, .str (usT x))], []⟩) ⟨0, ?_⟩ ⟨rfl, rfl⟩
    rw [show usT x = 46 :: padB x 6 by unfold usT; rw [if_neg h]]
    generalize padB x 6 = D at *
    have h1 : ((x : Int) == 0) = false := by simp; omega
    simp (maxSteps := 2000000) -implicitDefEqProofs [-getElem?_pos, List.getElem?_cons_zero, List.getElem?_cons_succ, go_sem, eqV, plen, loadV, storeV, h, h1, hD, hl, strOp]
theorem mic_ev {H : AM.Heap} {x : Nat} (hx : x < 1000000) : evT X 46 [.int .i64 (x : Nat)] H = some (.str (usT x), H) := by
  obtain ⟨code, hcode, o, ⟨he, h4⟩, hr⟩ := mic_code x hx
  exact evT_eq (Ev1.toldP (l := [.str (usT x)]) (evT_below X) Tryd.func46 hcode (args_flat (i := 0) rfl rfl (args_nil 1)) rfl (by simp [gtag]) rfl rfl rfl ⟨o, ⟨he, by show some [getF o.fr 2] = _; rw [h4]⟩, hr⟩)

end Go.Proofs.YtifgkkfchnfcaaaDoor
