/- E4 to U3: texts of this claim, one behind the other; what each shows stands at its head. -/
import Derived.Test.YtifgkkfchnfcaaaDoorAm3
import Derived.Test.YtifgkkfchnfcaaaDoorMg4
/- Plain: the texts of dates stand in the order of the dates. -/
namespace Go.Proofs.YtifgkkfchnfcaaaDoor
open Go.AM
set_option linter.unusedSimpArgs false
set_option linter.unusedVariables false

theorem dch_toNat {d : Nat} (h : d < 10) : (dch d).toNat = 48 + d := by
  unfold dch
  rw [UInt8.toNat_ofNat', Nat.mod_eq_of_lt (by omega)]

theorem bl_cons (a b : UInt8) (x y : List UInt8) : bytesLess (a :: x) (b :: y) = (decide (a < b) || (a == b && bytesLess x y)) := rfl
theorem bl_same (p x y : List UInt8) : bytesLess (p ++ x) (p ++ y) = bytesLess x y := by
  induction p with
  | nil => rfl
  | cons a p ih =>
    rw [List.cons_append, List.cons_append, bl_cons, ih]
    have : ¬ a < a := by rw [UInt8.lt_iff_toNat_lt]; omega
    simp [this]
theorem bl_head {a b : UInt8} (h : a.toNat < b.toNat) (x y : List UInt8) : bytesLess (a :: x) (b :: y) = true ∧ bytesLess (b :: y) (a :: x) = false := by
  have h1 : a < b := by rw [UInt8.lt_iff_toNat_lt]; exact h
  have h2 : ¬ b < a := by rw [UInt8.lt_iff_toNat_lt]; omega
  have h3 : (b == a) = false := by
    rw [beq_eq_false_iff_ne]
    rintro rfl
    omega
  rw [bl_cons, bl_cons]
  simp [h1, h2, h3]
theorem bl_dgs : ∀ (n a b : Nat) (x y : List UInt8), a < b → b < 10 ^ n → bytesLess (dgs a n ++ x) (dgs b n ++ y) = true ∧ bytesLess (dgs b n ++ y) (dgs a n ++ x) = false
  | 0, a, b, x, y, h, hb => by simp at hb; omega
  | n + 1, a, b, x, y, h, hb => by
    rw [dgs, dgs, List.append_assoc, List.append_assoc]
    rw [Nat.pow_succ] at hb
    by_cases hq : a / 10 < b / 10
    · exact bl_dgs n (a / 10) (b / 10) _ _ hq (by omega)
    · have he : a / 10 = b / 10 := by omega
      rw [he, bl_same, bl_same]
      exact bl_head (by rw [dch_toNat (by omega), dch_toNat (by omega)]; omega) _ _

/-- a moment's text, of fixed width -/
def oT (y mo d h mi s : Nat) : List UInt8 := dgs y 4 ++ ([45] ++ (dgs mo 2 ++ ([45] ++ (dgs d 2 ++ ([32] ++ (dgs h 2 ++ ([58] ++ (dgs mi 2 ++ ([58] ++ (dgs s 2 ++ []))))))))))

/-- what two fields and the texts say -/
def Says (a b : Nat) (r s : List UInt8) : Prop := a ≠ b → (decide ((a : Int) < (b : Int)) == bytesLess r s) = true ∧ (r == s) = false

theorem says_of {n a b : Nat} {p x y : List UInt8} (ha : a < 10 ^ n) (hb : b < 10 ^ n) : Says a b (p ++ (dgs a n ++ x)) (p ++ (dgs b n ++ y)) := by
  intro h
  have hirr : ∀ l : List UInt8, bytesLess l l = false := by
    intro l
    have := bl_same l [] []
    simpa [bytesLess] using this
  by_cases hlt : a < b
  · obtain ⟨h1, _⟩ := bl_dgs n a b x y hlt hb
    rw [bl_same, h1, show decide ((a : Int) < (b : Int)) = true from decide_eq_true (by omega)]
    refine ⟨rfl, ?_⟩
    rw [beq_eq_false_iff_ne]
    intro e
    have := bl_same p (dgs a n ++ x) (dgs b n ++ y)
    rw [h1, e, hirr] at this
    cases this
  · obtain ⟨h1, h2⟩ := bl_dgs n b a y x (by omega) ha
    rw [bl_same, h2, show decide ((a : Int) < (b : Int)) = false from decide_eq_false (by omega)]
    refine ⟨rfl, ?_⟩
    rw [beq_eq_false_iff_ne]
    intro e
    have := bl_same p (dgs b n ++ y) (dgs a n ++ x)
    rw [h1, ← e, hirr] at this
    cases this

section
variable {y mo d h mi s y2 mo2 d2 h2 mi2 s2 : Nat}

theorem o_y (a : y < 10000) (b : y2 < 10000) : Says y y2 (oT y mo d h mi s) (oT y2 mo2 d2 h2 mi2 s2) := says_of (p := []) (n := 4) a b
theorem o_mo (a : mo < 100) (b : mo2 < 100) : Says mo mo2 (oT y mo d h mi s) (oT y mo2 d2 h2 mi2 s2) := by
  have := says_of (p := dgs y 4 ++ [45]) (n := 2) (x := [45] ++ (dgs d 2 ++ ([32] ++ (dgs h 2 ++ ([58] ++ (dgs mi 2 ++ ([58] ++ (dgs s 2 ++ [])))))))) (y := [45] ++ (dgs d2 2 ++ ([32] ++ (dgs h2 2 ++ ([58] ++ (dgs mi2 2 ++ ([58] ++ (dgs s2 2 ++ [])))))))) a b
  simpa only [oT, List.append_assoc] using this
theorem o_d (a : d < 100) (b : d2 < 100) : Says d d2 (oT y mo d h mi s) (oT y mo d2 h2 mi2 s2) := by
  have := says_of (p := dgs y 4 ++ ([45] ++ (dgs mo 2 ++ [45]))) (n := 2) (x := [32] ++ (dgs h 2 ++ ([58] ++ (dgs mi 2 ++ ([58] ++ (dgs s 2 ++ [])))))) (y := [32] ++ (dgs h2 2 ++ ([58] ++ (dgs mi2 2 ++ ([58] ++ (dgs s2 2 ++ [])))))) a b
  simpa only [oT, List.append_assoc] using this
theorem o_h (a : h < 100) (b : h2 < 100) : Says h h2 (oT y mo d h mi s) (oT y mo d h2 mi2 s2) := by
  have := says_of (p := dgs y 4 ++ ([45] ++ (dgs mo 2 ++ ([45] ++ (dgs d 2 ++ [32]))))) (n := 2) (x := [58] ++ (dgs mi 2 ++ ([58] ++ (dgs s 2 ++ [])))) (y := [58] ++ (dgs mi2 2 ++ ([58] ++ (dgs s2 2 ++ [])))) a b
  simpa only [oT, List.append_assoc] using this
theorem o_mi (a : mi < 100) (b : mi2 < 100) : Says mi mi2 (oT y mo d h mi s) (oT y mo d h mi2 s2) := by
  have := says_of (p := dgs y 4 ++ ([45] ++ (dgs mo 2 ++ ([45] ++ (dgs d 2 ++ ([32] ++ (dgs h 2 ++ [58]))))))) (n := 2) (x := [58] ++ (dgs s 2 ++ [])) (y := [58] ++ (dgs s2 2 ++ [])) a b
  simpa only [oT, List.append_assoc] using this
theorem o_s (a : s < 100) (b : s2 < 100) : Says s s2 (oT y mo d h mi s) (oT y mo d h mi s2) := by
  have := says_of (p := dgs y 4 ++ ([45] ++ (dgs mo 2 ++ ([45] ++ (dgs d 2 ++ ([32] ++ (dgs h 2 ++ ([58] ++ (dgs mi 2 ++ [58]))))))))) (n := 2) (x := []) (y := []) a b
  simpa only [oT, List.append_assoc] using this

end

/-- a moment's numbers -/
def numsW (w : Wh) : List Int := [w.y, w.mo, w.d, w.h, w.mi, w.s]

theorem wt_oT {v : Wh} (hv : fin v 12 = true) (hu : v.us = 0) : ∃ y mo d h mi s : Nat, v.y = y ∧ v.mo = mo ∧ v.d = d ∧ v.h = h ∧ v.mi = mi ∧ v.s = s ∧ y < 10000 ∧ mo < 100 ∧ d < 100 ∧ h < 100 ∧ mi < 100 ∧ s < 100 ∧ wtB v 12 = oT y mo d h mi s := by
  have hb := hv
  unfold fin clk btw at hb
  simp only [Bool.and_eq_true, decide_eq_true_eq] at hb
  obtain ⟨⟨h1, h2, h3, h4⟩, h5⟩ := hb
  rw [if_neg (by decide)] at h5
  simp only [Bool.and_eq_true, decide_eq_true_eq] at h5
  obtain ⟨_, h6, h7, h8, _⟩ := h5
  refine ⟨v.y.toNat, v.mo.toNat, v.d.toNat, v.h.toNat, v.mi.toNat, v.s.toNat, by omega, by omega, by omega, by omega, by omega, by omega, by omega, by omega, by omega, by omega, by omega, by omega, ?_⟩
  unfold wtB dyT ckT oT
  rw [if_neg (by decide), if_neg (by decide), hu, padB_of (n := 4) (by omega) (by omega), padB_of (u := v.mo.toNat) (n := 2) (by omega) (by omega), padB_of (u := v.d.toNat) (n := 2) (by omega) (by omega), padB_of (u := v.h.toNat) (n := 2) (by omega) (by omega), padB_of (u := v.mi.toNat) (n := 2) (by omega) (by omega), padB_of (u := v.s.toNat) (n := 2) (by omega) (by omega)]
  simp [usT]

/-- the first numbers that differ say what the texts say -/
theorem order_says {v w : Wh} (hv : fin v 12 = true) (hw : fin w 12 = true) (hu : v.us = 0) (hu2 : w.us = 0) {i : Nat} {a b : Int} (ha : (numsW v)[i]? = some a) (hb : (numsW w)[i]? = some b) (hp : ∀ j, j < i → (numsW v)[j]? = (numsW w)[j]?) (hab : a ≠ b) :
    (decide (a < b) == bytesLess (wtB v 12) (wtB w 12)) = true ∧ (wtB v 12 == wtB w 12) = false := by
  obtain ⟨y, mo, d, h, mi, s, e1, e2, e3, e4, e5, e6, l1, l2, l3, l4, l5, l6, hT⟩ := wt_oT hv hu
  obtain ⟨y2, mo2, d2, h2, mi2, s2, f1, f2, f3, f4, f5, f6, m1, m2, m3, m4, m5, m6, hT2⟩ := wt_oT hw hu2
  rw [hT, hT2]
  unfold numsW at ha hb hp
  rw [e1, e2, e3, e4, e5, e6] at ha hp
  rw [f1, f2, f3, f4, f5, f6] at hb hp
  have q0 : 0 < i → y = y2 := fun h => by have := hp 0 h; simp at this; omega
  have q1 : 1 < i → mo = mo2 := fun h => by have := hp 1 h; simp at this; omega
  have q2 : 2 < i → d = d2 := fun h => by have := hp 2 h; simp at this; omega
  have q3 : 3 < i → h = h2 := fun h => by have := hp 3 h; simp at this; omega
  have q4 : 4 < i → mi = mi2 := fun h => by have := hp 4 h; simp at this; omega
  match i, ha, hb with
  | 0, ha, hb => obtain rfl := Option.some.inj ha; obtain rfl := Option.some.inj hb; exact o_y l1 m1 (by omega)
  | 1, ha, hb =>
    obtain rfl := Option.some.inj ha; obtain rfl := Option.some.inj hb
    obtain rfl := q0 (by omega)
    exact o_mo l2 m2 (by omega)
  | 2, ha, hb =>
    obtain rfl := Option.some.inj ha; obtain rfl := Option.some.inj hb
    obtain rfl := q0 (by omega)
    obtain rfl := q1 (by omega)
    exact o_d l3 m3 (by omega)
  | 3, ha, hb =>
    obtain rfl := Option.some.inj ha; obtain rfl := Option.some.inj hb
    obtain rfl := q0 (by omega)
    obtain rfl := q1 (by omega)
    obtain rfl := q2 (by omega)
    exact o_h l4 m4 (by omega)
  | 4, ha, hb =>
    obtain rfl := Option.some.inj ha; obtain rfl := Option.some.inj hb
    obtain rfl := q0 (by omega)
    obtain rfl := q1 (by omega)
    obtain rfl := q2 (by omega)
    obtain rfl := q3 (by omega)
    exact o_mi l5 m5 (by omega)
  | 5, ha, hb =>
    obtain rfl := Option.some.inj ha; obtain rfl := Option.some.inj hb
    obtain rfl := q0 (by omega)
    obtain rfl := q1 (by omega)
    obtain rfl := q2 (by omega)
    obtain rfl := q3 (by omega)
    obtain rfl := q4 (by omega)
    exact o_s l6 m6 (by omega)
  | i + 6, ha, hb => simp at ha

theorem order_same {v w : Wh} (hv : fin v 12 = true) (hw : fin w 12 = true) (hu : v.us = 0) (hu2 : w.us = 0) (h : numsW v = numsW w) : wtB v 12 = wtB w 12 := by
  unfold numsW at h
  simp only [List.cons.injEq, and_true] at h
  obtain ⟨h1, h2, h3, h4, h5, h6⟩ := h
  unfold wtB dyT ckT
  rw [h1, h2, h3, h4, h5, h6, hu, hu2, if_neg (by decide), if_neg (by decide)]
  rfl

end Go.Proofs.YtifgkkfchnfcaaaDoor

/- Walks: the document's reader of fields. -/
namespace Go.Proofs.YtifgkkfchnfcaaaDoor
open Go.AM
set_option linter.unusedSimpArgs false
set_option linter.unusedVariables false

/-- the fields' box -/
def bxO (p : AV) (c t tg : Nat) (e : Int) : AM.Obj := ⟨.pc [.ro c p t, .int .i64 e], 0, some 2, 1, false, true, tg⟩
/-- the error, when what was read is wrong -/
def wr (bad : Bool) (e : Int) : Int := if e = 0 ∧ bad = true then 5 else e
/-- bytes off what is left -/
def bts (n : Nat) (s : St) : List UInt8 := if s.2 ≠ 0 ∨ s.1.length < n then List.replicate n 0 else s.1.take n

theorem bts_len (n : Nat) (s : St) : (bts n s).length = n := by
  unfold bts
  split
  · simp
  · rename_i h
    simp; omega

theorem leV_zeros (n : Nat) : leV (List.replicate n 0) = 0 := by
  induction n with
  | zero => rfl
  | succ n ih => rw [List.replicate_succ, leV, ih]; rfl

theorem bts_fx (n : Nat) (s : St) : leV (bts n s) = (fx n s).1 := by
  unfold bts fx
  by_cases h1 : s.2 ≠ 0
  · rw [if_pos (.inl h1), if_pos h1, leV_zeros]
  · rw [if_neg h1]
    by_cases h2 : s.1.length < n
    · rw [if_pos (.inr h2), if_pos h2, leV_zeros]
    · rw [if_neg (by simp only [ne_eq, Decidable.not_not] at h1; omega), if_neg h2]

theorem mkB {n : Nat} (hn : n ≤ 1000000) (H : AM.Heap) : makeSliceV X H 22 (.int .i64 (n : Nat)) (.int .i64 (n : Nat)) = some (.sl H.length 0 n 0, H ++ [some ⟨.pb (List.replicate n 0), 0, some n, 1, true, false, 0⟩]) := by
  have hz : ∀ n, zeroRow X 5 n = some (.pb (List.replicate n 0)) := fun n => by simp [zeroRow, cellsAV, scalars, scalar, idsL, ids, tagsL, tags]
  have h0 : (0 : Int) ≤ n := by omega
  have h1 : (n : Int) ≤ 9223372036854775807 := by omega
  have h2 : (n : Int) ≤ 140737488355328 := by omega
  simp [makeSliceV, hz, h0, h1, h2, rowOf]

theorem slTo {c t n : Nat} {b : List UInt8} (hc : c = 0 → b = []) (hn : n ≤ b.length) (H : AM.Heap) : sliceV X H 22 (.ro c (.pb b) t) none (some (.int .i64 (n : Nat))) = some (.ro (if c = 0 then 0 else 2) (.pb (b.take n)) t) := by
  have hnl : (n : Int) ≤ (b.length : Int) := by omega
  simp [sliceV, bound, plen, pesz, psub, hnl, hn]

theorem slFrom {c t n : Nat} {b : List UInt8} (hc : c = 0 → b = []) (hn : n ≤ b.length) (H : AM.Heap) : sliceV X H 22 (.ro c (.pb b) t) (some (.int .i64 (n : Nat))) none = some (.ro c (.pb (b.drop n)) t) := by
  have hcc : (if c = 0 then 0 else c) = c := by split <;> omega
  have hnl : (n : Int) ≤ (b.length : Int) := by omega
  have hle : n + (b.length - n) ≤ b.length := by omega
  have ht : List.take (b.length - n) (b.drop n) = b.drop n := by rw [List.take_of_length_le (by simp)]
  simp [sliceV, bound, plen, pesz, psub, hnl, hcc, hle, ht]

section
variable (c t tg : Nat) (p : AV) (e : Int) (s : St) (n : Nat) (bad : Bool)

end

theorem jt (c t : Nat) (s : St) : joinTags (tagsOb (rdO c t t s)) = some t := by
  simp [tagsOb, rdO, tags, tagsL, joinTags, joinTag]; omega

section
variable (c t : Nat) (p : AV) (e : Int) (s : St) (n : Nat)

/-- all that is left -/
def rsF (s : St) : List UInt8 := if s.2 ≠ 0 then [] else s.1
def rsO (c t : Nat) (s : St) : AM.Obj := if s.2 ≠ 0 then rdO c t t s else rdN t 0

end

end Go.Proofs.YtifgkkfchnfcaaaDoor

/- Structures: a parameter; places in a heap. -/
namespace Go.Proofs.YtifgkkfchnfcaaaDoor
open Go.AM
set_option linter.unusedSimpArgs false
set_option linter.unusedVariables false

structure Pm where
  t : Ty
  lg : Bool
  v : Va

def Pm.pay (p : Pm) : AV := .pc [.int .u8 (p.t.t : Nat), .bool p.t.u, .bool p.lg, .int .i64 p.v.k, .int .i64 p.v.i, .int .u64 (p.v.b : Nat), .str p.v.t, .bool p.v.w.neg, .int .i64 p.v.w.y, .int .i64 p.v.w.mo, .int .i64 p.v.w.d, .int .i64 p.v.w.h, .int .i64 p.v.w.mi, .int .i64 p.v.w.s, .int .i64 p.v.w.us]
def pmO (p : Pm) : AM.Obj := ⟨p.pay, 0, some 15, 1, false, true, 0⟩
def pmL (l : List Pm) : AV := .pr 15 (l.map Pm.pay)
/-- a parameter that may be -/
def Pm.ok (p : Pm) : Prop := p.t.t < 256 ∧ p.v.b < 18446744073709551616 ∧ -9223372036854775808 ≤ p.v.i ∧ p.v.i < 9223372036854775808
/-- a parameter that Append refuses -/
def Pm.bad (p : Pm) : Bool := decide (chkV p.v p.t ≠ 0) || (p.lg && decide (p.v.k ≠ 0))

theorem at_cat {α : Type} {H r : List α} {j : Nat} {y : α} (h : H[j]? = some y) : (H ++ r)[j]? = some y := by
  rw [List.getElem?_append_left]
  · exact h
  · exact (List.getElem?_eq_some_iff.1 h).1
theorem at_lt {α : Type} {H : List α} {j : Nat} {y : α} (h : H[j]? = some y) : j < H.length := (List.getElem?_eq_some_iff.1 h).1
theorem at_set {α : Type} {H : List α} {j : Nat} {y x : α} (h : H[j]? = some y) : (H.set j x)[j]? = some x := by
  rw [List.getElem?_set_self (at_lt h)]
theorem at_ne {α : Type} {H : List α} {j k : Nat} {y x : α} (h : H[j]? = some y) (hne : k ≠ j) : (H.set k x)[j]? = some y := by
  rw [List.getElem?_set_ne hne]; exact h
theorem take_cat {α β : Type} {l : List α} {i : Nat} {p : α} (f : α → List β) (h : l[i]? = some p) : (l.take (i + 1)).flatMap f = (l.take i).flatMap f ++ f p := by
  rw [List.take_add_one, h]; simp

end Go.Proofs.YtifgkkfchnfcaaaDoor

/- Walks: the closure that reads a number out of a moment's bytes. -/
namespace Go.Proofs.YtifgkkfchnfcaaaDoor
open Go.AM
set_option linter.unusedSimpArgs false
set_option linter.unusedVariables false

/-- so many bytes from a place, as a number -/
def nb (c : List UInt8) (i k : Nat) : Nat := leV ((c.drop i).take k)

theorem nb_lt (c : List UInt8) (i k : Nat) : nb c i k < 256 ^ k := by
  unfold nb
  have h := leV_lt ((c.drop i).take k)
  have : ((c.drop i).take k).length ≤ k := by simp; omega
  exact Nat.lt_of_lt_of_le h (Nat.pow_le_pow_right (by omega) this)

section
variable (c : List UInt8) (i k : Nat) (b1 b2 : AM.Obj)

set_option maxRecDepth 100000 in
theorem number_code (hc : c.length = 13) (hi : i + k ≤ 13) (hk : 1 ≤ k) (hk4 : k ≤ 4) (hp1 : b1.p = .pc [.sl 1 0 13 0]) (hi1 : b1.ids = true) (hg1 : b1.g = 0) (hp2 : b2.p = .pb c) (hi2 : b2.ids = false) (hg2 : b2.g = 0) : ∃ code, Tryd.f52.body = some code ∧
    Run X (evT X) 52 2 code [(0, .int .i64 (i : Nat)), (1, .int .i64 (k : Nat)), (2, .ptr 0 0 0 0)] [some b1, some b2] ⟨.ret, [(5, .int .i64 (nb c i k : Nat))], [some b1, some b2]⟩ := by
  refine ⟨_, rfl, ?_⟩
  have hB : Byt [some b1, some b2] (.sl 1 i (13 - i) 0) (c.drop i) := Byt.part (H := [some b1, some b2]) (o := 1) rfl hg2 hp2 hi2 (by rw [List.take_of_length_le (by simp; omega)]) (by omega)
  have hR := rf_ev (n := k) hB (by simp; omega)
  have hlt := nb_lt c i k
  have h4 : 256 ^ k ≤ 256 ^ 4 := Nat.pow_le_pow_right (by omega) hk4
  have hrf : rfR (c.drop i) (k : Nat) = (((nb c i k : Nat) : Int), 0) := by
    unfold rfR
    rw [if_neg (by omega), if_neg (by simp; omega)]
    rfl
  rw [hrf] at hR
  have w1 : IntKind.i64.wrap ((nb c i k : Nat) : Int) = ((nb c i k : Nat) : Int) := wrap_i64 (by omega) (by omega)
  have hsl : sliceV X [some b1, some b2] 22 (.sl 1 0 13 0) (some (.int .i64 (i : Nat))) none = some (.sl 1 i (13 - i) 0) := by
    have hiI : (i : Int) ≤ 13 := by omega
    simp [sliceV, bound, live, hg2, hp2, pesz, hiI]
  generalize nb c i k = z at *
  generalize 13 - i = n at *
  refine ⟨0, ?_⟩
  simp (maxSteps := 2000000) -implicitDefEqProofs [-getElem?_pos, List.getElem?_cons_zero, List.getElem?_cons_succ, go_sem, eqV, plen, loadV, storeV, hp1, hi1, hg1, hsl, hR, w1]

end

theorem number_ev {H : AM.Heap} {o1 o2 i k g2 : Nat} {I K : Int} {b1 b2 : AM.Obj} {c : List UInt8} (hI : I = (i : Nat)) (hK : K = (k : Nat)) (hc : c.length = 13) (hi : i + k ≤ 13) (hk : 1 ≤ k) (hk4 : k ≤ 4)
    (h1 : H[o1]? = some (some b1)) (hp1 : b1.p = .pc [.sl o2 0 13 g2]) (hi1 : b1.ids = true) (hg1 : b1.g = 0) (ht1 : b1.tg = 0) (h2 : H[o2]? = some (some b2)) (hp2 : b2.p = .pb c) (hi2 : b2.ids = false) (hg2 : b2.g = g2) (ht2 : b2.tg = 0) (hne : o1 ≠ o2) :
    evT X 52 [.int .i64 I, .int .i64 K, .ptr o1 0 0 0] H = some (.int .i64 (nb c i k : Nat), H) := by
  subst hI hK
  obtain ⟨code, hcode, hr⟩ := number_code c i k { b1 with p := .pc [.sl 1 0 13 0], g := 0, tg := 4 } { b2 with g := 0, tg := 4 } hc hi hk hk4 rfl hi1 rfl hp2 hi2 rfl
  exact evT_eq (Ev1.fn2 (C := X) (f := 52) (H := H) (xs := [.int .i64 (i : Nat), .int .i64 (k : Nat)]) (n := 4) (l := [.int .i64 (nb c i k : Nat)]) (rest := []) (evT_below X) Tryd.func52 hcode (fun i => by rfl) h1 hg1 (by rw [hg2]; exact hp1) hi1 ht1 h2 hi2 ht2 hp2 hne rfl rfl (by simp [gtag])
    (by rw [par52]; simpa [coerce, numbered] using hr) (.inr rfl) rfl rfl rfl rfl)

end Go.Proofs.YtifgkkfchnfcaaaDoor

/- Walks: a moment, or a span, read. -/
namespace Go.Proofs.YtifgkkfchnfcaaaDoor
open Go.AM
set_option linter.unusedSimpArgs false
set_option linter.unusedVariables false

/-- the lengths that a moment, a span may have -/
def szL (t : Nat) : List Int := if t = 11 then [0, 8, 12] else [0, 4, 7, 11]
def knW (n t : Nat) : Bool := (szL t).any fun x => (n : Int) == x
/-- the bytes behind the length, with nothing behind them -/
def cW (b : List UInt8) : List UInt8 := let n := (b.headD 0).toNat; ((b.drop 1).take n) ++ List.replicate (13 - n) 0
def spW (c : List UInt8) : Wh := { neg := (c.headD 0).toNat == 1, y := 0, mo := 0, d := (nb c 1 4 : Nat), h := (nb c 5 1 : Nat), mi := (nb c 6 1 : Nat), s := (nb c 7 1 : Nat), us := (nb c 8 4 : Nat) }
def moW (c : List UInt8) : Wh := { neg := false, y := (nb c 0 2 : Nat), mo := (nb c 2 1 : Nat), d := (nb c 3 1 : Nat), h := (nb c 4 1 : Nat), mi := (nb c 5 1 : Nat), s := (nb c 6 1 : Nat), us := (nb c 7 4 : Nat) }
/-- what readWhen tells -/
def rdW (b : List UInt8) (t : Nat) : Wh × Nat × Int :=
  if b.length = 0 then ({}, 0, 4) else if knW (b.headD 0).toNat t = false then ({}, 0, 5) else if b.length < 1 + (b.headD 0).toNat then ({}, 0, 4) else
  if t = 11 then (if 1 < ((cW b).headD 0).toNat then ({}, 0, 5) else if fin (spW (cW b)) t = false then ({}, 0, 5) else (spW (cW b), 1 + (b.headD 0).toNat, 0))
  else if fin (moW (cW b)) t = false then ({}, 0, 5) else (moW (cW b), 1 + (b.headD 0).toNat, 0)

theorem bdSp (a : Bool) (x3 x4 x5 x6 x7 : Int) : buildV X 25 [(0, .bool a), (3, .int .i64 x3), (4, .int .i64 x4), (5, .int .i64 x5), (6, .int .i64 x6), (7, .int .i64 x7)] = some (.agg (.pc [.bool a, .int .i64 0, .int .i64 0, .int .i64 x3, .int .i64 x4, .int .i64 x5, .int .i64 x6, .int .i64 x7])) := by kernel_rfl
theorem bdMo (x1 x2 x3 x4 x5 x6 x7 : Int) : buildV X 25 [(1, .int .i64 x1), (2, .int .i64 x2), (3, .int .i64 x3), (4, .int .i64 x4), (5, .int .i64 x5), (6, .int .i64 x6), (7, .int .i64 x7)] = some (.agg (.pc [.bool false, .int .i64 x1, .int .i64 x2, .int .i64 x3, .int .i64 x4, .int .i64 x5, .int .i64 x6, .int .i64 x7])) := by kernel_rfl

/-- a variable that holds a slice -/
def svO (o n g : Nat) : AM.Obj := ⟨.pc [.sl o 0 n g], 0, some 1, 1, false, true, 0⟩

section
variable (c : Nat) (b : List UInt8) (t : Nat)

def rwFr (n : Nat) (L : List Int) (kd : Bool) (i : Nat) : AM.Frame := [(0, .ro c (.pb b) 1), (1, .int .u8 (t : Nat)), (4, .ptr 0 0 0 0), (7, .ptr 1 0 0 0), (8, .int .i64 (n : Nat)), (10, .bool kd), (27, .ro 1 (.pi .i64 L) 0), (28, .int .i64 (L.length : Nat)), (29, .int .i64 (i : Nat))]

set_option maxRecDepth 100000 in
set_option maxHeartbeats 4000000 in
theorem rw_loop (n : Nat) (L : List Int) (hL : L.length ≤ 100) : ∃ code, ((Tryd.f36.body).bind (codeAt [1, 1, 1, 1, 1, 1, 1, 0, 1])) = some code ∧
    Tells (Goes fun fr H => H = [some (whO {}), some (whO {})] ∧ fr = rwFr c b t n L (L.any fun x => (n : Int) == x) L.length ++ [(30, .bool false)]) X (evT X) 36 0 code (rwFr c b t n L false 0) [some (whO {}), some (whO {})] := by
  refine ⟨_, rfl, ?_⟩
  apply Tells.block
  refine Tells.loopP (fun k fr H => ∃ i, k = L.length - i ∧ i ≤ L.length ∧ H = [some (whO {}), some (whO {})] ∧ fr = rwFr c b t n L ((L.take i).any fun x => (n : Int) == x) i) ?_ (k := L.length) ⟨0, rfl, by omega, rfl, rfl⟩
  rintro k fr H ⟨i, rfl, hi, rfl, rfl⟩
  by_cases hin : i = L.length
  · subst hin
    rw [List.take_length]
    refine Tells.of (o := ⟨.exit 0, rwFr c b t n L (L.any fun x => (n : Int) == x) L.length ++ [(30, .bool false)], _⟩) ⟨0, ?_⟩ (.inr ⟨by simp, rfl, rfl, rfl⟩)
    generalize (L.any fun x => (n : Int) == x) = a at *
    simp (maxSteps := 2000000) -implicitDefEqProofs [-getElem?_pos, List.getElem?_cons_zero, List.getElem?_cons_succ, go_sem, eqV, plen, loadV, storeV, rwFr]
  have hlt : i < L.length := by omega
  have hiI : (i : Int) < (L.length : Int) := by omega
  obtain ⟨x, hx⟩ : ∃ x, L[i]? = some x := ⟨_, List.getElem?_eq_getElem hlt⟩
  have hsn : ((L.take (i + 1)).any fun x => (n : Int) == x) = (((L.take i).any fun x => (n : Int) == x) || ((n : Int) == x)) := by
    rw [List.take_add_one, hx]; simp
  have w1 : IntKind.i64.wrap ((i : Int) + 1) = ((i + 1 : Nat) : Int) := by rw [wrap_i64 (by omega) (by omega)]; omega
  refine Tells.of (o := ⟨.normal, rwFr c b t n L ((L.take (i + 1)).any fun x => (n : Int) == x) (i + 1), _⟩) ⟨0, ?_⟩ (.inl ⟨rfl, L.length - (i + 1), by omega, i + 1, rfl, by omega, rfl, rfl⟩)
  rw [hsn]
  generalize ((L.take i).any fun x => (n : Int) == x) = a at *
  cases a with
  | true => simp (maxSteps := 2000000) -implicitDefEqProofs [-getElem?_pos, List.getElem?_cons_zero, List.getElem?_cons_succ, go_sem, eqV, plen, loadV, storeV, rwFr, hiI, hlt, hx, w1]
  | false =>
    generalize hnx : ((n : Int) == x) = e at *
    simp (maxSteps := 2000000) -implicitDefEqProofs [-getElem?_pos, List.getElem?_cons_zero, List.getElem?_cons_succ, go_sem, eqV, plen, loadV, storeV, rwFr, hiI, hlt, hx, w1, hnx]

end

theorem slMid1 {c t n : Nat} {b : List UInt8} (hc : c = 0 → b = []) (hn : 1 + n ≤ b.length) (H : AM.Heap) : sliceV X H 22 (.ro c (.pb b) t) (some (.int .i64 1)) (some (.int .i64 ((1 + n : Nat) : Int))) = some (.ro (if c = 0 then 0 else 2) (.pb ((b.drop 1).take n)) t) :=
  slMid (m := 1) hn H

theorem cpN {H : AM.Heap} {ob : AM.Obj} {m l : List UInt8} {c t : Nat} (h2 : H[2]? = some (some ob)) (hg : ob.g = 0) (hp : ob.p = .pb m) (hi : ob.ids = false) (hm : m.length = 13) (hl : l.length ≤ 13) :
    copyV X H 22 (.sl 2 0 13 0) (.ro c (.pb l) t) = some (.int .i64 l.length, upd H 2 (some { ob with p := .pb (l ++ m.drop l.length) })) := by
  have hok : okT X 5 = true := by kernel_rfl
  simp [copyV, live, h2, hg, hp, hi, hm, hl, hok]

end Go.Proofs.YtifgkkfchnfcaaaDoor

/- Walks: a moment, or a span, read: whole. -/
namespace Go.Proofs.YtifgkkfchnfcaaaDoor
open Go.AM
set_option linter.unusedSimpArgs false
set_option linter.unusedVariables false

theorem cW_len {b : List UInt8} (h : (b.headD 0).toNat ≤ 12) (hb : 1 + (b.headD 0).toNat ≤ b.length) : (cW b).length = 13 := by
  unfold cW
  simp only [List.length_append, List.length_take, List.length_drop, List.length_replicate]
  omega

theorem knW_le {n t : Nat} (h : knW n t = true) : n ≤ 12 := by
  unfold knW szL at h
  split at h
  · simp at h; omega
  · simp at h; omega

set_option maxRecDepth 100000 in
set_option maxHeartbeats 4000000 in
theorem rw_dy (n : Nat) (y : UInt8) (ys : List UInt8) (ng : Bool) (z1 z5 z6 z7 z8 : Int) (hye : ((y.toNat : Int) == 1) = ng)
    (n1 : ∀ H0 H1 : Option AM.Obj, evT X 52 [.int .i64 1, .int .i64 4, .ptr 3 0 0 0] [H0, H1, some ⟨.pb (y :: ys), 0, some 13, 1, true, false, 0⟩, some (svO 2 13 0)] = some (.int .i64 z1, [H0, H1, some ⟨.pb (y :: ys), 0, some 13, 1, true, false, 0⟩, some (svO 2 13 0)]))
    (n5 : ∀ H0 H1 : Option AM.Obj, evT X 52 [.int .i64 5, .int .i64 1, .ptr 3 0 0 0] [H0, H1, some ⟨.pb (y :: ys), 0, some 13, 1, true, false, 0⟩, some (svO 2 13 0)] = some (.int .i64 z5, [H0, H1, some ⟨.pb (y :: ys), 0, some 13, 1, true, false, 0⟩, some (svO 2 13 0)]))
    (n6 : ∀ H0 H1 : Option AM.Obj, evT X 52 [.int .i64 6, .int .i64 1, .ptr 3 0 0 0] [H0, H1, some ⟨.pb (y :: ys), 0, some 13, 1, true, false, 0⟩, some (svO 2 13 0)] = some (.int .i64 z6, [H0, H1, some ⟨.pb (y :: ys), 0, some 13, 1, true, false, 0⟩, some (svO 2 13 0)]))
    (n7 : ∀ H0 H1 : Option AM.Obj, evT X 52 [.int .i64 7, .int .i64 1, .ptr 3 0 0 0] [H0, H1, some ⟨.pb (y :: ys), 0, some 13, 1, true, false, 0⟩, some (svO 2 13 0)] = some (.int .i64 z7, [H0, H1, some ⟨.pb (y :: ys), 0, some 13, 1, true, false, 0⟩, some (svO 2 13 0)]))
    (n8 : ∀ H0 H1 : Option AM.Obj, evT X 52 [.int .i64 8, .int .i64 4, .ptr 3 0 0 0] [H0, H1, some ⟨.pb (y :: ys), 0, some 13, 1, true, false, 0⟩, some (svO 2 13 0)] = some (.int .i64 z8, [H0, H1, some ⟨.pb (y :: ys), 0, some 13, 1, true, false, 0⟩, some (svO 2 13 0)])) :
    ∃ code, ((Tryd.f36.body).bind (codeAt [1, 1, 1, 1, 1, 1, 1, 1, 1, 1, 1, 1, 1, 0, 1, 0, 1])) = some code ∧ Run X (evT X) 36 0 code [(1, .int .u8 11), (4, .ptr 0 0 0 0), (7, .ptr 1 0 0 0), (8, .int .i64 (n : Nat)), (13, .ptr 3 0 0 0), (14, .fn 52 [.ptr 3 0 0 0]), (62, .bool false)] [some (whO {}), some (whO {}), some ⟨.pb (y :: ys), 0, some 13, 1, true, false, 0⟩, some (svO 2 13 0)]
      ⟨.normal, [(1, .int .u8 11), (4, .ptr 0 0 0 0), (7, .ptr 1 0 0 0), (8, .int .i64 (n : Nat))], [some (whO {}), some (whO { neg := ng, d := z1, h := z5, mi := z6, s := z7, us := z8 }), some ⟨.pb (y :: ys), 0, some 13, 1, true, false, 0⟩, some (svO 2 13 0)]⟩ := by
  refine ⟨_, rfl, ?_⟩
  have hbd := fun a x3 x4 x5 x6 x7 => bdSp a x3 x4 x5 x6 x7
  have hre : ∀ H0 H1 : Option AM.Obj, reach [H0, H1, some ⟨.pb (y :: ys), 0, some 13, 1, true, false, 0⟩, some (svO 2 13 0)] reachFuel [3] [] = [3, 2] := fun H0 H1 => reach_fn2 (o1 := 3) (o2 := 2) rfl rfl rfl rfl rfl (by decide)
  simp only [svO] at hre n1 n5 n6 n7 n8
  apply Run.dy (by simp) keep36_24 (by simp)
  · (conv => lhs; simp (maxSteps := 2000000) -implicitDefEqProofs [-getElem?_pos, List.getElem?_cons_zero, List.getElem?_cons_succ, go_sem, eqV, plen, loadV, storeV, runD, out1, markOf, freeO, quietO, pushes, isAssign, calledV, touched, mentioned, opVals, touchCall, mentionCall, idsAt, Op.operands, ids, idsL, lendArgs, lendV, lend1, lendL, eqH_self, svO, whO, Wh.pay, hye, n1, n5, n6, n7, n8, hbd, hre, flatCells, splice, scalars, upd])
    rfl
  · kernel_rfl
  · rfl

section
variable (c : Nat) (b : List UInt8) (t : Nat)

set_option maxRecDepth 100000 in
set_option maxHeartbeats 4000000 in
theorem rw_end (hc : c = 0 → b = []) (ht : t < 256) (hb0 : b.length ≠ 0) (hk : knW (b.headD 0).toNat t = true) (hb : ¬ b.length < 1 + (b.headD 0).toNat) (hbm : b.length ≤ 90000000) :
    ∃ code, ((Tryd.f36.body).bind (codeAt [1, 1, 1, 1, 1, 1, 1, 1, 1, 1])) = some code ∧
    Tells (Rets fun fr H => getF fr 4 = .ptr 0 0 0 0 ∧ H[0]? = some (some (whO (rdW b t).1)) ∧ getF fr 5 = .int .i64 ((rdW b t).2.1 : Nat) ∧ getF fr 6 = .int .i64 (rdW b t).2.2) X (evT X) 36 0 code
      [(0, .ro c (.pb b) 1), (1, .int .u8 (t : Nat)), (4, .ptr 0 0 0 0), (7, .ptr 1 0 0 0), (8, .int .i64 ((b.headD 0).toNat : Nat)), (47, .bool false)] [some (whO {}), some (whO {})] := by
  refine ⟨_, rfl, ?_⟩
  have hr : rdW b t = if t = 11 then (if 1 < ((cW b).headD 0).toNat then ({}, 0, 5) else if fin (spW (cW b)) t = false then ({}, 0, 5) else (spW (cW b), 1 + (b.headD 0).toNat, 0))
      else if fin (moW (cW b)) t = false then ({}, 0, 5) else (moW (cW b), 1 + (b.headD 0).toNat, 0) := by
    unfold rdW
    rw [if_neg hb0, if_neg (by rw [hk]; simp), if_neg hb]
  generalize rdW b t = R at *
  have hn12 := knW_le hk
  have hcl := cW_len hn12 (by omega)
  have hcw : cW b = ((b.drop 1).take (b.headD 0).toNat) ++ List.replicate (13 - (b.headD 0).toNat) 0 := rfl
  have hM : makeSliceV X [some (whO {}), some (whO {})] 22 (.int .i64 13) (.int .i64 13) = some (.sl 2 0 13 0, [some (whO {}), some (whO {})] ++ [some ⟨.pb (List.replicate 13 0), 0, some 13, 1, true, false, 0⟩]) := mkB (n := 13) (by omega) _
  have hzl : (List.replicate 13 (0 : UInt8)).length = 13 := List.length_replicate
  have hzd : ∀ k, (List.replicate 13 (0 : UInt8)).drop k = List.replicate (13 - k) 0 := fun k => List.drop_replicate
  generalize List.replicate 13 (0 : UInt8) = zr at *
  have hsl := fun H => slMid1 (t := 1) hc (n := (b.headD 0).toNat) (by omega) H
  have htl : ((b.drop 1).take (b.headD 0).toNat).length = (b.headD 0).toNat := by rw [List.length_take, List.length_drop]; omega
  generalize (b.drop 1).take (b.headD 0).toNat = l at *
  generalize hn : (b.headD 0).toNat = n at *
  generalize hcb : cW b = cb at *
  apply Tells.seq (fr' := [(0, .ro c (.pb b) 1), (1, .int .u8 (t : Nat)), (4, .ptr 0 0 0 0), (7, .ptr 1 0 0 0), (8, .int .i64 (n : Nat)), (13, .ptr 3 0 0 0)]) (H' := [some (whO {}), some (whO {}), some ⟨.pb zr, 0, some 13, 1, true, false, 0⟩, some (svO 2 13 0)])
  · simp only [whO, Wh.pay, List.length_cons, List.length_nil, List.cons_append, List.nil_append] at hM
    (refine ⟨0, ?_⟩; simp (maxSteps := 2000000) -implicitDefEqProofs [-getElem?_pos, List.getElem?_cons_zero, List.getElem?_cons_succ, go_sem, eqV, plen, loadV, storeV, whO, Wh.pay, hM, svO])
  have hcp := cpN (H := [some (whO {}), some (whO {}), some ⟨.pb zr, 0, some 13, 1, true, false, 0⟩, some (svO 2 13 0)]) (ob := ⟨.pb zr, 0, some 13, 1, true, false, 0⟩) (m := zr) (l := l) (c := if c = 0 then 0 else 2) (t := 1) rfl rfl rfl rfl hzl (by omega)
  have hdr : l ++ zr.drop l.length = cb := by rw [hcw, htl, hzd]
  rw [hdr] at hcp
  have w1 : IntKind.i64.wrap (1 + (n : Int)) = ((1 + n : Nat) : Int) := by rw [wrap_i64 (by omega) (by omega)]; omega
  apply Tells.seq (fr' := [(1, .int .u8 (t : Nat)), (4, .ptr 0 0 0 0), (7, .ptr 1 0 0 0), (8, .int .i64 (n : Nat)), (13, .ptr 3 0 0 0)]) (H' := [some (whO {}), some (whO {}), some ⟨.pb cb, 0, some 13, 1, true, false, 0⟩, some (svO 2 13 0)])
  · generalize 1 + n = n1 at *
    simp only [whO, Wh.pay, svO, upd, List.set] at hcp
    (refine ⟨0, ?_⟩; simp (maxSteps := 2000000) -implicitDefEqProofs [-getElem?_pos, List.getElem?_cons_zero, List.getElem?_cons_succ, go_sem, eqV, plen, loadV, storeV, whO, Wh.pay, svO, w1, hsl, hcp])
  clear hcp hsl hM hdr
  apply Tells.seq (fr' := [(1, .int .u8 (t : Nat)), (4, .ptr 0 0 0 0), (7, .ptr 1 0 0 0), (8, .int .i64 (n : Nat)), (13, .ptr 3 0 0 0), (14, .fn 52 [.ptr 3 0 0 0])]) (H' := [some (whO {}), some (whO {}), some ⟨.pb cb, 0, some 13, 1, true, false, 0⟩, some (svO 2 13 0)])
  · (refine ⟨0, ?_⟩; simp (maxSteps := 2000000) -implicitDefEqProofs [-getElem?_pos, List.getElem?_cons_zero, List.getElem?_cons_succ, go_sem, eqV, plen, loadV, storeV, scalars])
  have hN : ∀ (H0 H1 : Option AM.Obj) (i k : Nat) (I K : Int), I = (i : Nat) → K = (k : Nat) → i + k ≤ 13 → 1 ≤ k → k ≤ 4 → evT X 52 [.int .i64 I, .int .i64 K, .ptr 3 0 0 0] [H0, H1, some ⟨.pb cb, 0, some 13, 1, true, false, 0⟩, some (svO 2 13 0)] = some (.int .i64 (nb cb i k : Nat), [H0, H1, some ⟨.pb cb, 0, some 13, 1, true, false, 0⟩, some (svO 2 13 0)]) :=
    fun H0 H1 i k I K hI hK h1 h2 h3 => number_ev (H := [H0, H1, some ⟨.pb cb, 0, some 13, 1, true, false, 0⟩, some (svO 2 13 0)]) (o1 := 3) (o2 := 2) (g2 := 0) hI hK hcl h1 h2 h3 rfl rfl rfl rfl rfl rfl rfl rfl rfl rfl (by decide)
  have hF := fun w H => fin_ev w ht H
  apply Tells.or (P := fun fr H => ∃ w : Wh, fr = [(1, .int .u8 (t : Nat)), (4, .ptr 0 0 0 0), (7, .ptr 1 0 0 0), (8, .int .i64 (n : Nat))] ∧ H = [some (whO {}), some (whO w), some ⟨.pb cb, 0, some 13, 1, true, false, 0⟩, some (svO 2 13 0)] ∧ (if t = 11 then ¬ 1 < (cb.headD 0).toNat ∧ w = spW cb else w = moW cb))
  · by_cases h11 : t = 11
    · subst h11
      apply Tells.seq (fr' := [(1, .int .u8 11), (4, .ptr 0 0 0 0), (7, .ptr 1 0 0 0), (8, .int .i64 (n : Nat)), (13, .ptr 3 0 0 0), (14, .fn 52 [.ptr 3 0 0 0]), (58, .bool true)]) (H' := [some (whO {}), some (whO {}), some ⟨.pb cb, 0, some 13, 1, true, false, 0⟩, some (svO 2 13 0)])
      · (refine ⟨0, ?_⟩; simp (maxSteps := 2000000) -implicitDefEqProofs [-getElem?_pos, List.getElem?_cons_zero, List.getElem?_cons_succ, go_sem, eqV, plen, loadV, storeV])
      apply Tells.condT (by simp [evalO, getF])
      obtain ⟨y, ys, rfl⟩ : ∃ y ys, cb = y :: ys := by
        cases cb with
        | nil => simp at hcl
        | cons y ys => exact ⟨y, ys, rfl⟩
      apply Tells.assoc
      by_cases hy : 1 < y.toNat
      · refine Tells.of (o := ⟨.ret, [(4, .ptr 0 0 0 0), (5, .int .i64 0), (6, .int .i64 5)], [some (whO {}), some (whO {}), some ⟨.pb (y :: ys), 0, some 13, 1, true, false, 0⟩, some (svO 2 13 0)]⟩) ⟨0, ?_⟩ (.inr ⟨by simp, rfl, rfl, ?_, ?_, ?_⟩)
        · have hyi : (1 : Int) < (y.toNat : Int) := by omega
          simp (maxSteps := 2000000) -implicitDefEqProofs [-getElem?_pos, List.getElem?_cons_zero, List.getElem?_cons_succ, go_sem, eqV, plen, loadV, storeV, whO, Wh.pay, mkWh, svO, hyi, flatCells, splice, scalars]
        · rw [hr, if_pos rfl, if_pos (show 1 < ((y :: ys).headD 0).toNat from hy)]; rfl
        · rw [hr, if_pos rfl, if_pos (show 1 < ((y :: ys).headD 0).toNat from hy)]; rfl
        · rw [hr, if_pos rfl, if_pos (show 1 < ((y :: ys).headD 0).toNat from hy)]; rfl
      · have hyi : ¬ (1 : Int) < (y.toNat : Int) := by omega
        apply Tells.seq (fr' := [(1, .int .u8 11), (4, .ptr 0 0 0 0), (7, .ptr 1 0 0 0), (8, .int .i64 (n : Nat)), (13, .ptr 3 0 0 0), (14, .fn 52 [.ptr 3 0 0 0]), (62, .bool false)]) (H' := [some (whO {}), some (whO {}), some ⟨.pb (y :: ys), 0, some 13, 1, true, false, 0⟩, some (svO 2 13 0)])
        · (refine ⟨0, ?_⟩; simp (maxSteps := 2000000) -implicitDefEqProofs [-getElem?_pos, List.getElem?_cons_zero, List.getElem?_cons_succ, go_sem, eqV, plen, loadV, storeV, svO, hyi])
        apply Tells.seq (fr' := [(1, .int .u8 11), (4, .ptr 0 0 0 0), (7, .ptr 1 0 0 0), (8, .int .i64 (n : Nat)), (13, .ptr 3 0 0 0), (14, .fn 52 [.ptr 3 0 0 0]), (62, .bool false)]) (H' := [some (whO {}), some (whO {}), some ⟨.pb (y :: ys), 0, some 13, 1, true, false, 0⟩, some (svO 2 13 0)])
        · exact condF (by simp [evalO, getF]) ⟨0, rfl⟩
        refine Tells.of (o := ⟨.normal, [(1, .int .u8 11), (4, .ptr 0 0 0 0), (7, .ptr 1 0 0 0), (8, .int .i64 (n : Nat))], [some (whO {}), some (whO (spW (y :: ys))), some ⟨.pb (y :: ys), 0, some 13, 1, true, false, 0⟩, some (svO 2 13 0)]⟩) ?_ (.inl ⟨rfl, _, rfl, rfl, by rw [if_pos rfl]; exact ⟨show ¬ 1 < y.toNat by omega, rfl⟩⟩)
        have n1 := fun H0 H1 => hN H0 H1 1 4 1 4 rfl rfl (by omega) (by omega) (by omega)
        have n5 := fun H0 H1 => hN H0 H1 5 1 5 1 rfl rfl (by omega) (by omega) (by omega)
        have n6 := fun H0 H1 => hN H0 H1 6 1 6 1 rfl rfl (by omega) (by omega) (by omega)
        have n7 := fun H0 H1 => hN H0 H1 7 1 7 1 rfl rfl (by omega) (by omega) (by omega)
        have n8 := fun H0 H1 => hN H0 H1 8 4 8 4 rfl rfl (by omega) (by omega) (by omega)
        have hye : ((y.toNat : Int) == 1) = (y.toNat == 1) := by
          by_cases h : y.toNat = 1
          · rw [h]; rfl
          · have : (y.toNat == 1) = false := by simpa using h
            rw [this]; exact beq_eq_false_iff_ne.2 (by omega)
        exact piece (rw_dy n y ys _ _ _ _ _ _ hye n1 n5 n6 n7 n8) _ rfl
    · have h11b : ((t : Int) == 11) = false := beq_eq_false_iff_ne.2 (by omega)
      apply Tells.seq (fr' := [(1, .int .u8 (t : Nat)), (4, .ptr 0 0 0 0), (7, .ptr 1 0 0 0), (8, .int .i64 (n : Nat)), (13, .ptr 3 0 0 0), (14, .fn 52 [.ptr 3 0 0 0]), (58, .bool false)]) (H' := [some (whO {}), some (whO {}), some ⟨.pb cb, 0, some 13, 1, true, false, 0⟩, some (svO 2 13 0)])
      · (refine ⟨0, ?_⟩; simp (maxSteps := 2000000) -implicitDefEqProofs [-getElem?_pos, List.getElem?_cons_zero, List.getElem?_cons_succ, go_sem, eqV, plen, loadV, storeV, h11b])
      apply Tells.condF (by simp [evalO, getF])
      refine Tells.of (o := ⟨.normal, [(1, .int .u8 (t : Nat)), (4, .ptr 0 0 0 0), (7, .ptr 1 0 0 0), (8, .int .i64 (n : Nat))], [some (whO {}), some (whO (moW cb)), some ⟨.pb cb, 0, some 13, 1, true, false, 0⟩, some (svO 2 13 0)]⟩) ⟨0, ?_⟩ (.inl ⟨rfl, _, rfl, rfl, by rw [if_neg h11]⟩)
      have n0 := fun H0 H1 => hN H0 H1 0 2 0 2 rfl rfl (by omega) (by omega) (by omega)
      have n2 := fun H0 H1 => hN H0 H1 2 1 2 1 rfl rfl (by omega) (by omega) (by omega)
      have n3 := fun H0 H1 => hN H0 H1 3 1 3 1 rfl rfl (by omega) (by omega) (by omega)
      have n4 := fun H0 H1 => hN H0 H1 4 1 4 1 rfl rfl (by omega) (by omega) (by omega)
      have n5 := fun H0 H1 => hN H0 H1 5 1 5 1 rfl rfl (by omega) (by omega) (by omega)
      have n6 := fun H0 H1 => hN H0 H1 6 1 6 1 rfl rfl (by omega) (by omega) (by omega)
      have n7 := fun H0 H1 => hN H0 H1 7 4 7 4 rfl rfl (by omega) (by omega) (by omega)
      have hbd := fun x1 x2 x3 x4 x5 x6 x7 => bdMo x1 x2 x3 x4 x5 x6 x7
      unfold moW
      generalize nb cb 0 2 = z0 at *
      generalize nb cb 2 1 = z2 at *
      generalize nb cb 3 1 = z3 at *
      generalize nb cb 4 1 = z4 at *
      generalize nb cb 5 1 = z5 at *
      generalize nb cb 6 1 = z6 at *
      generalize nb cb 7 4 = z7 at *
      simp only [svO] at n0 n2 n3 n4 n5 n6 n7
      simp (maxSteps := 2000000) -implicitDefEqProofs [-getElem?_pos, List.getElem?_cons_zero, List.getElem?_cons_succ, go_sem, eqV, plen, loadV, storeV, svO, whO, Wh.pay, n0, n2, n3, n4, n5, n6, n7, hbd, flatCells, splice, scalars]
  rintro fr H ⟨w, rfl, rfl, hw⟩
  have hres : R = if fin w t = false then ({}, 0, 5) else (w, 1 + n, 0) := by
    rw [hr]
    by_cases h11 : t = 11
    · rw [if_pos h11] at hw ⊢
      rw [if_neg hw.1, hw.2]
    · rw [if_neg h11] at hw ⊢
      rw [hw]
  rw [hres]
  have hFw := hF w [some (whO {}), some (whO w), some ⟨.pb cb, 0, some 13, 1, true, false, 0⟩, some (svO 2 13 0)]
  have hbd0 := bdW0
  apply Tells.assoc
  cases hf : fin w t with
  | false =>
    rw [hf] at hFw
    refine Tells.of (o := ⟨.ret, [(4, .ptr 0 0 0 0), (5, .int .i64 0), (6, .int .i64 5)], [some (whO {}), some (whO w), some ⟨.pb cb, 0, some 13, 1, true, false, 0⟩, some (svO 2 13 0)]⟩) ⟨0, ?_⟩ ⟨rfl, rfl, by rw [if_pos rfl]; rfl, by rw [if_pos rfl]; rfl, by rw [if_pos rfl]; rfl⟩
    simp only [whO, Wh.pay] at hFw
    simp (maxSteps := 2000000) -implicitDefEqProofs [-getElem?_pos, List.getElem?_cons_zero, List.getElem?_cons_succ, go_sem, eqV, plen, loadV, storeV, whO, Wh.pay, mkWh, hFw, hbd0, flatCells, splice, scalars]
  | true =>
    rw [hf] at hFw
    refine Tells.of (o := ⟨.ret, [(4, .ptr 0 0 0 0), (5, .int .i64 ((1 + n : Nat) : Int)), (6, .int .i64 0)], [some (whO w), some (whO w), some ⟨.pb cb, 0, some 13, 1, true, false, 0⟩, some (svO 2 13 0)]⟩) ⟨0, ?_⟩ ⟨rfl, rfl, by rw [if_neg (by simp)]; rfl, by rw [if_neg (by simp)]; rfl, by rw [if_neg (by simp)]; rfl⟩
    simp only [whO, Wh.pay] at hFw
    generalize 1 + n = n1 at *
    simp (maxSteps := 2000000) -implicitDefEqProofs [-getElem?_pos, List.getElem?_cons_zero, List.getElem?_cons_succ, go_sem, eqV, plen, loadV, storeV, whO, Wh.pay, mkWh, hFw, w1, flatCells, splice, scalars]

end

end Go.Proofs.YtifgkkfchnfcaaaDoor

/- Walks: a moment, or a span, read: whole; a value read. -/
namespace Go.Proofs.YtifgkkfchnfcaaaDoor
open Go.AM
set_option linter.unusedSimpArgs false
set_option linter.unusedVariables false

theorem bsL4 (H : AM.Heap) : buildSliceV X H 41 4 [(0, .int .i64 0), (1, .int .i64 4), (2, .int .i64 7), (3, .int .i64 11)] = some (.ro 1 (.pi .i64 [0, 4, 7, 11]) 0, H) := by kernel_rfl
theorem bsL3 (H : AM.Heap) : buildSliceV X H 41 3 [(0, .int .i64 0), (1, .int .i64 8), (2, .int .i64 12)] = some (.ro 1 (.pi .i64 [0, 8, 12]) 0, H) := by kernel_rfl

section
variable (c : Nat) (b : List UInt8) (t : Nat)

set_option maxRecDepth 100000 in
set_option maxHeartbeats 4000000 in
theorem rw_code (hc : c = 0 → b = []) (ht : t < 256) (hbm : b.length ≤ 90000000) :
    ∃ code, Tryd.f36.body = some code ∧
    Tells (Rets fun fr H => getF fr 4 = .ptr 0 0 0 0 ∧ H[0]? = some (some (whO (rdW b t).1)) ∧ getF fr 5 = .int .i64 ((rdW b t).2.1 : Nat) ∧ getF fr 6 = .int .i64 (rdW b t).2.2) X (evT X) 36 0 code
      [(0, .ro c (.pb b) 1), (1, .int .u8 (t : Nat))] [] := by
  refine ⟨_, rfl, ?_⟩
  apply Tells.seq (fr' := [(0, .ro c (.pb b) 1), (1, .int .u8 (t : Nat)), (4, .ptr 0 0 0 0)]) (H' := [some (whO {})])
  · (refine ⟨0, ?_⟩; simp (maxSteps := 2000000) -implicitDefEqProofs [-getElem?_pos, List.getElem?_cons_zero, List.getElem?_cons_succ, go_sem, eqV, plen, loadV, storeV, whO, Wh.pay])
  apply Tells.seq (fr' := [(0, .ro c (.pb b) 1), (1, .int .u8 (t : Nat)), (4, .ptr 0 0 0 0), (7, .ptr 1 0 0 0)]) (H' := [some (whO {}), some (whO {})])
  · (refine ⟨0, ?_⟩; simp (maxSteps := 2000000) -implicitDefEqProofs [-getElem?_pos, List.getElem?_cons_zero, List.getElem?_cons_succ, go_sem, eqV, plen, loadV, storeV, whO, Wh.pay])
  apply Tells.assoc
  by_cases hb0 : b.length = 0
  · have hr : rdW b t = ({}, 0, 4) := if_pos hb0
    rw [hr]
    refine Tells.of (o := ⟨.ret, [(4, .ptr 0 0 0 0), (5, .int .i64 0), (6, .int .i64 4)], [some (whO {}), some (whO {})]⟩) ⟨0, ?_⟩ ⟨rfl, rfl, rfl, rfl, rfl⟩
    simp (maxSteps := 2000000) -implicitDefEqProofs [-getElem?_pos, List.getElem?_cons_zero, List.getElem?_cons_succ, go_sem, eqV, plen, loadV, storeV, whO, Wh.pay, mkWh, hb0, flatCells, splice, scalars]
  have hb0i : ((b.length : Int) == 0) = false := beq_eq_false_iff_ne.2 (by omega)
  apply Tells.seq (fr' := [(0, .ro c (.pb b) 1), (1, .int .u8 (t : Nat)), (4, .ptr 0 0 0 0), (7, .ptr 1 0 0 0), (17, .bool false)]) (H' := [some (whO {}), some (whO {})])
  · (refine ⟨0, ?_⟩; simp (maxSteps := 2000000) -implicitDefEqProofs [-getElem?_pos, List.getElem?_cons_zero, List.getElem?_cons_succ, go_sem, eqV, plen, loadV, storeV, hb0i])
  apply Tells.seq (fr' := [(0, .ro c (.pb b) 1), (1, .int .u8 (t : Nat)), (4, .ptr 0 0 0 0), (7, .ptr 1 0 0 0), (17, .bool false)]) (H' := [some (whO {}), some (whO {})])
  · exact condF (by simp [evalO, getF]) ⟨0, rfl⟩
  obtain ⟨y, ys, hby⟩ : ∃ y ys, b = y :: ys := by
    cases b with
    | nil => simp at hb0
    | cons y ys => exact ⟨y, ys, rfl⟩
  have hyh : (b.headD 0).toNat = y.toNat := by rw [hby]; rfl
  have hy0 : b[0]? = some y := by rw [hby]; rfl
  have hyl := y.toNat_lt
  have wy : IntKind.i64.wrap (y.toNat : Int) = (y.toNat : Int) := wrap_i64 (by omega) (by omega)
  have hbpos : (0 : Int) < (b.length : Int) := by omega
  have hbposN : 0 < b.length := by omega
  apply Tells.seq (fr' := [(0, .ro c (.pb b) 1), (1, .int .u8 (t : Nat)), (4, .ptr 0 0 0 0), (7, .ptr 1 0 0 0), (8, .int .i64 (y.toNat : Nat))]) (H' := [some (whO {}), some (whO {})])
  · (refine ⟨0, ?_⟩; simp (maxSteps := 2000000) -implicitDefEqProofs [-getElem?_pos, List.getElem?_cons_zero, List.getElem?_cons_succ, go_sem, eqV, plen, loadV, storeV, hy0, wy, hbpos, hbposN])
  apply Tells.seq (fr' := [(0, .ro c (.pb b) 1), (1, .int .u8 (t : Nat)), (4, .ptr 0 0 0 0), (7, .ptr 1 0 0 0), (8, .int .i64 (y.toNat : Nat)), (9, .ro 1 (.pi .i64 [0, 4, 7, 11]) 0)]) (H' := [some (whO {}), some (whO {})])
  · have h4 := fun H => bsL4 H
    generalize ([0, 4, 7, 11] : List Int) = L at *
    (refine ⟨0, ?_⟩; simp (maxSteps := 2000000) -implicitDefEqProofs [-getElem?_pos, List.getElem?_cons_zero, List.getElem?_cons_succ, go_sem, eqV, plen, loadV, storeV, h4])
  apply Tells.andThen (P := fun fr H => H = [some (whO {}), some (whO {})] ∧ ∃ tl, fr = [(0, .ro c (.pb b) 1), (1, .int .u8 (t : Nat)), (4, .ptr 0 0 0 0), (7, .ptr 1 0 0 0), (8, .int .i64 (y.toNat : Nat)), (9, .ro 1 (.pi .i64 (szL t)) 0)] ++ tl)
  · by_cases h11 : t = 11
    · subst h11
      refine Tells.of (o := ⟨.normal, [(0, .ro c (.pb b) 1), (1, .int .u8 11), (4, .ptr 0 0 0 0), (7, .ptr 1 0 0 0), (8, .int .i64 (y.toNat : Nat)), (9, .ro 1 (.pi .i64 [0, 8, 12]) 0)], _⟩) ⟨0, ?_⟩ ⟨rfl, rfl, [], rfl⟩
      have h3 := fun H => bsL3 H
      generalize ([0, 8, 12] : List Int) = L at *
      generalize ([0, 4, 7, 11] : List Int) = L2 at *
      simp (maxSteps := 2000000) -implicitDefEqProofs [-getElem?_pos, List.getElem?_cons_zero, List.getElem?_cons_succ, go_sem, eqV, plen, loadV, storeV, h3]
    · have h11b : ((t : Int) == 11) = false := beq_eq_false_iff_ne.2 (by omega)
      refine Tells.of (o := ⟨.normal, [(0, .ro c (.pb b) 1), (1, .int .u8 (t : Nat)), (4, .ptr 0 0 0 0), (7, .ptr 1 0 0 0), (8, .int .i64 (y.toNat : Nat)), (9, .ro 1 (.pi .i64 [0, 4, 7, 11]) 0), (25, .bool false)], _⟩) ⟨0, ?_⟩ ⟨rfl, rfl, [(25, .bool false)], by unfold szL; rw [if_neg h11]; rfl⟩
      generalize ([0, 4, 7, 11] : List Int) = L2 at *
      simp (maxSteps := 2000000) -implicitDefEqProofs [-getElem?_pos, List.getElem?_cons_zero, List.getElem?_cons_succ, go_sem, eqV, plen, loadV, storeV, h11b]
  rintro fr H ⟨rfl, tl, rfl⟩
  have hszl : (szL t).length ≤ 100 := by unfold szL; split <;> simp
  apply Tells.seq (fr' := [(0, .ro c (.pb b) 1), (1, .int .u8 (t : Nat)), (4, .ptr 0 0 0 0), (7, .ptr 1 0 0 0), (8, .int .i64 (y.toNat : Nat)), (9, .ro 1 (.pi .i64 (szL t)) 0), (10, .bool false)]) (H' := [some (whO {}), some (whO {})])
  · generalize szL t = L at *
    (refine ⟨0, ?_⟩; simp (maxSteps := 2000000) -implicitDefEqProofs [-getElem?_pos, List.getElem?_cons_zero, List.getElem?_cons_succ, go_sem, eqV, plen, loadV, storeV])
  apply Tells.assoc
  apply Tells.seq (fr' := rwFr c b t y.toNat (szL t) false 0) (H' := [some (whO {}), some (whO {})])
  · unfold rwFr
    generalize szL t = L at *
    (refine ⟨0, ?_⟩; simp (maxSteps := 2000000) -implicitDefEqProofs [-getElem?_pos, List.getElem?_cons_zero, List.getElem?_cons_succ, go_sem, eqV, plen, loadV, storeV])
  apply Tells.andThen (P := fun fr H => H = [some (whO {}), some (whO {})] ∧ fr = rwFr c b t y.toNat (szL t) ((szL t).any fun x => (y.toNat : Int) == x) (szL t).length ++ [(30, .bool false)])
  · exact piece (rw_loop c b t y.toNat (szL t) hszl) _ rfl
  rintro fr H ⟨rfl, rfl⟩
  have hkn : ((szL t).any fun x => (y.toNat : Int) == x) = knW (b.headD 0).toNat t := by rw [hyh]; rfl
  rw [hkn]
  apply Tells.assoc
  cases hk : knW (b.headD 0).toNat t with
  | false =>
    have hr : rdW b t = ({}, 0, 5) := by unfold rdW; rw [if_neg hb0, if_pos hk]
    rw [hr]
    refine Tells.of (o := ⟨.ret, [(4, .ptr 0 0 0 0), (5, .int .i64 0), (6, .int .i64 5)], [some (whO {}), some (whO {})]⟩) ⟨0, ?_⟩ ⟨rfl, rfl, rfl, rfl, rfl⟩
    unfold rwFr
    generalize szL t = L at *
    simp (maxSteps := 2000000) -implicitDefEqProofs [-getElem?_pos, List.getElem?_cons_zero, List.getElem?_cons_succ, go_sem, eqV, plen, loadV, storeV, whO, Wh.pay, mkWh, flatCells, splice, scalars]
  | true =>
  apply Tells.seq (fr' := [(0, .ro c (.pb b) 1), (1, .int .u8 (t : Nat)), (4, .ptr 0 0 0 0), (7, .ptr 1 0 0 0), (8, .int .i64 (y.toNat : Nat)), (41, .bool false)]) (H' := [some (whO {}), some (whO {})])
  · unfold rwFr
    generalize szL t = L at *
    (refine ⟨0, ?_⟩; simp (maxSteps := 2000000) -implicitDefEqProofs [-getElem?_pos, List.getElem?_cons_zero, List.getElem?_cons_succ, go_sem, eqV, plen, loadV, storeV])
  apply Tells.seq (fr' := [(0, .ro c (.pb b) 1), (1, .int .u8 (t : Nat)), (4, .ptr 0 0 0 0), (7, .ptr 1 0 0 0), (8, .int .i64 (y.toNat : Nat)), (41, .bool false)]) (H' := [some (whO {}), some (whO {})])
  · exact condF (by simp [evalO, getF]) ⟨0, rfl⟩
  apply Tells.assoc
  have w1 : IntKind.i64.wrap (1 + (y.toNat : Int)) = ((1 + y.toNat : Nat) : Int) := by rw [wrap_i64 (by omega) (by omega)]; omega
  by_cases hs : b.length < 1 + (b.headD 0).toNat
  · have hr : rdW b t = ({}, 0, 4) := by unfold rdW; rw [if_neg hb0, if_neg (by rw [hk]; simp), if_pos hs]
    rw [hr]
    have hsi : (b.length : Int) < ((1 + y.toNat : Nat) : Int) := by omega
    refine Tells.of (o := ⟨.ret, [(4, .ptr 0 0 0 0), (5, .int .i64 0), (6, .int .i64 4)], [some (whO {}), some (whO {})]⟩) ⟨0, ?_⟩ ⟨rfl, rfl, rfl, rfl, rfl⟩
    generalize 1 + y.toNat = n1 at *
    simp (maxSteps := 2000000) -implicitDefEqProofs [-getElem?_pos, List.getElem?_cons_zero, List.getElem?_cons_succ, go_sem, eqV, plen, loadV, storeV, whO, Wh.pay, mkWh, w1, hsi, flatCells, splice, scalars]
  have hsi : ¬ (b.length : Int) < ((1 + y.toNat : Nat) : Int) := by omega
  apply Tells.seq (fr' := [(0, .ro c (.pb b) 1), (1, .int .u8 (t : Nat)), (4, .ptr 0 0 0 0), (7, .ptr 1 0 0 0), (8, .int .i64 (y.toNat : Nat)), (47, .bool false)]) (H' := [some (whO {}), some (whO {})])
  · generalize 1 + y.toNat = n1 at *
    (refine ⟨0, ?_⟩; simp (maxSteps := 2000000) -implicitDefEqProofs [-getElem?_pos, List.getElem?_cons_zero, List.getElem?_cons_succ, go_sem, eqV, plen, loadV, storeV, w1, hsi])
  apply Tells.seq (fr' := [(0, .ro c (.pb b) 1), (1, .int .u8 (t : Nat)), (4, .ptr 0 0 0 0), (7, .ptr 1 0 0 0), (8, .int .i64 (y.toNat : Nat)), (47, .bool false)]) (H' := [some (whO {}), some (whO {})])
  · exact condF (by simp [evalO, getF]) ⟨0, rfl⟩
  have := piece (rw_end c b t hc ht hb0 hk hs hbm) _ rfl
  rw [hyh] at this
  exact this

end

theorem rw_ev {H : AM.Heap} {a : AV} {b : List UInt8} {t : Nat} (h : Byt H a b) (ht : t < 256) (hbm : b.length ≤ 90000000) :
    evT X 36 [a, .int .u8 (t : Nat)] H = some (.tup [.agg (rdW b t).1.pay, .int .i64 ((rdW b t).2.1 : Nat), .int .i64 (rdW b t).2.2], H) := by
  obtain ⟨c, p, xl, hp, hc, hx'⟩ := args_byt (C := X) (f := 36) (i := 0) rfl h (args_flat (i := 1) (a := .int .u8 (t : Nat)) rfl rfl (args_nil 2))
  obtain ⟨code, hcode, o, ⟨he, q4, q0, q5, q6⟩, hr⟩ := rw_code c b t hc ht hbm
  refine evT_eq (Ev1.toldP (l := [.agg (rdW b t).1.pay, .int .i64 ((rdW b t).2.1 : Nat), .int .i64 (rdW b t).2.2]) (evT_below X) Tryd.func36 hcode hx' (by simp [idsL, ids, hp.ids]) (by simp [gtag]) (by simp [idsL, ids, Wh.pay]) (by simp [tagsL, tags, Wh.pay]) rfl ⟨o, ⟨he, ?_⟩, by rw [par36, coB hp]; exact hr⟩)
  generalize rdW b t = r at *
  show resultsV X o.fr o.H [.cell 4 25, .tmp 5, .tmp 6] = _
  simp only [whO, Wh.pay] at q0
  simp [resultsV, q4, q5, q6, loadV, live, q0, pagg, mkWh, Wh.pay]

end Go.Proofs.YtifgkkfchnfcaaaDoor

/- Walks: a value read. -/
namespace Go.Proofs.YtifgkkfchnfcaaaDoor
open Go.AM
set_option linter.unusedSimpArgs false
set_option linter.unusedVariables false

/-- a number with a sign, of n bytes -/
def sgV (x : Int) (n : Nat) : Int := Int.fdiv (IntKind.i64.wrap (IntKind.u64.wrap (x * 2 ^ (64 - 8 * n)))) (2 ^ (64 - 8 * n))

/-- what a value's reading tells -/
def rdV (b : List UInt8) (t : Ty) : Va × Nat × Int :=
  if kindN t.t t.u < 0 then ({}, 0, 2) else if kindN t.t t.u = 0 then ({}, 0, 0) else
  if kindN t.t t.u = 5 ∨ kindN t.t t.u = 6 then (if (rdW b t.t).2.2 ≠ 0 then ({}, 0, (rdW b t.t).2.2) else ({ k := kindN t.t t.u, w := (rdW b t.t).1 }, (rdW b t.t).2.1, 0)) else
  if kindN t.t t.u = 7 then (if (rdT b).2.2 ≠ 0 then ({}, 0, (rdT b).2.2) else if 16777216 < (rdT b).1.length then ({}, 0, 5) else ({ k := 7, t := (rdT b).1 }, (rdT b).2.1, 0)) else
  if (rfR b (sizeN t.t)).2 ≠ 0 then ({}, 0, (rfR b (sizeN t.t)).2) else
  if kindN t.t t.u = 1 then ({ k := 1, i := sgV (rfR b (sizeN t.t)).1 (sizeN t.t) }, sizeN t.t, 0) else ({ k := kindN t.t t.u, b := (rfR b (sizeN t.t)).1.toNat }, sizeN t.t, 0)

theorem bvV0 : buildV X 27 [] = some (.agg (Va.pay {})) := by kernel_rfl
theorem bvVw (k : Int) (w : Wh) : buildV X 27 [(0, .int .i64 k), (4, .agg w.pay)] = some (.agg (Va.pay { k := k, w := w })) := by
  obtain ⟨neg, y, mo, d, h, mi, s, us⟩ := w
  kernel_rfl
theorem bvVt (k : Int) (s : List UInt8) : buildV X 27 [(0, .int .i64 k), (3, .str s)] = some (.agg (Va.pay { k := k, t := s })) := by kernel_rfl
theorem bvVi (k i : Int) : buildV X 27 [(0, .int .i64 k), (1, .int .i64 i)] = some (.agg (Va.pay { k := k, i := i })) := by kernel_rfl
theorem bvVb (k : Int) (x : Nat) : buildV X 27 [(0, .int .i64 k), (2, .int .u64 (x : Nat))] = some (.agg (Va.pay { k := k, b := x })) := by kernel_rfl

section
variable (c : Nat) (b : List UInt8) (t : Ty)

/-- what Read leaves -/
def rvQ (r : Va × Nat × Int) (fr : AM.Frame) (H : AM.Heap) : Prop := getF fr 4 = .ptr 1 0 0 0 ∧ H[1]? = some (some (vaO r.1)) ∧ getF fr 5 = .int .i64 (r.2.1 : Nat) ∧ getF fr 6 = .int .i64 r.2.2

set_option maxRecDepth 100000 in
set_option maxHeartbeats 4000000 in
theorem vread_num (hc : c = 0 → b = []) (ht : t.t < 256) (hbm : b.length ≤ 90000000) (hk : kindN t.t t.u = 1 ∨ kindN t.t t.u = 2 ∨ kindN t.t t.u = 3 ∨ kindN t.t t.u = 4) :
    ∃ code, ((Tryd.f17.body).bind (codeAt [1, 1, 1])) = some code ∧
    Tells (Rets (rvQ (rdV b t))) X (evT X) 17 0 code [(0, .ro c (.pb b) 1), (3, .ptr 0 0 0 0), (4, .ptr 1 0 0 0), (7, .int .i64 (kindN t.t t.u)), (45, .bool false)] [some (tyO t), some (vaO {})] := by
  refine ⟨_, rfl, ?_⟩
  have hr : rdV b t = if (rfR b (sizeN t.t)).2 ≠ 0 then ({}, 0, (rfR b (sizeN t.t)).2) else
      if kindN t.t t.u = 1 then ({ k := 1, i := sgV (rfR b (sizeN t.t)).1 (sizeN t.t) }, sizeN t.t, 0) else ({ k := kindN t.t t.u, b := (rfR b (sizeN t.t)).1.toNat }, sizeN t.t, 0) := by
    unfold rdV
    rw [if_neg (by omega), if_neg (by omega), if_neg (by omega), if_neg (by omega)]
  rw [hr]
  have hsz := size_num (t := t.t) (u := t.u) hk
  have hS := size_ev' ht [some (tyO t), some (vaO {})]
  have hB : Byt [some (tyO t), some (vaO {})] (.ro c (.pb b) 1) b := Byt.ro (.inl rfl) hc
  have hR := rf_ev (n := sizeN t.t) hB hbm
  have hx0 : 0 ≤ (rfR b (sizeN t.t)).1 ∧ (rfR b (sizeN t.t)).1 < 18446744073709551616 := by
    unfold rfR
    split
    · simp
    · split
      · simp
      · have h := leV_lt (b.take ((sizeN t.t : Nat) : Int).toNat)
        simp only [Int.toNat_natCast] at h ⊢
        have h2 : (b.take (sizeN t.t)).length ≤ 8 := by simp; omega
        have h3 : 256 ^ (b.take (sizeN t.t)).length ≤ 256 ^ 8 := Nat.pow_le_pow_right (by omega) h2
        omega
  generalize hsn : sizeN t.t = n at *
  generalize hrr : rfR b (n : Nat) = r at *
  obtain ⟨x, e⟩ := r
  simp only at *
  obtain ⟨xn, rfl⟩ : ∃ xn : Nat, x = (xn : Int) := ⟨x.toNat, by omega⟩
  apply Tells.seq (fr' := [(0, .ro c (.pb b) 1), (4, .ptr 1 0 0 0), (7, .int .i64 (kindN t.t t.u)), (14, .int .i64 (n : Nat))]) (H' := [some (tyO t), some (vaO {})])
  · simp only [tyO, Ty.pay, vaO, Va.pay, Int.cast_ofNat_Int] at hS
    generalize kindN t.t t.u = k at *
    (refine ⟨0, ?_⟩; simp (maxSteps := 2000000) -implicitDefEqProofs [-getElem?_pos, List.getElem?_cons_zero, List.getElem?_cons_succ, go_sem, eqV, plen, loadV, storeV, tyO, Ty.pay, vaO, Va.pay, hS])
  apply Tells.seq (fr' := [(4, .ptr 1 0 0 0), (6, .int .i64 e), (7, .int .i64 (kindN t.t t.u)), (14, .int .i64 (n : Nat)), (15, .int .u64 (xn : Nat))]) (H' := [some (tyO t), some (vaO {})])
  · simp only [tyO, Ty.pay, vaO, Va.pay, Int.cast_ofNat_Int] at hR
    generalize kindN t.t t.u = k at *
    (refine ⟨0, ?_⟩; simp (maxSteps := 2000000) -implicitDefEqProofs [-getElem?_pos, List.getElem?_cons_zero, List.getElem?_cons_succ, go_sem, eqV, plen, loadV, storeV, tyO, Ty.pay, vaO, Va.pay, hR])
  have hb0 := bvV0
  apply Tells.assoc
  by_cases he : e = 0
  case neg =>
    rw [if_pos he]
    have heb : (e != 0) = true := by simpa using he
    refine Tells.of (o := ⟨.ret, [(4, .ptr 1 0 0 0), (5, .int .i64 0), (6, .int .i64 e)], [some (tyO t), some (vaO {})]⟩) ⟨0, ?_⟩ ⟨rfl, rfl, rfl, rfl, rfl⟩
    simp only [Va.pay, Int.cast_ofNat_Int] at hb0
    generalize kindN t.t t.u = k at *
    simp (maxSteps := 2000000) -implicitDefEqProofs [-getElem?_pos, List.getElem?_cons_zero, List.getElem?_cons_succ, go_sem, eqV, plen, loadV, storeV, tyO, Ty.pay, vaO, Va.pay, heb, hb0, mkVa, flatCells, splice, scalars]
  rw [if_neg (by simpa using he)]
  subst he
  apply Tells.seq (fr' := [(4, .ptr 1 0 0 0), (6, .int .i64 0), (7, .int .i64 (kindN t.t t.u)), (14, .int .i64 (n : Nat)), (15, .int .u64 (xn : Nat)), (77, .bool false)]) (H' := [some (tyO t), some (vaO {})])
  · generalize kindN t.t t.u = k at *
    (refine ⟨0, ?_⟩; simp (maxSteps := 2000000) -implicitDefEqProofs [-getElem?_pos, List.getElem?_cons_zero, List.getElem?_cons_succ, go_sem, eqV, plen, loadV, storeV])
  apply Tells.seq (fr' := [(4, .ptr 1 0 0 0), (6, .int .i64 0), (7, .int .i64 (kindN t.t t.u)), (14, .int .i64 (n : Nat)), (15, .int .u64 (xn : Nat)), (77, .bool false)]) (H' := [some (tyO t), some (vaO {})])
  · exact condF (by simp [evalO, getF]) ⟨0, rfl⟩
  apply Tells.assoc
  by_cases hk1 : kindN t.t t.u = 1
  · rw [if_pos hk1, hk1]
    apply Tells.seq (fr' := [(4, .ptr 1 0 0 0), (7, .int .i64 1), (14, .int .i64 (n : Nat)), (15, .int .u64 (xn : Nat)), (81, .bool true)]) (H' := [some (tyO t), some (vaO {})])
    · (refine ⟨0, ?_⟩; simp (maxSteps := 2000000) -implicitDefEqProofs [-getElem?_pos, List.getElem?_cons_zero, List.getElem?_cons_succ, go_sem, eqV, plen, loadV, storeV])
    refine Tells.seqOut (Tells.condT (by simp [evalO, getF]) ?_) (fun o h => by rw [h.1]; simp)
    have w1 : IntKind.i64.wrap (8 * (n : Int)) = ((8 * n : Nat) : Int) := by rw [wrap_i64 (by omega) (by omega)]; omega
    have w2 : IntKind.i64.wrap (64 - ((8 * n : Nat) : Int)) = ((64 - 8 * n : Nat) : Int) := by rw [wrap_i64 (by omega) (by omega)]; omega
    have hsg : sgV (xn : Int) n = Int.fdiv (IntKind.i64.wrap (IntKind.u64.wrap ((xn : Int) * 2 ^ (64 - 8 * n)))) (2 ^ (64 - 8 * n)) := rfl
    have hsh0 : ¬ ((64 - 8 * n : Nat) : Int) < 0 := by omega
    have hmin : min (64 - 8 * n) 64 = 64 - 8 * n := by omega
    generalize hsh : 64 - 8 * n = sh at *
    generalize h8 : 8 * n = n8 at *
    apply Tells.seq (fr' := [(4, .ptr 1 0 0 0), (7, .int .i64 1), (14, .int .i64 (n : Nat)), (15, .int .u64 (xn : Nat)), (16, .int .i64 (sh : Nat))]) (H' := [some (tyO t), some (vaO {})])
    · (refine ⟨0, ?_⟩; simp (maxSteps := 2000000) -implicitDefEqProofs [-getElem?_pos, List.getElem?_cons_zero, List.getElem?_cons_succ, go_sem, eqV, plen, loadV, storeV, w1, w2])
    have hbi := fun k i => bvVi k i
    refine Tells.of (o := ⟨.ret, [(4, .ptr 1 0 0 0), (5, .int .i64 (n : Nat)), (6, .int .i64 0)], [some (tyO t), some (vaO { k := 1, i := sgV (xn : Int) n })]⟩) ⟨0, ?_⟩ ⟨rfl, rfl, rfl, rfl, rfl⟩
    rw [hsg]
    simp only [Va.pay, Int.cast_ofNat_Int] at hbi
    generalize hz : IntKind.u64.wrap ((xn : Int) * 2 ^ sh) = z at *
    generalize hz2 : IntKind.i64.wrap z = z2 at *
    simp (maxSteps := 2000000) -implicitDefEqProofs [-getElem?_pos, List.getElem?_cons_zero, List.getElem?_cons_succ, go_sem, eqV, plen, loadV, storeV, tyO, Ty.pay, vaO, Va.pay, hsh0, hmin, hz, hz2, hbi, mkVa, flatCells, splice, scalars, show IntKind.u64.bits = 64 from rfl, show IntKind.i64.bits = 64 from rfl]
  · rw [if_neg hk1]
    have hk1b : (kindN t.t t.u == 1) = false := beq_eq_false_iff_ne.2 hk1
    generalize kindN t.t t.u = k at *
    apply Tells.seq (fr' := [(4, .ptr 1 0 0 0), (7, .int .i64 k), (14, .int .i64 (n : Nat)), (15, .int .u64 (xn : Nat)), (81, .bool false)]) (H' := [some (tyO t), some (vaO {})])
    · (refine ⟨0, ?_⟩; simp (maxSteps := 2000000) -implicitDefEqProofs [-getElem?_pos, List.getElem?_cons_zero, List.getElem?_cons_succ, go_sem, eqV, plen, loadV, storeV, hk1b])
    apply Tells.seq (fr' := [(4, .ptr 1 0 0 0), (7, .int .i64 k), (14, .int .i64 (n : Nat)), (15, .int .u64 (xn : Nat)), (81, .bool false)]) (H' := [some (tyO t), some (vaO {})])
    · exact condF (by simp [evalO, getF]) ⟨0, rfl⟩
    have hbb := fun k x => bvVb k x
    refine Tells.of (o := ⟨.ret, [(4, .ptr 1 0 0 0), (5, .int .i64 (n : Nat)), (6, .int .i64 0)], [some (tyO t), some (vaO { k := k, b := xn })]⟩) ⟨0, ?_⟩ ⟨rfl, rfl, by simp, rfl, rfl⟩
    simp only [Va.pay, Int.cast_ofNat_Int] at hbb
    simp (maxSteps := 2000000) -implicitDefEqProofs [-getElem?_pos, List.getElem?_cons_zero, List.getElem?_cons_succ, go_sem, eqV, plen, loadV, storeV, tyO, Ty.pay, vaO, Va.pay, hbb, mkVa, flatCells, splice, scalars]

end

end Go.Proofs.YtifgkkfchnfcaaaDoor

/- Plain: a counted text that is written is read back; less is too short. -/
namespace Go.Proofs.YtifgkkfchnfcaaaDoor
open Go.AM
set_option linter.unusedSimpArgs false
set_option linter.unusedVariables false

theorem lvB (n x : Nat) (r : List UInt8) : (leB n x ++ r).take n = leB n x := by
  have := List.take_left (l₁ := leB n x) (l₂ := r)
  rw [leB_len] at this; exact this
theorem aI_small {n : Nat} (h : n ≤ 250) : aI n = [UInt8.ofNat n] := by
  unfold aI frm; rw [if_pos h]; simp only [leB, if_true, List.nil_append]; rw [Nat.mod_eq_of_lt (by omega)]
theorem aI_large {x : Nat} (hx : x < 18446744073709551616) (h1 : ¬ x ≤ 250) : ∃ q n, aI x = UInt8.ofNat q :: leB n x ∧ szI x = n + 1 ∧ 252 ≤ q ∧ q ≤ 254 ∧ bsz q = n ∧ x < 256 ^ n := by
  obtain ⟨h2, h3, h4, h5⟩ := frm_ok hx
  have key : ∃ q n, frm x = (q, n) ∧ szI x = n + 1 ∧ 252 ≤ q ∧ q ≤ 254 ∧ bsz q = n := by
    unfold frm szI
    rw [if_neg h1, if_neg h1]
    by_cases h6 : x < 65536
    · rw [if_pos h6, if_pos h6]; exact ⟨252, 2, rfl, rfl, by omega, by omega, rfl⟩
    · rw [if_neg h6, if_neg h6]
      by_cases h7 : x < 16777216
      · rw [if_pos h7, if_pos h7]; exact ⟨253, 3, rfl, rfl, by omega, by omega, rfl⟩
      · rw [if_neg h7, if_neg h7]; exact ⟨254, 8, rfl, rfl, by omega, by omega, rfl⟩
  obtain ⟨q, n, hf, hs, q1, q2, hb⟩ := key
  rw [hf] at h4
  exact ⟨q, n, by unfold aI; rw [hf]; simp only; rw [if_neg (by omega)]; rfl, hs, q1, q2, hb, h4⟩
/-- a counted number's reading -/
theorem rdI_back {x : Nat} (hx : x < 18446744073709551616) (r : List UInt8) : rdI (aI x ++ r) = (x, szI x, 0) := by
  by_cases h1 : x ≤ 250
  · rw [aI_small h1]
    have e : (UInt8.ofNat x).toNat = x := by simp; omega
    have hs : szI x = 1 := by unfold szI; rw [if_pos h1]
    simp only [List.cons_append, List.nil_append, rdI_cons, e]
    rw [if_neg (by omega), if_pos h1, hs]
  · obtain ⟨q, n, hai, hs, q1, q2, hb, h4⟩ := aI_large hx h1
    have e : (UInt8.ofNat q).toNat = q := by simp; omega
    rw [hai, List.cons_append, rdI_cons, e, if_neg (by omega), if_neg (by omega), hb]
    unfold rdN'
    rw [if_neg (by simp [leB_len]), hs, lvB, leV_leB, Nat.mod_eq_of_lt h4]
/-- cut within -/
theorem rdI_less {x k : Nat} (hx : x < 18446744073709551616) (hk : k < szI x) : rdI ((aI x).take k) = (0, 0, 4) := by
  by_cases h1 : x ≤ 250
  · have hs : szI x = 1 := by unfold szI; rw [if_pos h1]
    obtain rfl : k = 0 := by omega
    rfl
  · obtain ⟨q, n, hai, hs, q1, q2, hb, h4⟩ := aI_large hx h1
    have e : (UInt8.ofNat q).toNat = q := by simp; omega
    rw [hai]
    match k with
    | 0 => rfl
    | k + 1 =>
      rw [List.take_succ_cons, rdI_cons, e, if_neg (by omega), if_neg (by omega), hb]
      unfold rdN'
      rw [if_pos (by rw [List.length_take, leB_len]; omega)]
theorem aT_size (s : List UInt8) : (aT s).length = szI s.length + s.length := by simp [aT, aI_len]
theorem rdT_back {s : List UInt8} (hs : s.length < 18446744073709551616) (r : List UInt8) : rdT (aT s ++ r) = (s, (aT s).length, 0) := by
  unfold rdT aT
  rw [List.append_assoc, rdI_back hs]
  have hl := aI_len s.length
  simp only [ne_eq, not_true_eq_false, if_false]
  rw [if_neg (by simp [hl])]
  have e : (aI s.length ++ (s ++ r)).drop (szI s.length) = s ++ r := by rw [← hl, List.drop_left]
  rw [e, List.take_left]
  simp [hl]
theorem rdT_less {s : List UInt8} {k : Nat} (hs : s.length < 18446744073709551616) (hk : k < (aT s).length) : rdT ((aT s).take k) = ([], 0, 4) := by
  rw [aT_size] at hk
  by_cases h1 : k < szI s.length
  · unfold rdT aT
    rw [List.take_append_of_le_length (by rw [aI_len]; omega), rdI_less hs h1]
    rfl
  · have hI : rdI ((aT s).take k) = (s.length, szI s.length, 0) := by
      unfold aT
      rw [List.take_append, List.take_of_length_le (by rw [aI_len]; omega)]
      exact rdI_back hs _
    unfold rdT
    rw [hI]
    simp only [ne_eq, not_true_eq_false, if_false]
    rw [if_pos (by rw [List.length_take, aT_size]; omega)]

end Go.Proofs.YtifgkkfchnfcaaaDoor

/- Plain: numbers, moments and spans that are written are read back; less is too short. -/
namespace Go.Proofs.YtifgkkfchnfcaaaDoor
open Go.AM
set_option linter.unusedSimpArgs false
set_option linter.unusedVariables false

theorem rfR_back {n : Nat} (x : Nat) (E : List UInt8) (h1 : 1 ≤ n) (h8 : n ≤ 8) : rfR (leB n x ++ E) (n : Nat) = (((x % 256 ^ n : Nat) : Int), 0) := by
  unfold rfR
  rw [if_neg (by omega), if_neg (by rw [List.length_append, leB_len]; omega), Int.toNat_natCast, lvB, leV_leB]
theorem rfR_less {n k : Nat} (x : Nat) (h1 : 1 ≤ n) (h8 : n ≤ 8) (hk : k < n) : rfR ((leB n x).take k) (n : Nat) = (0, 4) := by
  unfold rfR
  rw [if_neg (by omega), if_pos (by rw [List.length_take, leB_len]; omega)]

theorem sg_back {i : Int} {n : Nat} (hn : n = 1 ∨ n = 2 ∨ n = 4 ∨ n = 8) (h1 : -9223372036854775808 ≤ i) (h2 : i < 9223372036854775808) (ok : okI i n = true) : sgV (((ui i % 256 ^ n : Nat) : Nat) : Int) n = i := by
  have hu := ui_eq i
  unfold okI at ok
  simp only [Bool.or_eq_true, decide_eq_true_eq] at ok
  have hw : IntKind.u64.wrap i = i % 18446744073709551616 := by simp [IntKind.wrap, IntKind.signed, IntKind.bits]
  rw [hw] at hu
  generalize ui i = u at *
  have hb : ∀ x : Int, IntKind.u64.wrap x = x % 18446744073709551616 := fun x => by simp [IntKind.wrap, IntKind.signed, IntKind.bits]
  have hi : ∀ x : Int, 0 ≤ x → x < 18446744073709551616 → IntKind.i64.wrap x = if x < 9223372036854775808 then x else x - 18446744073709551616 := by
    intro x h0 h1
    have e : x % 18446744073709551616 = x := by omega
    by_cases hx : x < 9223372036854775808
    · rw [if_pos hx]
      simp [IntKind.wrap, IntKind.signed, IntKind.bits, e]
      omega
    · rw [if_neg hx]
      simp [IntKind.wrap, IntKind.signed, IntKind.bits, e]
      omega
  unfold sgV
  rcases hn with rfl | rfl | rfl | rfl
  · simp only [Nat.reduceSub, Nat.reduceMul, Nat.reducePow, Int.reducePow] at ok ⊢
    rw [hb, hi _ (by omega) (by omega), Int.fdiv_eq_ediv_of_nonneg _ (by omega)]
    split <;> omega
  · simp only [Nat.reduceSub, Nat.reduceMul, Nat.reducePow, Int.reducePow] at ok ⊢
    rw [hb, hi _ (by omega) (by omega), Int.fdiv_eq_ediv_of_nonneg _ (by omega)]
    split <;> omega
  · simp only [Nat.reduceSub, Nat.reduceMul, Nat.reducePow, Int.reducePow] at ok ⊢
    rw [hb, hi _ (by omega) (by omega), Int.fdiv_eq_ediv_of_nonneg _ (by omega)]
    split <;> omega
  · simp only [Nat.reduceSub, Nat.reduceMul, Nat.reducePow, Int.reducePow] at ok ⊢
    rw [hb, hi _ (by omega) (by omega), Int.fdiv_eq_ediv_of_nonneg _ (by omega)]
    split <;> omega

end Go.Proofs.YtifgkkfchnfcaaaDoor

/- Plain: moments and spans that are written are read back; less is too short. -/
namespace Go.Proofs.YtifgkkfchnfcaaaDoor
open Go.AM
set_option linter.unusedSimpArgs false
set_option linter.unusedVariables false

/-- the body behind a length -/
theorem cW_of {L : UInt8} {body E : List UInt8} {n : Nat} (hL : L.toNat = n) (hb : body.length = n) : cW (L :: (body ++ E)) = body ++ List.replicate (13 - n) 0 := by
  unfold cW
  simp only [List.headD_cons, List.drop_succ_cons, List.drop_zero, hL]
  rw [← hb, List.take_left]

theorem b1 {x : Int} (h0 : 0 ≤ x) (h1 : x < 256) : ((UInt8.ofNat x.toNat).toNat : Int) = x := by
  rw [UInt8.toNat_ofNat', Nat.mod_eq_of_lt (by omega)]; omega
theorem drB (n x j : Nat) (r : List UInt8) : (leB n x ++ r).drop (n + j) = r.drop j := by
  have h := List.drop_append (l₁ := leB n x) (l₂ := r) (i := n + j)
  rw [h, leB_len, List.drop_eq_nil_of_le (by rw [leB_len]; omega), List.nil_append, show n + j - n = j by omega]
theorem leVB {x : Int} {n : Nat} (h0 : 0 ≤ x) (h1 : x.toNat < 256 ^ n) : ((leV (leB n x.toNat) : Nat) : Int) = x := by
  rw [leV_leB, Nat.mod_eq_of_lt h1]; omega
theorem leV1 (y : UInt8) : leV [y] = y.toNat := by simp [leV]
/-- parts of a second, with nothing behind them -/
theorem us_back {w : Wh} {k : Nat} (h0 : 0 ≤ w.us) (h1 : w.us < 4294967296) (hk : w.us = 0 → 4 ≤ k) : ((leV ((usB w ++ List.replicate k 0).take 4) : Nat) : Int) = w.us := by
  by_cases hz : w.us = 0
  · have e : usB w = [] := if_pos hz
    have hk := hk hz
    rw [e, hz, List.nil_append, List.take_replicate, leV_zeros]; rfl
  · have e : usB w = leB 4 w.us.toNat := if_neg hz
    rw [e, lvB]
    exact leVB h0 (by rw [show 256 ^ 4 = 4294967296 from rfl]; omega)

theorem sp_back {w : Wh} (hf : fin w 11 = true) {U : List UInt8} (hU : ((leV (U.take 4) : Nat) : Int) = w.us) : spW ((if w.neg then 1 else 0) :: (leB 4 w.d.toNat ++ (UInt8.ofNat w.h.toNat :: UInt8.ofNat w.mi.toNat :: UInt8.ofNat w.s.toNat :: U))) = w := by
  obtain ⟨y0, y1, m0, m1, d0, d1, h0, h1, i0, i1, s0, s1, u0, u1⟩ := fin_nn hf
  have hz : w.y = 0 ∧ w.mo = 0 := by
    unfold fin at hf
    simp only [if_true, Bool.and_eq_true, decide_eq_true_eq] at hf
    exact ⟨hf.2.1, hf.2.2.1⟩
  have hd := leVB (n := 4) d0 (by rw [show 256 ^ 4 = 4294967296 from rfl]; omega)
  have hh := b1 h0 h1
  have hi := b1 i0 i1
  have hs := b1 s0 s1
  have hn : (((if w.neg then 1 else 0) : UInt8).toNat == 1) = w.neg := by cases w.neg <;> rfl
  generalize hX : (UInt8.ofNat w.h.toNat :: UInt8.ofNat w.mi.toNat :: UInt8.ofNat w.s.toNat :: U) = X
  have e0 : (leB 4 w.d.toNat ++ X).take 4 = leB 4 w.d.toNat := lvB 4 _ X
  have e4 : (leB 4 w.d.toNat ++ X).drop 4 = X := drB 4 w.d.toNat 0 X
  have e5 : (leB 4 w.d.toNat ++ X).drop 5 = X.drop 1 := drB 4 w.d.toNat 1 X
  have e6 : (leB 4 w.d.toNat ++ X).drop 6 = X.drop 2 := drB 4 w.d.toNat 2 X
  have e7 : (leB 4 w.d.toNat ++ X).drop 7 = X.drop 3 := drB 4 w.d.toNat 3 X
  unfold spW nb
  simp only [List.headD_cons, List.drop_succ_cons, List.drop_zero, e0, e4, e5, e6, e7, hn, hd]
  subst hX
  simp only [List.drop_succ_cons, List.drop_zero, List.take_succ_cons, List.take_zero, leV1, hU, hh, hi, hs]
  obtain ⟨q1, q2⟩ := hz
  cases w
  simp only at q1 q2
  subst q1 q2
  rfl

theorem mo_back {w : Wh} {t : Nat} (h11 : t ≠ 11) (hf : fin w t = true) {K U : List UInt8} (hK : K = clB w ++ U) (hU : ((leV (U.take 4) : Nat) : Int) = w.us) : moW (leB 2 w.y.toNat ++ (UInt8.ofNat w.mo.toNat :: UInt8.ofNat w.d.toNat :: K)) = w := by
  obtain ⟨y0, y1, m0, m1, d0, d1, h0, h1, i0, i1, s0, s1, u0, u1⟩ := fin_nn hf
  have hng : w.neg = false := by
    unfold fin at hf
    rw [if_neg h11] at hf
    simp only [Bool.and_eq_true, Bool.not_eq_true'] at hf
    exact hf.2.1
  have hy := leVB (n := 2) y0 (by rw [show 256 ^ 2 = 65536 from rfl]; omega)
  have hm := b1 m0 m1
  have hd := b1 d0 d1
  have hh := b1 h0 h1
  have hi := b1 i0 i1
  have hs := b1 s0 s1
  subst hK
  generalize hX : (UInt8.ofNat w.mo.toNat :: UInt8.ofNat w.d.toNat :: (clB w ++ U)) = X
  have e0 : (leB 2 w.y.toNat ++ X).take 2 = leB 2 w.y.toNat := lvB 2 _ X
  have e2 : (leB 2 w.y.toNat ++ X).drop 2 = X := drB 2 w.y.toNat 0 X
  have e3 : (leB 2 w.y.toNat ++ X).drop 3 = X.drop 1 := drB 2 w.y.toNat 1 X
  have e4 : (leB 2 w.y.toNat ++ X).drop 4 = X.drop 2 := drB 2 w.y.toNat 2 X
  have e5 : (leB 2 w.y.toNat ++ X).drop 5 = X.drop 3 := drB 2 w.y.toNat 3 X
  have e6 : (leB 2 w.y.toNat ++ X).drop 6 = X.drop 4 := drB 2 w.y.toNat 4 X
  have e7 : (leB 2 w.y.toNat ++ X).drop 7 = X.drop 5 := drB 2 w.y.toNat 5 X
  unfold moW nb
  simp only [List.drop_zero, e0, e2, e3, e4, e5, e6, e7, hy]
  subst hX
  simp only [clB, List.cons_append, List.nil_append, List.drop_succ_cons, List.drop_zero, List.take_succ_cons, List.take_zero, leV1, hU, hm, hd, hh, hi, hs]
  cases w
  simp only at hng
  subst hng
  rfl

end Go.Proofs.YtifgkkfchnfcaaaDoor

/- Plain: a value that is written is read back; less is too short. -/
namespace Go.Proofs.YtifgkkfchnfcaaaDoor
open Go.AM
set_option linter.unusedSimpArgs false
set_option linter.unusedVariables false

/-- what a moment's, a span's bytes are -/
theorem wh_form {w : Wh} {t : Nat} (hf : fin w t = true) : ∃ L body, whB w t = L :: body ∧ L.toNat = body.length ∧ knW body.length t = true ∧ (t = 11 → spW (body ++ List.replicate (13 - body.length) 0) = w ∧ ¬ 1 < ((body ++ List.replicate (13 - body.length) 0).headD 0).toNat) ∧ (t ≠ 11 → moW (body ++ List.replicate (13 - body.length) 0) = w) := by
  obtain ⟨y0, y1, m0, m1, d0, d1, h0, h1, i0, i1, s0, s1, u0, u1⟩ := fin_nn hf
  by_cases h11 : t = 11
  · subst h11
    by_cases hz : w = {}
    · subst hz
      exact ⟨0, [], rfl, rfl, rfl, fun _ => ⟨by decide, by decide⟩, fun h => absurd rfl h⟩
    · have hB : whB w 11 = (if w.us = 0 then 8 else 12) :: ((if w.neg then 1 else 0) :: (leB 4 w.d.toNat ++ (UInt8.ofNat w.h.toNat :: UInt8.ofNat w.mi.toNat :: UInt8.ofNat w.s.toNat :: usB w))) := by
        unfold whB
        rw [if_pos rfl]
        unfold spB
        rw [if_neg hz]
        simp [clB]
      have hul : (usB w).length = if w.us = 0 then 0 else 4 := by unfold usB; split <;> simp [leB_len]
      have hlen : ((if w.neg then 1 else 0) :: (leB 4 w.d.toNat ++ (UInt8.ofNat w.h.toNat :: UInt8.ofNat w.mi.toNat :: UInt8.ofNat w.s.toNat :: usB w))).length = if w.us = 0 then 8 else 12 := by
        simp only [List.length_cons, List.length_append, leB_len, hul]
        split <;> rfl
      refine ⟨_, _, hB, ?_, ?_, fun _ => ⟨?_, ?_⟩, fun h => absurd rfl h⟩
      · rw [hlen]; split <;> rfl
      · rw [hlen]; split <;> rfl
      · rw [hlen]
        have hb := sp_back hf (U := usB w ++ List.replicate (13 - if w.us = 0 then 8 else 12) 0) (us_back u0 u1 (fun h => by rw [if_pos h]; decide))
        simpa using hb
      · simp only [List.cons_append, List.headD_cons]
        cases w.neg <;> decide
  · by_cases hz : w = {}
    · subst hz
      refine ⟨0, [], ?_, rfl, ?_, fun h => absurd h h11, fun _ => by decide⟩
      · unfold whB; rw [if_neg h11]; rfl
      · unfold knW szL; rw [if_neg h11]; rfl
    · have hul : (usB w).length = if w.us = 0 then 0 else 4 := by unfold usB; split <;> simp [leB_len]
      by_cases hd : w = { y := w.y, mo := w.mo, d := w.d }
      · have hus : w.us = 0 := by rw [hd]
        have hh : w.h = 0 ∧ w.mi = 0 ∧ w.s = 0 := by
          refine ⟨?_, ?_, ?_⟩ <;> rw [hd]
        have hue : usB w = [] := if_pos hus
        have hB : whB w t = 4 :: (leB 2 w.y.toNat ++ (UInt8.ofNat w.mo.toNat :: UInt8.ofNat w.d.toNat :: [])) := by
          unfold whB
          rw [if_neg h11]
          unfold moB moN
          rw [if_neg hz, if_pos hd, if_pos hd, hue]
          simp
        have hlen : (leB 2 w.y.toNat ++ (UInt8.ofNat w.mo.toNat :: UInt8.ofNat w.d.toNat :: [])).length = 4 := by simp [leB_len]
        refine ⟨_, _, hB, by rw [hlen]; rfl, ?_, fun h => absurd h h11, fun _ => ?_⟩
        · rw [hlen]; unfold knW szL; rw [if_neg h11]; rfl
        · rw [hlen]
          have hc : clB w = [0, 0, 0] := by unfold clB; rw [hh.1, hh.2.1, hh.2.2]; rfl
          have hb := mo_back h11 hf (K := List.replicate 9 0) (U := List.replicate 6 0) (by rw [hc]; rfl) (by rw [hus]; decide)
          simpa using hb
      · have hB : whB w t = (if w.us = 0 then 7 else 11) :: (leB 2 w.y.toNat ++ (UInt8.ofNat w.mo.toNat :: UInt8.ofNat w.d.toNat :: (clB w ++ usB w))) := by
          unfold whB
          rw [if_neg h11]
          unfold moB moN
          rw [if_neg hz, if_neg hd, if_neg hd]
          simp
        have hlen : (leB 2 w.y.toNat ++ (UInt8.ofNat w.mo.toNat :: UInt8.ofNat w.d.toNat :: (clB w ++ usB w))).length = if w.us = 0 then 7 else 11 := by
          simp only [List.length_cons, List.length_append, leB_len, hul, clB, List.length_nil]
          split <;> rfl
        refine ⟨_, _, hB, by rw [hlen]; split <;> rfl, ?_, fun h => absurd h h11, fun _ => ?_⟩
        · rw [hlen]; unfold knW szL; rw [if_neg h11]; split <;> rfl
        · rw [hlen]
          have hb := mo_back h11 hf (K := clB w ++ (usB w ++ List.replicate (13 - if w.us = 0 then 7 else 11) 0)) (U := usB w ++ List.replicate (13 - if w.us = 0 then 7 else 11) 0) rfl (us_back u0 u1 (fun h => by rw [if_pos h]; decide))
          simpa using hb

theorem rdW_back {w : Wh} {t : Nat} (hf : fin w t = true) (E : List UInt8) : rdW (whB w t ++ E) t = (w, (whB w t).length, 0) := by
  obtain ⟨L, body, hB, hL, hk, h1, h2⟩ := wh_form hf
  rw [hB, List.cons_append]
  unfold rdW
  rw [if_neg (by simp), cW_of hL rfl]
  simp only [List.headD_cons, hL]
  rw [if_neg (by rw [hk]; simp), if_neg (by simp; omega)]
  by_cases h11 : t = 11
  · obtain ⟨q1, q2⟩ := h1 h11
    rw [if_pos h11, if_neg q2, q1, if_neg (by rw [hf]; simp), List.length_cons, Nat.add_comm]
  · have q1 := h2 h11
    rw [if_neg h11, q1, if_neg (by rw [hf]; simp), List.length_cons, Nat.add_comm]
theorem rdW_less {w : Wh} {t k : Nat} (hf : fin w t = true) (hk : k < (whB w t).length) : rdW ((whB w t).take k) t = ({}, 0, 4) := by
  obtain ⟨L, body, hB, hL, hk', h1, h2⟩ := wh_form hf
  rw [hB] at hk ⊢
  match k with
  | 0 => rfl
  | k + 1 =>
    rw [List.take_succ_cons]
    unfold rdW
    simp only [List.headD_cons, hL]
    rw [if_neg (by simp), if_neg (by rw [hk']; simp), if_pos]
    rw [List.length_cons] at hk ⊢
    rw [List.length_take]
    omega

theorem val_back {v : Va} {t : Ty} (h : chkV v t = 0) (hk : v.k ≠ 0) (hv : v.b < 18446744073709551616) (hi : -9223372036854775808 ≤ v.i ∧ v.i < 9223372036854775808) (E : List UInt8) : rdV (enV v t ++ E) t = (v, (enV v t).length, 0) := by
  have hok : okVa v t = true := by
    rcases chk_ok h with h | h
    · subst h; exact absurd rfl hk
    · exact h
  unfold okVa okVk at hok
  unfold rdV enV
  by_cases k1 : v.k = 1
  · rw [if_pos k1] at hok
    simp only [Bool.and_eq_true, decide_eq_true_eq] at hok
    obtain ⟨q1, q2, q3⟩ := hok
    have hs := size_num (t := t.t) (u := t.u) (.inl q1)
    rw [q1, if_neg (by decide), if_neg (by decide), if_neg (by decide), if_neg (by decide), if_pos k1, rfR_back _ E (by omega) (by omega)]
    simp only [ne_eq, not_true_eq_false, if_false, if_true, leB_len]
    rw [sg_back hs hi.1 hi.2 q3, ← q2]
  rw [if_neg k1] at hok ⊢
  by_cases k2 : v.k = 2 ∨ v.k = 3 ∨ v.k = 4
  · rw [if_pos k2] at hok ⊢
    simp only [Bool.and_eq_true, decide_eq_true_eq] at hok
    obtain ⟨q1, q2, q3⟩ := hok
    have hs := size_num (t := t.t) (u := t.u) (by rw [q1]; omega)
    have hb : v.b < 256 ^ sizeN t.t := by
      unfold okB at q3
      simp only [Bool.or_eq_true, decide_eq_true_eq] at q3
      rcases hs with h | h | h | h <;> rw [h] at q3 ⊢ <;> simp only [Nat.reducePow, Nat.reduceMul] at q3 ⊢ <;> omega
    rw [q1, if_neg (by omega), if_neg (by omega), if_neg (by omega), if_neg (by omega), rfR_back _ E (by omega) (by omega)]
    simp only [ne_eq, not_true_eq_false, if_false, leB_len]
    rw [if_neg k1, Nat.mod_eq_of_lt hb, Int.toNat_natCast, ← q2]
  rw [if_neg k2] at hok ⊢
  by_cases k5 : v.k = 5 ∨ v.k = 6
  · rw [if_pos k5] at hok ⊢
    simp only [Bool.and_eq_true, decide_eq_true_eq] at hok
    obtain ⟨q1, q2, q3⟩ := hok
    rw [q1, if_neg (by omega), if_neg (by omega), if_pos k5, rdW_back q3]
    simp only [ne_eq, not_true_eq_false, if_false]
    rw [← q2]
  rw [if_neg k5] at hok ⊢
  by_cases k7 : v.k = 7
  · rw [if_pos k7] at hok ⊢
    simp only [Bool.and_eq_true, decide_eq_true_eq] at hok
    obtain ⟨q1, q2, q3⟩ := hok
    rw [q1, if_neg (by decide), if_neg (by decide), if_neg (by decide), if_pos rfl, rdT_back (by omega)]
    simp only [ne_eq, not_true_eq_false, if_false]
    rw [if_neg (by omega), ← q2]
  · rw [if_neg k7] at hok; cases hok

theorem val_less {v : Va} {t : Ty} {n : Nat} (h : chkV v t = 0) (hk : v.k ≠ 0) (hn : n < (enV v t).length) : (rdV ((enV v t).take n) t).2.2 = 4 := by
  have hok : okVa v t = true := by
    rcases chk_ok h with h | h
    · subst h; exact absurd rfl hk
    · exact h
  unfold okVa okVk at hok
  unfold enV at hn ⊢
  unfold rdV
  by_cases k1 : v.k = 1
  · rw [if_pos k1] at hok
    simp only [Bool.and_eq_true, decide_eq_true_eq] at hok
    obtain ⟨q1, q2, q3⟩ := hok
    have hs := size_num (t := t.t) (u := t.u) (.inl q1)
    rw [if_pos k1] at hn ⊢
    rw [leB_len] at hn
    rw [q1, if_neg (by decide), if_neg (by decide), if_neg (by decide), if_neg (by decide), rfR_less _ (by omega) (by omega) hn]
    rfl
  rw [if_neg k1] at hok hn ⊢
  by_cases k2 : v.k = 2 ∨ v.k = 3 ∨ v.k = 4
  · rw [if_pos k2] at hok hn ⊢
    simp only [Bool.and_eq_true, decide_eq_true_eq] at hok
    obtain ⟨q1, q2, q3⟩ := hok
    have hs := size_num (t := t.t) (u := t.u) (by rw [q1]; omega)
    rw [leB_len] at hn
    rw [q1, if_neg (by omega), if_neg (by omega), if_neg (by omega), if_neg (by omega), rfR_less _ (by omega) (by omega) hn]
    rfl
  rw [if_neg k2] at hok hn ⊢
  by_cases k5 : v.k = 5 ∨ v.k = 6
  · rw [if_pos k5] at hok hn ⊢
    simp only [Bool.and_eq_true, decide_eq_true_eq] at hok
    obtain ⟨q1, q2, q3⟩ := hok
    rw [q1, if_neg (by omega), if_neg (by omega), if_pos k5, rdW_less q3 hn]
    rfl
  rw [if_neg k5] at hok hn ⊢
  by_cases k7 : v.k = 7
  · rw [if_pos k7] at hok hn ⊢
    simp only [Bool.and_eq_true, decide_eq_true_eq] at hok
    obtain ⟨q1, q2, q3⟩ := hok
    rw [q1, if_neg (by decide), if_neg (by decide), if_neg (by decide), if_pos rfl, rdT_less (by omega) hn]
    rfl
  · rw [if_neg k7] at hok; cases hok

end Go.Proofs.YtifgkkfchnfcaaaDoor
