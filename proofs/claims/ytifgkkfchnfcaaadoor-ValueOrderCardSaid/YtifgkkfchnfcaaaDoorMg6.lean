/- U4 to E3: texts of this claim, one behind the other; what each shows stands at its head. -/
import Derived.Test.YtifgkkfchnfcaaaDoorAm3
import Derived.Test.YtifgkkfchnfcaaaDoorMg5
/- Plain: what is read as a value may be one, and its own bytes are no more. -/
namespace Go.Proofs.YtifgkkfchnfcaaaDoor
open Go.AM
set_option linter.unusedSimpArgs false
set_option linter.unusedVariables false

/-- a value may be, and is written in n bytes or less -/
def Fine (v : Va) (t : Ty) (n : Nat) : Prop := chkV v t = 0 ∧ (v.k = 0 → t.t = 6 ∧ v = {}) ∧ (enV v t).length ≤ n ∧ v.b < 18446744073709551616 ∧ -9223372036854775808 ≤ v.i ∧ v.i < 9223372036854775808

theorem kind0 {t : Nat} {u : Bool} (h : kindN t u = 0) : t = 6 := by
  unfold kindN at h
  repeat' split at h
  all_goals first | omega | (cases h)

theorem chk_of {v : Va} {t : Ty} (hk : ¬ kindN t.t t.u < 0) (h : okVa v t = true) : chkV v t = 0 := by
  unfold chkV
  rw [if_neg hk, h]
  split <;> rfl

theorem nb_zero {c : List UInt8} {i k m : Nat} (h : c.drop i = List.replicate m 0) : nb c i k = 0 := by
  unfold nb
  rw [h, List.take_replicate]
  exact leV_zeros _
theorem cW_drop {b : List UInt8} {i : Nat} (hb : 1 + (b.headD 0).toNat ≤ b.length) (hi : (b.headD 0).toNat ≤ i) : (cW b).drop i = List.replicate (13 - i) 0 := by
  unfold cW
  simp only
  generalize (b.headD 0).toNat = n at *
  have hl : ((b.drop 1).take n).length = n := by rw [List.length_take, List.length_drop]; omega
  rw [List.drop_append, List.drop_of_length_le (by omega), List.nil_append, hl, List.drop_replicate]
  congr 1
  omega

theorem spB_len (w : Wh) : (spB w).length = if w = {} then 1 else if w.us = 0 then 9 else 13 := by
  unfold spB usB clB
  split
  · rfl
  · split
    · simp [leB_len]
    · simp [leB_len]
theorem moB_len (w : Wh) : (moB w).length = if w = {} then 1 else (5 + (if w = { y := w.y, mo := w.mo, d := w.d } then 0 else 3)) + (if w.us = 0 then 0 else 4) := by
  unfold moB usB clB
  split
  · rfl
  · split <;> split <;> simp [leB_len]

theorem rdW_fine {b : List UInt8} {t : Nat} (h : (rdW b t).2.2 = 0) : fin (rdW b t).1 t = true ∧ (whB (rdW b t).1 t).length ≤ (rdW b t).2.1 ∧ (rdW b t).2.1 ≤ b.length := by
  unfold rdW at h ⊢
  by_cases h0 : b.length = 0
  · rw [if_pos h0] at h; simp at h
  rw [if_neg h0] at h ⊢
  by_cases h1 : knW (b.headD 0).toNat t = false
  · rw [if_pos h1] at h; simp at h
  rw [if_neg h1] at h ⊢
  by_cases h2 : b.length < 1 + (b.headD 0).toNat
  · rw [if_pos h2] at h; simp at h
  rw [if_neg h2] at h ⊢
  have hd := fun i hi => cW_drop (b := b) (i := i) (by omega) hi
  have hkn : knW (b.headD 0).toNat t = true := by simpa using h1
  unfold knW szL at hkn
  by_cases ht : t = 11
  · rw [if_pos ht] at h ⊢
    rw [if_pos ht] at hkn
    by_cases h3 : 1 < ((cW b).headD 0).toNat
    · rw [if_pos h3] at h; simp at h
    rw [if_neg h3] at h ⊢
    by_cases h4 : fin (spW (cW b)) t = false
    · rw [if_pos h4] at h; simp at h
    rw [if_neg h4]
    refine ⟨by simpa using h4, ?_, by simp only; omega⟩
    simp only
    unfold whB
    rw [if_pos ht, spB_len]
    have hn : (b.headD 0).toNat = 0 ∨ (b.headD 0).toNat = 8 ∨ (b.headD 0).toNat = 12 := by
      clear hd h h2 h4
      generalize (b.headD 0).toNat = hh at *
      simp at hkn; omega
    by_cases h12 : (b.headD 0).toNat = 12
    · rw [h12]; repeat' split
      all_goals omega
    have hus : (spW (cW b)).us = 0 := by
      show ((nb (cW b) 8 4 : Nat) : Int) = 0
      rw [nb_zero (hd 8 (by omega))]; rfl
    by_cases hz : (b.headD 0).toNat = 0
    · have hw : spW (cW b) = {} := by
        have hc : cW b = List.replicate 13 0 := by
          have := hd 0 (by omega)
          rwa [List.drop_zero] at this
        rw [hc]; rfl
      rw [if_pos hw]; omega
    · rw [hus]; repeat' split
      all_goals omega
  · rw [if_neg ht] at h ⊢
    rw [if_neg ht] at hkn
    by_cases h4 : fin (moW (cW b)) t = false
    · rw [if_pos h4] at h; simp at h
    rw [if_neg h4]
    refine ⟨by simpa using h4, ?_, by simp only; omega⟩
    simp only
    unfold whB
    rw [if_neg ht, moB_len]
    have hn : (b.headD 0).toNat = 0 ∨ (b.headD 0).toNat = 4 ∨ (b.headD 0).toNat = 7 ∨ (b.headD 0).toNat = 11 := by
      clear hd h h2 h4
      generalize (b.headD 0).toNat = hh at *
      simp at hkn; omega
    by_cases h11 : (b.headD 0).toNat = 11
    · rw [h11]; repeat' split
      all_goals omega
    have hus : (moW (cW b)).us = 0 := by
      show ((nb (cW b) 7 4 : Nat) : Int) = 0
      rw [nb_zero (hd 7 (by omega))]; rfl
    by_cases hz : (b.headD 0).toNat = 0
    · have hw : moW (cW b) = {} := by
        have hc : cW b = List.replicate 13 0 := by
          have := hd 0 (by omega)
          rwa [List.drop_zero] at this
        rw [hc]; rfl
      rw [if_pos hw]; omega
    by_cases h44 : (b.headD 0).toNat = 4
    · have hw : moW (cW b) = { y := (moW (cW b)).y, mo := (moW (cW b)).mo, d := (moW (cW b)).d } := by
        unfold moW
        rw [nb_zero (i := 4) (hd 4 (by omega)), nb_zero (i := 5) (hd 5 (by omega)), nb_zero (i := 6) (hd 6 (by omega)), nb_zero (i := 7) (hd 7 (by omega))]
        rfl
      rw [if_pos hw, hus, if_pos rfl]
      split <;> omega
    · rw [hus, if_pos rfl]; repeat' split
      all_goals omega

theorem rdI_fine {b : List UInt8} (h : (rdI b).2.2 = 0) : szI (rdI b).1 ≤ (rdI b).2.1 := by
  unfold rdI at h ⊢
  match b with
  | [] => simp at h
  | y :: t =>
    simp only at h ⊢
    by_cases h1 : y.toNat = 251 ∨ y.toNat = 255
    · rw [if_pos h1] at h; simp at h
    rw [if_neg h1] at h ⊢
    by_cases h2 : y.toNat ≤ 250
    · rw [if_pos h2]; unfold szI; simp only; rw [if_pos h2]; omega
    rw [if_neg h2] at h ⊢
    have hy := y.toNat_lt
    by_cases h3 : t.length < bsz y.toNat
    · rw [if_pos h3] at h; simp at h
    rw [if_neg h3]
    simp only
    have h4 := leV_lt (t.take (bsz y.toNat))
    have h5 : (t.take (bsz y.toNat)).length = bsz y.toNat := by rw [List.length_take]; omega
    rw [h5] at h4
    have h6 : y.toNat = 252 ∨ y.toNat = 253 ∨ y.toNat = 254 := by omega
    generalize leV (t.take (bsz y.toNat)) = x at *
    unfold szI
    rcases h6 with h6 | h6 | h6
    · have : bsz y.toNat = 2 := by rw [h6]; rfl
      rw [this] at h4 ⊢
      simp only [Nat.reducePow] at h4
      repeat' split
      all_goals omega
    · have : bsz y.toNat = 3 := by rw [h6]; rfl
      rw [this] at h4 ⊢
      simp only [Nat.reducePow] at h4
      repeat' split
      all_goals omega
    · have : bsz y.toNat = 8 := by rw [h6]; rfl
      rw [this]
      repeat' split
      all_goals omega

theorem rdT_fine {b : List UInt8} (h : (rdT b).2.2 = 0) : (aT (rdT b).1).length ≤ (rdT b).2.1 := by
  have h0 := h
  unfold rdT at h ⊢
  by_cases h1 : (rdI b).2.2 ≠ 0
  · rw [if_pos h1] at h; exact absurd h h1
  rw [if_neg h1] at h ⊢
  have h1 : (rdI b).2.2 = 0 := by simpa using h1
  have hf := rdI_fine h1
  by_cases h2 : b.length - (rdI b).2.1 < (rdI b).1
  · rw [if_pos h2] at h; simp at h
  rw [if_neg h2]
  simp only
  have hl : ((b.drop (rdI b).2.1).take (rdI b).1).length = (rdI b).1 := by rw [List.length_take, List.length_drop]; omega
  unfold aT
  rw [List.length_append, aI_len, hl]
  omega

theorem sgV_bd (x : Int) {n : Nat} (hn : n = 1 ∨ n = 2 ∨ n = 4 ∨ n = 8) : okI (sgV x n) n = true ∧ -9223372036854775808 ≤ sgV x n ∧ sgV x n < 9223372036854775808 := by
  unfold sgV okI
  have hw : ∀ y : Int, -9223372036854775808 ≤ IntKind.i64.wrap y ∧ IntKind.i64.wrap y < 9223372036854775808 := by
    intro y
    simp only [IntKind.wrap, IntKind.signed, IntKind.bits]
    simp
    split <;> omega
  have hw := hw (IntKind.u64.wrap (x * 2 ^ (64 - 8 * n)))
  generalize IntKind.i64.wrap (IntKind.u64.wrap (x * 2 ^ (64 - 8 * n))) = y at *
  rcases hn with rfl | rfl | rfl | rfl
  · rw [Int.fdiv_eq_ediv_of_nonneg _ (by decide)]
    simp only [Nat.reduceMul, Nat.reduceSub, Int.reducePow, Bool.or_eq_true, decide_eq_true_eq]
    omega
  · rw [Int.fdiv_eq_ediv_of_nonneg _ (by decide)]
    simp only [Nat.reduceMul, Nat.reduceSub, Int.reducePow, Bool.or_eq_true, decide_eq_true_eq]
    omega
  · rw [Int.fdiv_eq_ediv_of_nonneg _ (by decide)]
    simp only [Nat.reduceMul, Nat.reduceSub, Int.reducePow, Bool.or_eq_true, decide_eq_true_eq]
    omega
  · rw [Int.fdiv_eq_ediv_of_nonneg _ (by decide)]
    simp only [Nat.reduceMul, Nat.reduceSub, Int.reducePow, Bool.or_eq_true, decide_eq_true_eq]
    omega

theorem val_fine {b : List UInt8} {t : Ty} (h : (rdV b t).2.2 = 0) : Fine (rdV b t).1 t (rdV b t).2.1 ∧ (rdV b t).2.1 ≤ b.length := by
  unfold rdV at h ⊢
  by_cases h0 : kindN t.t t.u < 0
  · rw [if_pos h0] at h; simp at h
  rw [if_neg h0] at h ⊢
  by_cases h1 : kindN t.t t.u = 0
  · rw [if_pos h1]
    refine ⟨⟨?_, fun _ => ⟨kind0 h1, rfl⟩, by simp [enV], by decide, by decide, by decide⟩, Nat.zero_le _⟩
    unfold chkV; rw [if_neg h0, if_pos rfl]
  rw [if_neg h1] at h ⊢
  by_cases h5 : kindN t.t t.u = 5 ∨ kindN t.t t.u = 6
  · rw [if_pos h5] at h ⊢
    by_cases he : (rdW b t.t).2.2 ≠ 0
    · rw [if_pos he] at h; exact absurd h he
    rw [if_neg he]
    obtain ⟨q1, q2, q3⟩ := rdW_fine (b := b) (t := t.t) (by simpa using he)
    refine ⟨⟨chk_of h0 ?_, fun hk => absurd hk h1, ?_, (show (0 : Nat) < 18446744073709551616 by decide), (show (-9223372036854775808 : Int) ≤ 0 by decide), (show (0 : Int) < 9223372036854775808 by decide)⟩, q3⟩
    · unfold okVa okVk
      simp only
      rw [if_neg (by omega), if_neg (by omega), if_pos h5, q1]
      simp
    · unfold enV
      simp only
      rw [if_neg (by omega), if_neg (by omega), if_pos h5]
      exact q2
  rw [if_neg h5] at h ⊢
  by_cases h7 : kindN t.t t.u = 7
  · rw [if_pos h7] at h ⊢
    by_cases he : (rdT b).2.2 ≠ 0
    · rw [if_pos he] at h; exact absurd h he
    rw [if_neg he] at h ⊢
    by_cases hl : 16777216 < (rdT b).1.length
    · rw [if_pos hl] at h; simp at h
    rw [if_neg hl]
    have he : (rdT b).2.2 = 0 := by simpa using he
    refine ⟨⟨chk_of h0 ?_, fun hk => absurd hk (show ¬ (7 : Int) = 0 by decide), ?_, (show (0 : Nat) < 18446744073709551616 by decide), (show (-9223372036854775808 : Int) ≤ 0 by decide), (show (0 : Int) < 9223372036854775808 by decide)⟩, (rdT_le he).1⟩
    · unfold okVa okVk
      simp only
      rw [if_neg (by decide), if_neg (by decide), if_neg (by decide), if_pos trivial, h7, decide_eq_true (show (rdT b).1.length ≤ 16777216 by omega)]
      simp
    · unfold enV
      simp only
      rw [if_neg (by decide), if_neg (by decide), if_neg (by decide), if_pos trivial]
      exact rdT_fine he
  rw [if_neg h7] at h ⊢
  have hkb := kind_bd t.t t.u
  have hs := size_num (t := t.t) (u := t.u) (by omega)
  have hs8 : 1 ≤ sizeN t.t ∧ sizeN t.t ≤ 8 := by omega
  by_cases he : (rfR b (sizeN t.t)).2 ≠ 0
  · rw [if_pos he] at h; exact absurd h he
  rw [if_neg he] at h ⊢
  have hbl : sizeN t.t ≤ b.length := by
    unfold rfR at he
    rw [if_neg (by omega)] at he
    by_cases hb : (b.length : Int) < (sizeN t.t : Nat)
    · rw [if_pos hb] at he; exact absurd (show (4 : Int) ≠ 0 by decide) he
    · omega
  have hx : 0 ≤ (rfR b (sizeN t.t)).1 ∧ (rfR b (sizeN t.t)).1 < 256 ^ sizeN t.t := by
    unfold rfR
    rw [if_neg (by omega), if_neg (by omega)]
    simp only [Int.toNat_natCast]
    have h4 := leV_lt (b.take (sizeN t.t))
    have h5 : (b.take (sizeN t.t)).length = sizeN t.t := by rw [List.length_take]; omega
    rw [h5] at h4
    constructor
    · omega
    · have h6 := Int.ofNat_lt.2 h4
      rw [Int.natCast_pow] at h6
      exact h6
  generalize (rfR b (sizeN t.t)).1 = x at *
  by_cases hk1 : kindN t.t t.u = 1
  · rw [if_pos hk1]
    obtain ⟨s1, s2, s3⟩ := sgV_bd x hs
    refine ⟨⟨chk_of h0 ?_, fun hk => absurd hk (show ¬ (1 : Int) = 0 by decide), ?_, (show (0 : Nat) < 18446744073709551616 by decide), s2, s3⟩, hbl⟩
    · unfold okVa okVk
      simp only
      rw [if_pos trivial, hk1, s1]
      simp
    · unfold enV
      simp only
      rw [if_pos trivial, leB_len]
      exact Nat.le_refl _
  · rw [if_neg hk1]
    have hp : (256 : Nat) ^ sizeN t.t ≤ 18446744073709551616 := by
      have := Nat.pow_le_pow_right (n := 256) (by omega) hs8.2
      simpa using this
    have hxn : x.toNat < 256 ^ sizeN t.t := by
      have : ((256 ^ sizeN t.t : Nat) : Int) = (256 : Int) ^ sizeN t.t := by simp
      omega
    refine ⟨⟨chk_of h0 ?_, fun hk => absurd hk h1, ?_, by simp only; omega, (show (-9223372036854775808 : Int) ≤ 0 by decide), (show (0 : Int) < 9223372036854775808 by decide)⟩, hbl⟩
    · unfold okVa okVk
      simp only
      rw [if_neg hk1, if_pos (by omega)]
      have : okB x.toNat (sizeN t.t) = true := by
        unfold okB
        rw [Bool.or_eq_true, decide_eq_true_eq, decide_eq_true_eq]
        right
        rw [Nat.pow_mul]; exact hxn
      rw [this]; simp
    · unfold enV
      simp only
      rw [if_neg hk1, if_pos (by omega), leB_len]
      exact Nat.le_refl _

theorem chk_kn0 {v : Va} {t : Ty} (h : chkV v t = 0) (h6 : t.t = 6) : kindN t.t t.u = 0 := by
  unfold chkV at h
  by_cases hk : kindN t.t t.u < 0
  · rw [if_pos hk] at h; cases h
  · rw [h6] at hk ⊢
    unfold kindN at hk ⊢
    split
    · rename_i h1; rw [if_pos h1] at hk; exact absurd (by decide) hk
    · simp

/-- a value that is read is written, and read back -/
theorem val_again {b : List UInt8} {t : Ty} (h : (rdV b t).2.2 = 0) : apV [] (rdV b t).1 t = (enV (rdV b t).1 t, 0) ∧ rdV (enV (rdV b t).1 t) t = ((rdV b t).1, (enV (rdV b t).1 t).length, 0) := by
  obtain ⟨⟨q1, q2, q3, q4⟩, q5⟩ := val_fine h
  generalize (rdV b t).1 = v at *
  have ha : apOk v t = true := by
    unfold apOk
    rw [q1]
    by_cases hk : v.k = 0
    · rw [(q2 hk).1]; simp
    · simp [hk]
  refine ⟨by unfold apV; rw [if_pos ha, List.nil_append], ?_⟩
  by_cases hk : v.k = 0
  · obtain ⟨h6, hv⟩ := q2 hk
    subst hv
    have hkn := chk_kn0 q1 h6
    unfold rdV
    rw [hkn, if_neg (by decide), if_pos rfl]
    rfl
  · have := val_back q1 hk q4.1 q4.2 []
    rwa [List.append_nil] at this

end Go.Proofs.YtifgkkfchnfcaaaDoor

/- Walks: a value read: whole. -/
namespace Go.Proofs.YtifgkkfchnfcaaaDoor
open Go.AM
set_option linter.unusedSimpArgs false
set_option linter.unusedVariables false

section
variable (c : Nat) (b : List UInt8) (t : Ty)

set_option maxRecDepth 100000 in
set_option maxHeartbeats 4000000 in
theorem vread_code (hc : c = 0 → b = []) (ht : t.t < 256) (hbm : b.length ≤ 90000000) :
    ∃ code, Tryd.f17.body = some code ∧
    Tells (Rets (rvQ (rdV b t))) X (evT X) 17 0 code [(0, .ro c (.pb b) 1), (1, .agg t.pay)] [] := by
  refine ⟨_, rfl, ?_⟩
  have hK := kind_ev ht [some (tyO t), some (vaO {})]
  have hbd := kind_bd t.t t.u
  have hB : Byt [some (tyO t), some (vaO {})] (.ro c (.pb b) 1) b := Byt.ro (.inl rfl) hc
  have hb0 := bvV0
  apply Tells.seq (fr' := [(0, .ro c (.pb b) 1), (3, .ptr 0 0 0 0), (4, .ptr 1 0 0 0)]) (H' := [some (tyO t), some (vaO {})])
  · (refine ⟨0, ?_⟩; simp (maxSteps := 2000000) -implicitDefEqProofs [-getElem?_pos, List.getElem?_cons_zero, List.getElem?_cons_succ, go_sem, eqV, plen, loadV, storeV, tyO, Ty.pay, vaO, Va.pay])
  apply Tells.seq (fr' := [(0, .ro c (.pb b) 1), (3, .ptr 0 0 0 0), (4, .ptr 1 0 0 0), (7, .int .i64 (kindN t.t t.u))]) (H' := [some (tyO t), some (vaO {})])
  · simp only [tyO, Ty.pay, vaO, Va.pay, Int.cast_ofNat_Int] at hK
    generalize kindN t.t t.u = k at *
    (refine ⟨0, ?_⟩; simp (maxSteps := 2000000) -implicitDefEqProofs [-getElem?_pos, List.getElem?_cons_zero, List.getElem?_cons_succ, go_sem, eqV, plen, loadV, storeV, tyO, Ty.pay, vaO, Va.pay, mkTy, hK])
  clear hK
  apply Tells.assoc
  apply Tells.seq (fr' := [(0, .ro c (.pb b) 1), (3, .ptr 0 0 0 0), (4, .ptr 1 0 0 0), (7, .int .i64 (kindN t.t t.u)), (19, .int .i64 (kindN t.t t.u))]) (H' := [some (tyO t), some (vaO {})])
  · generalize kindN t.t t.u = k at *
    (refine ⟨0, ?_⟩; simp (maxSteps := 2000000) -implicitDefEqProofs [-getElem?_pos, List.getElem?_cons_zero, List.getElem?_cons_succ, go_sem, eqV, plen, loadV, storeV])
  apply Tells.or (P := fun fr H => fr = [(0, .ro c (.pb b) 1), (3, .ptr 0 0 0 0), (4, .ptr 1 0 0 0), (7, .int .i64 (kindN t.t t.u)), (45, .bool false)] ∧ H = [some (tyO t), some (vaO {})] ∧ (kindN t.t t.u = 1 ∨ kindN t.t t.u = 2 ∨ kindN t.t t.u = 3 ∨ kindN t.t t.u = 4))
  · apply Tells.blkOr (hq := fun o h => by rw [h.1]; simp)
    simp only [Va.pay, Int.cast_ofNat_Int] at hb0
    by_cases h1 : kindN t.t t.u < 0
    · have hm : kindN t.t t.u = -1 := by omega
      have hr : rdV b t = ({}, 0, 2) := if_pos h1
      rw [hr, hm]
      refine Tells.of (o := ⟨.ret, [(4, .ptr 1 0 0 0), (5, .int .i64 0), (6, .int .i64 2)], [some (tyO t), some (vaO {})]⟩) ⟨0, ?_⟩ (.inr ⟨by simp, rfl, rfl, rfl, rfl, rfl⟩)
      simp (maxSteps := 2000000) -implicitDefEqProofs [-getElem?_pos, List.getElem?_cons_zero, List.getElem?_cons_succ, go_sem, eqV, plen, loadV, storeV, tyO, Ty.pay, vaO, Va.pay, hb0, mkVa, flatCells, splice, scalars]
    have e1 : (kindN t.t t.u == -1) = false := beq_eq_false_iff_ne.2 (by omega)
    by_cases h2 : kindN t.t t.u = 0
    · have hr : rdV b t = ({}, 0, 0) := by unfold rdV; rw [if_neg h1, if_pos h2]
      rw [hr, h2]
      refine Tells.of (o := ⟨.ret, [(4, .ptr 1 0 0 0), (5, .int .i64 0), (6, .int .i64 0)], [some (tyO t), some (vaO {})]⟩) ⟨0, ?_⟩ (.inr ⟨by simp, rfl, rfl, rfl, rfl, rfl⟩)
      simp (maxSteps := 2000000) -implicitDefEqProofs [-getElem?_pos, List.getElem?_cons_zero, List.getElem?_cons_succ, go_sem, eqV, plen, loadV, storeV, tyO, Ty.pay, vaO, Va.pay, hb0, mkVa, flatCells, splice, scalars]
    have e2 : (kindN t.t t.u == 0) = false := beq_eq_false_iff_ne.2 h2
    by_cases h5 : kindN t.t t.u = 5 ∨ kindN t.t t.u = 6
    · have hr : rdV b t = if (rdW b t.t).2.2 ≠ 0 then ({}, 0, (rdW b t.t).2.2) else ({ k := kindN t.t t.u, w := (rdW b t.t).1 }, (rdW b t.t).2.1, 0) := by
        unfold rdV; rw [if_neg h1, if_neg h2, if_pos h5]
      rw [hr]
      have hW := rw_ev hB ht hbm
      generalize rdW b t.t = r at *
      obtain ⟨w, n, e⟩ := r
      have hbw := fun k => bvVw k w
      simp only [Wh.pay, Va.pay, Int.cast_ofNat_Int] at hbw
      simp only at *
      by_cases he : e = 0
      · subst he
        rw [if_neg (by simp)]
        refine Tells.of (o := ⟨.ret, [(4, .ptr 1 0 0 0), (5, .int .i64 (n : Nat)), (6, .int .i64 0)], [some (tyO t), some (vaO { k := kindN t.t t.u, w := w }), some (whO w)]⟩) ⟨0, ?_⟩ (.inr ⟨by simp, rfl, rfl, rfl, rfl, rfl⟩)
        simp only [tyO, Ty.pay, vaO, Va.pay, Wh.pay, Int.cast_ofNat_Int] at hW
        rcases h5 with h5 | h5 <;> rw [h5]
        · simp (maxSteps := 2000000) -implicitDefEqProofs [-getElem?_pos, List.getElem?_cons_zero, List.getElem?_cons_succ, go_sem, eqV, plen, loadV, storeV, tyO, Ty.pay, vaO, Va.pay, whO, Wh.pay, hW, hbw, mkVa, mkWh, flatCells, splice, scalars]
        · simp (maxSteps := 2000000) -implicitDefEqProofs [-getElem?_pos, List.getElem?_cons_zero, List.getElem?_cons_succ, go_sem, eqV, plen, loadV, storeV, tyO, Ty.pay, vaO, Va.pay, whO, Wh.pay, hW, hbw, mkVa, mkWh, flatCells, splice, scalars]
      · have heb : (e != 0) = true := by simpa using he
        rw [if_pos he]
        refine Tells.of (o := ⟨.ret, [(4, .ptr 1 0 0 0), (5, .int .i64 0), (6, .int .i64 e)], [some (tyO t), some (vaO {}), some (whO w)]⟩) ⟨0, ?_⟩ (.inr ⟨by simp, rfl, rfl, rfl, rfl, rfl⟩)
        simp only [tyO, Ty.pay, vaO, Va.pay, Wh.pay, Int.cast_ofNat_Int] at hW
        rcases h5 with h5 | h5 <;> rw [h5]
        · simp (maxSteps := 2000000) -implicitDefEqProofs [-getElem?_pos, List.getElem?_cons_zero, List.getElem?_cons_succ, go_sem, eqV, plen, loadV, storeV, tyO, Ty.pay, vaO, Va.pay, whO, Wh.pay, hW, hb0, heb, mkVa, mkWh, flatCells, splice, scalars]
        · simp (maxSteps := 2000000) -implicitDefEqProofs [-getElem?_pos, List.getElem?_cons_zero, List.getElem?_cons_succ, go_sem, eqV, plen, loadV, storeV, tyO, Ty.pay, vaO, Va.pay, whO, Wh.pay, hW, hb0, heb, mkVa, mkWh, flatCells, splice, scalars]
    have e5 : (kindN t.t t.u == 5) = false := beq_eq_false_iff_ne.2 (by omega)
    have e6 : (kindN t.t t.u == 6) = false := beq_eq_false_iff_ne.2 (by omega)
    by_cases h7 : kindN t.t t.u = 7
    · have hr : rdV b t = if (rdT b).2.2 ≠ 0 then ({}, 0, (rdT b).2.2) else if 16777216 < (rdT b).1.length then ({}, 0, 5) else ({ k := 7, t := (rdT b).1 }, (rdT b).2.1, 0) := by
        unfold rdV; rw [if_neg h1, if_neg h2, if_neg h5, if_pos h7]
      rw [hr, h7]
      have hT := readText_ev hB hbm
      generalize rdT b = r at *
      obtain ⟨s, n, e⟩ := r
      have hbt := fun k => bvVt k s
      simp only [Va.pay, Int.cast_ofNat_Int] at hbt
      simp only at *
      simp only [tyO, Ty.pay, vaO, Va.pay, Int.cast_ofNat_Int] at hT
      by_cases he : e = 0
      · subst he
        rw [if_neg (by simp)]
        by_cases hs : 16777216 < s.length
        · rw [if_pos hs]
          have hsi : (16777216 : Int) < (s.length : Int) := by omega
          refine Tells.of (o := ⟨.ret, [(4, .ptr 1 0 0 0), (5, .int .i64 0), (6, .int .i64 5)], [some (tyO t), some (vaO {})]⟩) ⟨0, ?_⟩ (.inr ⟨by simp, rfl, rfl, rfl, rfl, rfl⟩)
          simp (maxSteps := 2000000) -implicitDefEqProofs [-getElem?_pos, List.getElem?_cons_zero, List.getElem?_cons_succ, go_sem, eqV, plen, loadV, storeV, tyO, Ty.pay, vaO, Va.pay, hT, hb0, hsi, hs, mkVa, flatCells, splice, scalars]
        · rw [if_neg hs]
          have hsi : ¬ (16777216 : Int) < (s.length : Int) := by omega
          refine Tells.of (o := ⟨.ret, [(4, .ptr 1 0 0 0), (5, .int .i64 (n : Nat)), (6, .int .i64 0)], [some (tyO t), some (vaO { k := 7, t := s })]⟩) ⟨0, ?_⟩ (.inr ⟨by simp, rfl, rfl, rfl, rfl, rfl⟩)
          simp (maxSteps := 2000000) -implicitDefEqProofs [-getElem?_pos, List.getElem?_cons_zero, List.getElem?_cons_succ, go_sem, eqV, plen, loadV, storeV, tyO, Ty.pay, vaO, Va.pay, hT, hbt, hsi, hs, mkVa, flatCells, splice, scalars]
      · have heb : (e != 0) = true := by simpa using he
        rw [if_pos he]
        refine Tells.of (o := ⟨.ret, [(4, .ptr 1 0 0 0), (5, .int .i64 0), (6, .int .i64 e)], [some (tyO t), some (vaO {})]⟩) ⟨0, ?_⟩ (.inr ⟨by simp, rfl, rfl, rfl, rfl, rfl⟩)
        simp (maxSteps := 2000000) -implicitDefEqProofs [-getElem?_pos, List.getElem?_cons_zero, List.getElem?_cons_succ, go_sem, eqV, plen, loadV, storeV, tyO, Ty.pay, vaO, Va.pay, hT, hb0, heb, mkVa, flatCells, splice, scalars]
    have e7 : (kindN t.t t.u == 7) = false := beq_eq_false_iff_ne.2 h7
    refine Tells.of (o := ⟨.normal, [(0, .ro c (.pb b) 1), (3, .ptr 0 0 0 0), (4, .ptr 1 0 0 0), (7, .int .i64 (kindN t.t t.u)), (45, .bool false)], [some (tyO t), some (vaO {})]⟩) ⟨0, ?_⟩ (.inl ⟨rfl, rfl, rfl, by omega⟩)
    generalize kindN t.t t.u = k at *
    simp (maxSteps := 2000000) -implicitDefEqProofs [-getElem?_pos, List.getElem?_cons_zero, List.getElem?_cons_succ, go_sem, eqV, plen, loadV, storeV, e1, e2, e5, e6, e7]
  rintro fr H ⟨rfl, rfl, hk⟩
  exact piece (vread_num c b t hc ht hbm hk) _ rfl

end

theorem vread_ev {H : AM.Heap} {a : AV} {b : List UInt8} {t : Ty} (h : Byt H a b) (ht : t.t < 256) (hbm : b.length ≤ 90000000) :
    evT X 17 [a, .agg t.pay] H = some (.tup [.agg (rdV b t).1.pay, .int .i64 ((rdV b t).2.1 : Nat), .int .i64 (rdV b t).2.2], H) := by
  obtain ⟨c, p, xl, hp, hc, hx'⟩ := args_byt (C := X) (f := 17) (i := 0) rfl h (args_ty (f := 17) (i := 1) (t := t) (args_nil 2))
  obtain ⟨code, hcode, o, ⟨he, q4, q0, q5, q6⟩, hr⟩ := vread_code c b t hc ht hbm
  refine evT_eq (Ev1.toldP (l := [.agg (rdV b t).1.pay, .int .i64 ((rdV b t).2.1 : Nat), .int .i64 (rdV b t).2.2]) (evT_below X) Tryd.func17 hcode hx' (by simp [idsL, ids, Ty.pay]) (by simp [gtag]) (by simp [idsL, ids, Va.pay]) (by simp [tagsL, tags, Va.pay]) rfl ⟨o, ⟨he, ?_⟩, by rw [par17, coB hp]; exact hr⟩)
  generalize rdV b t = r at *
  show resultsV X o.fr o.H [.cell 4 27, .tmp 5, .tmp 6] = _
  simp only [vaO, Va.pay] at q0
  simp [resultsV, q4, q5, q6, loadV, live, q0, pagg, mkVa, Va.pay]

theorem rdW_le (b : List UInt8) (t : Nat) : (rdW b t).2.1 ≤ b.length := by
  unfold rdW
  repeat' split
  all_goals (try exact Nat.zero_le _)
  all_goals (simp only; omega)

end Go.Proofs.YtifgkkfchnfcaaaDoor

/- Walks: the document's reader of fields: texts, bytes 0. -/
namespace Go.Proofs.YtifgkkfchnfcaaaDoor
open Go.AM
set_option linter.unusedSimpArgs false
set_option linter.unusedVariables false

/-- a counted text off what is left -/
def rtF (s : St) : List UInt8 × St := if s.2 ≠ 0 then ([], s) else ((rdT s.1).1, s.1.drop (rdT s.1).2.1, (rdT s.1).2.2)
/-- n bytes 0 off what is left -/
def zrS (n : Nat) (s : St) : St := ((fx n s).2.1, wr ((bts n s).any (· != 0)) (fx n s).2.2)

theorem rdT_bad {b : List UInt8} (h : (rdT b).2.2 ≠ 0) : (rdT b).1 = [] ∧ (rdT b).2.1 = 0 := by
  unfold rdT at h ⊢
  split
  · exact ⟨rfl, rfl⟩
  · rename_i h1
    rw [if_neg h1] at h
    split
    · exact ⟨rfl, rfl⟩
    · rename_i h2
      rw [if_neg h2] at h
      exact absurd rfl h

theorem rdT_le' (b : List UInt8) : (rdT b).2.1 ≤ b.length := by
  by_cases h : (rdT b).2.2 = 0
  · exact (rdT_le h).1
  · rw [(rdT_bad h).2]; omega

theorem rtF_nil {c : Nat} {s : St} (h : c = 0 → s.1 = []) : c = 0 → (rtF s).2.1 = [] := by
  intro hc
  have := h hc
  unfold rtF; split
  · exact this
  · simp [this]
theorem rtF_len (s : St) : (rtF s).2.1.length ≤ s.1.length := by
  unfold rtF; split
  · exact Nat.le_refl _
  · simp

section
variable (c t tg : Nat) (s : St)

end

def zrFr (n len i : Nat) (bad : Bool) : AM.Frame := [(0, .ptr 0 0 0 0), (1, .int .i64 (n : Nat)), (4, .sl 1 0 len 0), (5, .bool bad), (6, .int .i64 (i : Nat))]

theorem take_any {l : List UInt8} {i : Nat} {y : UInt8} (h : l[i]? = some y) : (l.take (i + 1)).any (· != 0) = ((l.take i).any (· != 0) || (y != 0)) := by
  rw [take_snoc h]; simp

section
variable (c t : Nat) (s : St) (n : Nat)

end

end Go.Proofs.YtifgkkfchnfcaaaDoor

/- Plain: a value that is read is no longer than what is there. -/
namespace Go.Proofs.YtifgkkfchnfcaaaDoor
open Go.AM
set_option linter.unusedSimpArgs false
set_option linter.unusedVariables false

theorem rdV_le (b : List UInt8) (t : Ty) (hb : b.length ≤ 90000000) : (rdV b t).2.1 ≤ b.length := by
  have h1 := rdW_le b t.t
  have h2 := rdT_le' b
  unfold rdV
  by_cases hr : (rfR b (sizeN t.t)).2 = 0
  · have hs : sizeN t.t ≤ b.length := by
      unfold rfR at hr
      split at hr
      · cases hr
      · split at hr
        · cases hr
        · omega
    repeat' split
    all_goals (simp only)
    all_goals omega
  · rw [if_pos hr]
    repeat' split
    all_goals (simp only)
    all_goals omega

end Go.Proofs.YtifgkkfchnfcaaaDoor

/- Walks: lives; the law ValueShort. -/
namespace Go.Proofs.YtifgkkfchnfcaaaDoor
open Go.AM
set_option linter.unusedSimpArgs false
set_option linter.unusedVariables false

theorem lives_ev (H : AM.Heap) : evT X 6 [] H = some (.bool true, H) :=
  evT_eq (Ev1.triedP (T := fun _ _ _ => none) Below.none (n := 600) (f := 6) (args := []) (v := .bool true) (by kernel_rfl) rfl H)

theorem rdV_bad {b : List UInt8} {t : Ty} (h : (rdV b t).2.2 ≠ 0) : rdV b t = ({}, 0, (rdV b t).2.2) := by
  unfold rdV at h ⊢
  repeat' split
  all_goals first | rfl | (exfalso; simp_all)

section
variable (c : Nat) (b : List UInt8) (t : Ty)

set_option maxRecDepth 100000 in
set_option maxHeartbeats 8000000 in
theorem short_code (hc : c = 0 → b = []) (ht : t.t < 256) : ∃ code, Tryd.f5.body = some code ∧
    Tells (Rets fun fr H => getF fr 4 = .bool true) X (evT X) 5 0 code [(0, .ro c (.pb b) 1), (1, .agg t.pay)] [] := by
  refine ⟨_, rfl, ?_⟩
  have hL := fun H => lives_ev H
  apply Tells.seq (fr' := [(0, .ro c (.pb b) 1), (3, .ptr 0 0 0 0)]) (H' := [some (tyO t)])
  · (refine ⟨0, ?_⟩; simp (maxSteps := 2000000) -implicitDefEqProofs [-getElem?_pos, List.getElem?_cons_zero, List.getElem?_cons_succ, go_sem, eqV, plen, loadV, storeV, tyO, Ty.pay])
  apply Tells.seq (fr' := [(0, .ro c (.pb b) 1), (3, .ptr 0 0 0 0), (14, .bool false)]) (H' := [some (tyO t)])
  · (refine ⟨0, ?_⟩; simp (maxSteps := 2000000) -implicitDefEqProofs [-getElem?_pos, List.getElem?_cons_zero, List.getElem?_cons_succ, go_sem, eqV, plen, loadV, storeV, hL, unV])
  by_cases hb : (2000 : Int) < (b.length : Int)
  · refine Tells.of (o := ⟨.ret, [(4, .bool true)], [some (tyO t)]⟩) ⟨0, ?_⟩ ⟨rfl, rfl⟩
    simp (maxSteps := 2000000) -implicitDefEqProofs [-getElem?_pos, List.getElem?_cons_zero, List.getElem?_cons_succ, go_sem, eqV, plen, loadV, storeV, hb]
  have hbl : b.length ≤ 2000 := by omega
  have hV := fun H => vread_ev (H := H) (a := .ro c (.pb b) 1) (b := b) (t := t) (Byt.ro (.inl rfl) hc) ht (by omega)
  apply Tells.seq (fr' := [(0, .ro c (.pb b) 1), (3, .ptr 0 0 0 0), (17, .bool false)]) (H' := [some (tyO t)])
  · (refine ⟨0, ?_⟩; simp (maxSteps := 2000000) -implicitDefEqProofs [-getElem?_pos, List.getElem?_cons_zero, List.getElem?_cons_succ, go_sem, eqV, plen, loadV, storeV, hb])
  have hfine := fun h => val_fine (b := b) (t := t) h
  have hag := fun h => val_again (b := b) (t := t) h
  have hE : (rdV b t).2.2 ≠ 0 → rdV b t = ({}, 0, (rdV b t).2.2) := fun h => rdV_bad h
  obtain ⟨v, n, e, hx⟩ : ∃ v n e, rdV b t = (v, n, e) := ⟨_, _, _, rfl⟩
  rw [hx] at hV hfine hag hE
  simp only at hV hfine hag hE
  have hV0 := hV [some (tyO t)]
  apply Tells.seq (fr' := [(0, .ro c (.pb b) 1), (3, .ptr 0 0 0 0), (5, .ptr 1 0 0 0), (6, .int .i64 (n : Nat)), (7, .int .i64 e)]) (H' := [some (tyO t), some (vaO v)])
  · simp only [tyO, vaO, Ty.pay, Va.pay] at hV0
    (refine ⟨0, ?_⟩; simp (maxSteps := 2000000) -implicitDefEqProofs [-getElem?_pos, List.getElem?_cons_zero, List.getElem?_cons_succ, go_sem, eqV, plen, loadV, storeV, tyO, Ty.pay, vaO, Va.pay, mkTy, mkVa, hV0, retagL, retag, retagP, flatCells, splice, scalars, scalar, assignV])
  by_cases he : e = 0
  · subst he
    obtain ⟨⟨q1, q2, q3, q4, q5⟩, q6⟩ := hfine rfl
    obtain ⟨a1, a2⟩ := hag rfl
    obtain ⟨ob, hw, hA⟩ := vappend_ev (H := [some (tyO t), some (vaO v)]) (a := .ro 0 .pn 0) (b := []) (v := v) (t := t) Byt.nil (by simp) ht q4 q5
    rw [a1] at hw hA
    simp only at hw hA
    have hel : (enV v t).length ≤ 2000 := by omega
    have hV2 := vread_ev (H := [some (tyO t), some (vaO v), some ob]) (a := .sl 2 0 (enV v t).length 0) (b := enV v t) (t := t) (Byt.whole rfl hw) ht (by omega)
    rw [a2] at hV2
    simp only at hV2
    have hC := check_ev (v := v) (t := t) ht q4 q5 [some (tyO t), some (vaO v), some ob, some (vaO v)]
    rw [q1] at hC
    have hEq := fun xo yo => eqVa v v [some (tyO t), some (vaO v), some ob, some (vaO v)] xo yo
    simp only [decide_true] at hEq
    have hle : ((enV v t).length : Int) ≤ (n : Int) := by omega
    have hnb : (n : Int) ≤ (b.length : Int) := by omega
    apply Tells.seq (fr' := [(0, .ro c (.pb b) 1), (3, .ptr 0 0 0 0), (5, .ptr 1 0 0 0), (6, .int .i64 (n : Nat)), (26, .bool false)]) (H' := [some (tyO t), some (vaO v)])
    · apply Run.seq (fr' := [(0, .ro c (.pb b) 1), (3, .ptr 0 0 0 0), (5, .ptr 1 0 0 0), (6, .int .i64 (n : Nat)), (26, .bool false)]) (H' := [some (tyO t), some (vaO v)])
      · (refine ⟨0, ?_⟩; simp (maxSteps := 2000000) -implicitDefEqProofs [-getElem?_pos, List.getElem?_cons_zero, List.getElem?_cons_succ, go_sem, eqV, plen, loadV, storeV])
      · exact condF (by simp [evalO, getF]) ⟨0, rfl⟩
    simp only [List.cons_append, List.nil_append, List.length_cons, List.length_nil, Nat.zero_add, Nat.reduceAdd] at hA hV2
    simp only [tyO, vaO, Ty.pay, Va.pay] at hA hV2 hC hEq
    apply Tells.seq (fr' := [(0, .ro c (.pb b) 1), (3, .ptr 0 0 0 0), (5, .ptr 1 0 0 0), (6, .int .i64 (n : Nat)), (8, .sl 2 0 (enV v t).length 0), (9, .int .i64 0)]) (H' := [some (tyO t), some (vaO v), some ob])
    · simp only [tyO, vaO, Ty.pay, Va.pay]
      generalize (enV v t).length = N at *
      (refine ⟨0, ?_⟩; simp (maxSteps := 2000000) -implicitDefEqProofs [-getElem?_pos, List.getElem?_cons_zero, List.getElem?_cons_succ, go_sem, eqV, plen, loadV, storeV, tyO, Ty.pay, vaO, Va.pay, mkTy, mkVa, hA, retagL, retag, retagP, flatCells, splice, scalars, scalar, assignV])
    apply Tells.seq (fr' := [(0, .ro c (.pb b) 1), (3, .ptr 0 0 0 0), (5, .ptr 1 0 0 0), (6, .int .i64 (n : Nat)), (8, .sl 2 0 (enV v t).length 0), (9, .int .i64 0), (10, .ptr 3 0 0 0), (11, .int .i64 ((enV v t).length : Nat)), (12, .int .i64 0)]) (H' := [some (tyO t), some (vaO v), some ob, some (vaO v)])
    · simp only [tyO, vaO, Ty.pay, Va.pay]
      generalize (enV v t).length = N at *
      (refine ⟨0, ?_⟩; simp (maxSteps := 2000000) -implicitDefEqProofs [-getElem?_pos, List.getElem?_cons_zero, List.getElem?_cons_succ, go_sem, eqV, plen, loadV, storeV, tyO, Ty.pay, vaO, Va.pay, mkTy, mkVa, hV2, retagL, retag, retagP, flatCells, splice, scalars, scalar, assignV])
    refine Tells.of (o := ⟨.ret, [(4, .bool true)], [some (tyO t), some (vaO v), some ob, some (vaO v)]⟩) ⟨0, ?_⟩ ⟨rfl, rfl⟩
    have hob := hw.g
    simp only [tyO, vaO, Ty.pay, Va.pay]
    generalize (enV v t).length = N at *
    have hle' : N ≤ n := by omega
    have hnb' : n ≤ b.length := by omega
    simp (maxSteps := 2000000) -implicitDefEqProofs [-getElem?_pos, List.getElem?_cons_zero, List.getElem?_cons_succ, go_sem, eqV, plen, loadV, storeV, tyO, Ty.pay, vaO, Va.pay, mkTy, mkVa, hC, hEq, -eqV, hob, hle, hnb, hle', hnb', retagL, retag, retagP, flatCells, splice, scalars, scalar]
  · have heb : (e != 0) = true := by simpa using he
    obtain ⟨rfl, rfl⟩ : v = {} ∧ n = 0 := by
      have := hE he
      simp only [Prod.mk.injEq] at this
      exact ⟨this.1, this.2.1⟩
    have hbv := bvV0
    have hEq := fun H xo yo => eqVa {} {} H xo yo
    simp only [decide_true] at hEq
    refine Tells.of (o := ⟨.ret, [(4, .bool true)], [some (tyO t), some (vaO {})]⟩) ⟨0, ?_⟩ ⟨rfl, rfl⟩
    simp only [Va.pay, Int.cast_ofNat_Int] at hbv hEq
    simp (maxSteps := 2000000) -implicitDefEqProofs [-getElem?_pos, List.getElem?_cons_zero, List.getElem?_cons_succ, go_sem, eqV, plen, loadV, storeV, heb, tyO, Ty.pay, vaO, Va.pay, mkVa, hbv, hEq, -eqV, retagL, retag, retagP, flatCells, splice, scalars, scalar]

end

end Go.Proofs.YtifgkkfchnfcaaaDoor

/- Walks: the law ValueOrder. -/
namespace Go.Proofs.YtifgkkfchnfcaaaDoor
open Go.AM
set_option linter.unusedSimpArgs false
set_option linter.unusedVariables false

theorem bvVw5 (w : Wh) : buildV X 27 [(0, .int .i64 5), (4, .agg w.pay)] = some (.agg (Va.pay { k := 5, w := w })) := by
  unfold Wh.pay Va.pay
  kernel_rfl
theorem bdT12 : buildV X 29 [(0, .int .u8 12)] = some (.agg (Ty.pay ⟨12, false⟩)) := by kernel_rfl
theorem zTy : zeroAV X 29 = .agg (Ty.pay ⟨0, false⟩) := by kernel_rfl
set_option maxRecDepth 100000 in
theorem bs6 (H : AM.Heap) (a b c d e f : Int) : buildSliceV X H 41 6 [(0, .int .i64 a), (1, .int .i64 b), (2, .int .i64 c), (3, .int .i64 d), (4, .int .i64 e), (5, .int .i64 f)] = some (.ro 1 (.pi .i64 [a, b, c, d, e, f]) 0, H) := by
  have hz : zeroAV X 3 = .int .i64 0 := by kernel_rfl
  have hm : ∀ l, mkRow X 3 l = (asInts .i64 l).map (.pi .i64) := fun _ => rfl
  simp only [buildSliceV, und41, size3, hz]
  simp [cellsAV, scalars, scalar, setParts, litRow, hm, asInts, idsL, ids, tagsL, tags, joinTags]

section
variable (v w : Wh)

def odFr (r s : List UInt8) (A B : List Int) (i : Nat) (tl : AM.Frame) : AM.Frame := [(6, .str r), (8, .str s), (10, .ro 1 (.pi .i64 A) 0), (11, .ro 1 (.pi .i64 B) 0), (12, .int .i64 (i : Nat))] ++ tl

set_option maxRecDepth 100000 in
set_option maxHeartbeats 4000000 in
theorem od_loop (H : AM.Heap) (hv : fin v 12 = true) (hw : fin w 12 = true) (hu : v.us = 0) (hu2 : w.us = 0) :
    ∃ code, ((Tryd.f4.body).bind (codeAt [1, 1, 1, 1, 1, 1, 1, 1, 1, 0, 1])) = some code ∧ Tells (Or2 (fun fr H' => wtB v 12 = wtB w 12 ∧ ∃ tl, fr = odFr (wtB v 12) (wtB w 12) (numsW v) (numsW w) 6 tl) (fun o => o.ex = .ret ∧ getF o.fr 4 = .bool true)) X (evT X) 4 0 code (odFr (wtB v 12) (wtB w 12) (numsW v) (numsW w) 0 []) H := by
  refine ⟨_, rfl, ?_⟩
  have hsame := fun h => order_same hv hw hu hu2 h
  have hsays := fun i a b ha hb hp hab => order_says (i := i) (a := a) (b := b) hv hw hu hu2 ha hb hp hab
  have hlA : (numsW v).length = 6 := rfl
  have hlB : (numsW w).length = 6 := rfl
  generalize numsW v = A at *
  generalize numsW w = B at *
  generalize wtB v 12 = r at *
  generalize wtB w 12 = s at *
  refine Tells.blockOr (Q := fun o => o.ex = .ret ∧ getF o.fr 4 = .bool true) (P := fun fr H' => r = s ∧ ∃ tl, fr = odFr r s A B 6 tl) ?_
  refine Tells.loopP (fun k fr H' => ∃ i, k = 6 - i ∧ i ≤ 6 ∧ fr = odFr r s A B i [] ∧ H' = H ∧ ∀ j, j < i → A[j]? = B[j]?) ?_ (k := 6) ⟨0, rfl, by omega, rfl, rfl, fun j h => by omega⟩
  rintro k fr H' ⟨i, rfl, hi, rfl, rfl, hp⟩
  apply Tells.assoc
  by_cases h6 : i = 6
  · subst h6
    have hAB : A = B := by
      apply List.ext_getElem?
      intro j
      by_cases hj : j < 6
      · exact hp j hj
      · rw [List.getElem?_eq_none (by omega), List.getElem?_eq_none (by omega)]
    refine Tells.of (o := ⟨.exit 0, odFr r s A B 6 [(65, .bool false)], H'⟩) ⟨0, ?_⟩ (.inr ⟨by simp, .inl ⟨rfl, hsame hAB, _, rfl⟩⟩)
    unfold odFr
    simp (maxSteps := 2000000) -implicitDefEqProofs [-getElem?_pos, List.getElem?_cons_zero, List.getElem?_cons_succ, go_sem, eqV, plen, loadV, storeV]
  have hi6 : i < 6 := by omega
  have hi6I : (i : Int) < 6 := by omega
  obtain ⟨a, ha⟩ : ∃ a, A[i]? = some a := ⟨_, List.getElem?_eq_getElem (by omega)⟩
  obtain ⟨b, hb⟩ : ∃ b, B[i]? = some b := ⟨_, List.getElem?_eq_getElem (by omega)⟩
  have iA : i < A.length := by omega
  have iB : i < B.length := by omega
  have iAI : (i : Int) < (A.length : Int) := by omega
  have iBI : (i : Int) < (B.length : Int) := by omega
  apply Tells.seq (fr' := odFr r s A B i [(65, .bool true)]) (H' := H')
  · unfold odFr
    (refine ⟨0, ?_⟩; simp (maxSteps := 2000000) -implicitDefEqProofs [-getElem?_pos, List.getElem?_cons_zero, List.getElem?_cons_succ, go_sem, eqV, plen, loadV, storeV, hi6, hi6I])
  apply Tells.seq (fr' := odFr r s A B i [(65, .bool true)]) (H' := H')
  · exact Run.cond (d := true) rfl ⟨0, rfl⟩
  by_cases hab : a = b
  · have hnb : (a != b) = false := by simp [hab]
    have w1 : IntKind.i64.wrap ((i : Int) + 1) = ((i + 1 : Nat) : Int) := by rw [wrap_i64 (by omega) (by omega)]; omega
    refine Tells.of (o := ⟨.normal, odFr r s A B (i + 1) [], H'⟩) ⟨0, ?_⟩ (.inl ⟨rfl, 6 - (i + 1), by omega, i + 1, rfl, by omega, rfl, rfl, fun j hj => ?_⟩)
    · unfold odFr
      simp (maxSteps := 2000000) -implicitDefEqProofs [-getElem?_pos, List.getElem?_cons_zero, List.getElem?_cons_succ, go_sem, eqV, plen, loadV, storeV, iA, iB, iAI, iBI, ha, hb, hnb, w1]
    · by_cases hj2 : j < i
      · exact hp j hj2
      · rw [show j = i by omega, ha, hb, hab]
  · have hnb : (a != b) = true := by simpa using hab
    obtain ⟨k1, k2⟩ := hsays i a b ha hb hp hab
    have k1' : (decide (a < b) == bytesLess r s) = true := k1
    have k2' : (!(r == s)) = true := by rw [k2]; rfl
    refine Tells.of (o := ⟨.ret, [(4, .bool true)], H'⟩) ⟨0, ?_⟩ (.inr ⟨by simp, .inr ⟨rfl, rfl, rfl⟩⟩)
    have k1a : bytesLess r s = decide (a < b) := (beq_iff_eq.1 k1).symm
    have k2a : ¬ r = s := by simpa using k2
    unfold odFr
    simp (maxSteps := 2000000) -implicitDefEqProofs [-getElem?_pos, List.getElem?_cons_zero, List.getElem?_cons_succ, go_sem, eqV, plen, loadV, storeV, iA, iB, iAI, iBI, ha, hb, hnb, hab, k1a, k2, k2a, strOp]

set_option maxRecDepth 100000 in
set_option maxHeartbeats 8000000 in
theorem order_code : ∃ code, Tryd.f4.body = some code ∧
    Tells (Rets fun fr H => getF fr 4 = .bool true) X (evT X) 4 0 code [(0, .agg v.pay), (1, .agg w.pay)] [] := by
  refine ⟨_, rfl, ?_⟩
  have hL := fun H => lives_ev H
  obtain ⟨v0, hv0⟩ : ∃ v0 : Wh, v0 = { v with us := 0 } := ⟨_, rfl⟩
  obtain ⟨w0, hw0⟩ : ∃ w0 : Wh, w0 = { w with us := 0 } := ⟨_, rfl⟩
  apply Tells.seq (fr' := [(2, .ptr 0 0 0 0), (3, .ptr 1 0 0 0)]) (H' := [some (whO v), some (whO w)])
  · unfold whO
    simp only [Wh.pay]
    (refine ⟨0, ?_⟩; simp (maxSteps := 2000000) -implicitDefEqProofs [-getElem?_pos, List.getElem?_cons_zero, List.getElem?_cons_succ, go_sem, eqV, plen, loadV, storeV])
  apply Tells.assoc
  apply Tells.seq (fr' := [(2, .ptr 0 0 0 0), (3, .ptr 1 0 0 0), (14, .bool false)]) (H' := [some (whO v), some (whO w)])
  · (refine ⟨0, ?_⟩; simp (maxSteps := 2000000) -implicitDefEqProofs [-getElem?_pos, List.getElem?_cons_zero, List.getElem?_cons_succ, go_sem, eqV, plen, loadV, storeV, hL, unV])
  apply Tells.seq (fr' := [(2, .ptr 0 0 0 0), (3, .ptr 1 0 0 0), (14, .bool false)]) (H' := [some (whO v), some (whO w)])
  · exact Run.cond (d := false) rfl ⟨0, rfl⟩
  apply Tells.seq (fr' := [(2, .ptr 0 0 0 0), (3, .ptr 1 0 0 0), (5, .ptr 2 0 0 0)]) (H' := [some (whO v), some (whO w), some (tyO ⟨12, false⟩)])
  · unfold whO tyO
    have hz := zTy
    have hb := bdT12
    simp only [Ty.pay, Wh.pay] at hz hb ⊢
    (refine ⟨0, ?_⟩; simp (maxSteps := 2000000) -implicitDefEqProofs [-getElem?_pos, List.getElem?_cons_zero, List.getElem?_cons_succ, go_sem, eqV, plen, loadV, storeV, hz, hb, flatCells, splice, scalars, scalar])
  apply Tells.seq (fr' := [(2, .ptr 0 0 0 0), (3, .ptr 1 0 0 0), (5, .ptr 2 0 0 0)]) (H' := [some (whO v0), some (whO w0), some (tyO ⟨12, false⟩)])
  · unfold whO tyO
    rw [hv0, hw0]
    simp only [Ty.pay, Wh.pay]
    (refine ⟨0, ?_⟩; simp (maxSteps := 2000000) -implicitDefEqProofs [-getElem?_pos, List.getElem?_cons_zero, List.getElem?_cons_succ, go_sem, eqV, plen, loadV, storeV])
  have hu : v0.us = 0 := by rw [hv0]
  have hu2 : w0.us = 0 := by rw [hw0]
  clear hv0 hw0
  have hT := text_ev (H := [some (whO v0), some (whO w0), some (tyO ⟨12, false⟩)]) (v := { k := 5, w := v0 }) (t := ⟨12, false⟩) (by decide) (by show 0 < _; omega) (by show (_ : Int) ≤ 0 ∧ (0 : Int) < _; omega)
  have hT2 := text_ev (H := [some (whO v0), some (whO w0), some (tyO ⟨12, false⟩)]) (v := { k := 5, w := w0 }) (t := ⟨12, false⟩) (by decide) (by show 0 < _; omega) (by show (_ : Int) ≤ 0 ∧ (0 : Int) < _; omega)
  have hB1 := bvVw5 v0
  have hB2 := bvVw5 w0
  have key : ∀ x : Wh, (vtX { k := 5, w := x } ⟨12, false⟩).2 = 2 ∨ (vtX { k := 5, w := x } ⟨12, false⟩ = (wtB x 12, 0) ∧ fin x 12 = true) := by
    intro x
    unfold vtX
    by_cases hc : chkV { k := 5, w := x } ⟨12, false⟩ ≠ 0
    · rw [if_pos hc]; exact .inl rfl
    · rw [if_neg hc, if_neg (show ¬ ((5 : Int) = 1) by decide), if_neg (show ¬ ((5 : Int) = 2) by decide), if_pos (.inl rfl)]
      obtain ⟨_, ff, _⟩ := ok_facts (v := { k := 5, w := x }) (t := ⟨12, false⟩) (by simpa using hc)
      exact .inr ⟨rfl, ff (.inl rfl)⟩
  have k1 := key v0
  have k2 := key w0
  generalize vtX { k := 5, w := v0 } ⟨12, false⟩ = x1 at *
  generalize vtX { k := 5, w := w0 } ⟨12, false⟩ = x2 at *
  obtain ⟨r, e⟩ := x1
  obtain ⟨s, f⟩ := x2
  simp only at hT hT2 k1 k2
  apply Tells.seq (fr' := [(2, .ptr 0 0 0 0), (3, .ptr 1 0 0 0), (5, .ptr 2 0 0 0), (6, .str r), (7, .int .i64 e)]) (H' := [some (whO v0), some (whO w0), some (tyO ⟨12, false⟩)])
  · simp only [whO, tyO, Wh.pay, Ty.pay, Va.pay, Int.natCast_zero, Int.cast_ofNat_Int] at hT hB1 ⊢
    (refine ⟨0, ?_⟩; simp (maxSteps := 2000000) -implicitDefEqProofs [-getElem?_pos, List.getElem?_cons_zero, List.getElem?_cons_succ, go_sem, eqV, plen, loadV, storeV, hB1, hT, mkWh, mkTy, assignV])
  apply Tells.seq (fr' := [(2, .ptr 0 0 0 0), (3, .ptr 1 0 0 0), (6, .str r), (7, .int .i64 e), (8, .str s), (9, .int .i64 f)]) (H' := [some (whO v0), some (whO w0), some (tyO ⟨12, false⟩)])
  · simp only [whO, tyO, Wh.pay, Ty.pay, Va.pay, Int.natCast_zero, Int.cast_ofNat_Int] at hT2 hB2 ⊢
    (refine ⟨0, ?_⟩; simp (maxSteps := 2000000) -implicitDefEqProofs [-getElem?_pos, List.getElem?_cons_zero, List.getElem?_cons_succ, go_sem, eqV, plen, loadV, storeV, hB2, hT2, mkWh, mkTy, assignV])
  apply Tells.assoc
  rcases k1 with rfl | ⟨k1, hf1⟩
  · refine Tells.of (o := ⟨.ret, [(4, .bool true)], [some (whO v0), some (whO w0), some (tyO ⟨12, false⟩)]⟩) ⟨0, ?_⟩ ⟨rfl, rfl⟩
    simp (maxSteps := 2000000) -implicitDefEqProofs [-getElem?_pos, List.getElem?_cons_zero, List.getElem?_cons_succ, go_sem, eqV, plen, loadV, storeV]
  obtain ⟨rfl, rfl⟩ := Prod.mk.inj k1
  rcases k2 with rfl | ⟨k2, hf2⟩
  · refine Tells.of (o := ⟨.ret, [(4, .bool true)], [some (whO v0), some (whO w0), some (tyO ⟨12, false⟩)]⟩) ⟨0, ?_⟩ ⟨rfl, rfl⟩
    generalize wtB v0 12 = r at *
    simp (maxSteps := 2000000) -implicitDefEqProofs [-getElem?_pos, List.getElem?_cons_zero, List.getElem?_cons_succ, go_sem, eqV, plen, loadV, storeV]
  obtain ⟨rfl, rfl⟩ := Prod.mk.inj k2
  apply Tells.seq (fr' := [(2, .ptr 0 0 0 0), (3, .ptr 1 0 0 0), (6, .str (wtB v0 12)), (8, .str (wtB w0 12)), (37, .bool false)]) (H' := [some (whO v0), some (whO w0), some (tyO ⟨12, false⟩)])
  · generalize wtB v0 12 = r at *
    generalize wtB w0 12 = s at *
    (refine ⟨0, ?_⟩; simp (maxSteps := 2000000) -implicitDefEqProofs [-getElem?_pos, List.getElem?_cons_zero, List.getElem?_cons_succ, go_sem, eqV, plen, loadV, storeV])
  apply Tells.seq (fr' := [(2, .ptr 0 0 0 0), (3, .ptr 1 0 0 0), (6, .str (wtB v0 12)), (8, .str (wtB w0 12)), (37, .bool false)]) (H' := [some (whO v0), some (whO w0), some (tyO ⟨12, false⟩)])
  · exact Run.cond (d := false) rfl ⟨0, rfl⟩
  have hS := fun H => bs6 H v0.y v0.mo v0.d v0.h v0.mi v0.s
  have hS2 := fun H => bs6 H w0.y w0.mo w0.d w0.h w0.mi w0.s
  apply Tells.seq (fr' := [(3, .ptr 1 0 0 0), (6, .str (wtB v0 12)), (8, .str (wtB w0 12)), (10, .ro 1 (.pi .i64 (numsW v0)) 0)]) (H' := [some (whO v0), some (whO w0), some (tyO ⟨12, false⟩)])
  · generalize wtB v0 12 = r at *
    generalize wtB w0 12 = s at *
    unfold numsW
    simp only [whO, tyO, Wh.pay, Ty.pay]
    (refine ⟨0, ?_⟩; simp (maxSteps := 2000000) -implicitDefEqProofs [-getElem?_pos, List.getElem?_cons_zero, List.getElem?_cons_succ, go_sem, eqV, plen, loadV, storeV, hS, assignV])
  apply Tells.seq (fr' := [(6, .str (wtB v0 12)), (8, .str (wtB w0 12)), (10, .ro 1 (.pi .i64 (numsW v0)) 0), (11, .ro 1 (.pi .i64 (numsW w0)) 0)]) (H' := [some (whO v0), some (whO w0), some (tyO ⟨12, false⟩)])
  · generalize wtB v0 12 = r at *
    generalize wtB w0 12 = s at *
    generalize numsW v0 = A at *
    unfold numsW
    simp only [whO, tyO, Wh.pay, Ty.pay]
    (refine ⟨0, ?_⟩; simp (maxSteps := 2000000) -implicitDefEqProofs [-getElem?_pos, List.getElem?_cons_zero, List.getElem?_cons_succ, go_sem, eqV, plen, loadV, storeV, hS2, assignV])
  apply Tells.assoc
  apply Tells.seq (fr' := odFr (wtB v0 12) (wtB w0 12) (numsW v0) (numsW w0) 0 []) (H' := [some (whO v0), some (whO w0), some (tyO ⟨12, false⟩)])
  · unfold odFr
    generalize wtB v0 12 = r at *
    generalize wtB w0 12 = s at *
    generalize numsW v0 = A at *
    generalize numsW w0 = B at *
    (refine ⟨0, ?_⟩; simp (maxSteps := 2000000) -implicitDefEqProofs [-getElem?_pos, List.getElem?_cons_zero, List.getElem?_cons_succ, go_sem, eqV, plen, loadV, storeV])
  apply Tells.or (piece (od_loop v0 w0 _ hf1 hf2 hu hu2) _ rfl)
  rintro fr H ⟨hrs, tl, rfl⟩
  refine Tells.of (o := ⟨.ret, [(4, .bool true)], H⟩) ⟨0, ?_⟩ ⟨rfl, rfl⟩
  rw [hrs]
  unfold odFr
  generalize wtB w0 12 = s at *
  generalize numsW v0 = A at *
  generalize numsW w0 = B at *
  simp (maxSteps := 2000000) -implicitDefEqProofs [-getElem?_pos, List.getElem?_cons_zero, List.getElem?_cons_succ, go_sem, eqV, plen, loadV, storeV, strOp]

end

end Go.Proofs.YtifgkkfchnfcaaaDoor

/- Arguments of laws: values, types, parameters; rows of them. -/
namespace Go.Proofs.YtifgkkfchnfcaaaDoor
open Go.AM
set_option linter.unusedVariables false

/-- a value as it may come -/
def Va.okA (v : Va) : Prop := v.b < 18446744073709551616 ∧ -9223372036854775808 ≤ v.i ∧ v.i < 9223372036854775808

theorem row_pm {r : List AV} {cs : List Value} (h : Cells [.i .u8, .b, .b, .i .i64, .i .i64, .i .u64, .s, .b, .i .i64, .i .i64, .i .i64, .i .i64, .i .i64, .i .i64, .i .i64] r cs) : ∃ p : Pm, AV.pc r = p.pay ∧ p.ok ∧ AV.str p.v.t ∈ r := by
  rcases h with _ | ⟨h0, h⟩
  rcases h with _ | ⟨h1, h⟩
  rcases h with _ | ⟨h2, h⟩
  rcases h with _ | ⟨h3, h⟩
  rcases h with _ | ⟨h4, h⟩
  rcases h with _ | ⟨h5, h⟩
  rcases h with _ | ⟨h6, h⟩
  rcases h with _ | ⟨h7, h⟩
  rcases h with _ | ⟨h8, h⟩
  rcases h with _ | ⟨h9, h⟩
  rcases h with _ | ⟨h10, h⟩
  rcases h with _ | ⟨h11, h⟩
  rcases h with _ | ⟨h12, h⟩
  rcases h with _ | ⟨h13, h⟩
  rcases h with _ | ⟨h14, h⟩
  cases h
  obtain ⟨x0, rfl, _, w0⟩ := h0
  obtain ⟨x0, rfl, b0⟩ := AM.nat_wf rfl w0
  obtain ⟨x1, rfl, _⟩ := h1
  obtain ⟨x2, rfl, _⟩ := h2
  obtain ⟨x3, rfl, _, w3⟩ := h3
  have w3 := AM.i64_wf w3
  obtain ⟨x4, rfl, _, w4⟩ := h4
  have w4 := AM.i64_wf w4
  obtain ⟨x5, rfl, _, w5⟩ := h5
  obtain ⟨x5, rfl, b5⟩ := AM.nat_wf rfl w5
  obtain ⟨x6, rfl, _, _⟩ := h6
  obtain ⟨x7, rfl, _⟩ := h7
  obtain ⟨x8, rfl, _, w8⟩ := h8
  have w8 := AM.i64_wf w8
  obtain ⟨x9, rfl, _, w9⟩ := h9
  have w9 := AM.i64_wf w9
  obtain ⟨x10, rfl, _, w10⟩ := h10
  have w10 := AM.i64_wf w10
  obtain ⟨x11, rfl, _, w11⟩ := h11
  have w11 := AM.i64_wf w11
  obtain ⟨x12, rfl, _, w12⟩ := h12
  have w12 := AM.i64_wf w12
  obtain ⟨x13, rfl, _, w13⟩ := h13
  have w13 := AM.i64_wf w13
  obtain ⟨x14, rfl, _, w14⟩ := h14
  have w14 := AM.i64_wf w14
  exact ⟨⟨⟨x0, x1⟩, x2, ⟨x3, x4, x5, x6, ⟨x7, x8, x9, x10, x11, x12, x13, x14⟩⟩⟩, rfl, ⟨b0, b5, w4.1, Int.lt_of_le_of_lt w4.2 (by decide)⟩, by simp⟩

theorem row_va {r : List AV} {cs : List Value} (h : Cells [.i .i64, .i .i64, .i .u64, .s, .b, .i .i64, .i .i64, .i .i64, .i .i64, .i .i64, .i .i64, .i .i64] r cs) : ∃ p : Va, AV.pc r = p.pay ∧ p.okA ∧ AV.str p.t ∈ r := by
  rcases h with _ | ⟨h0, h⟩
  rcases h with _ | ⟨h1, h⟩
  rcases h with _ | ⟨h2, h⟩
  rcases h with _ | ⟨h3, h⟩
  rcases h with _ | ⟨h4, h⟩
  rcases h with _ | ⟨h5, h⟩
  rcases h with _ | ⟨h6, h⟩
  rcases h with _ | ⟨h7, h⟩
  rcases h with _ | ⟨h8, h⟩
  rcases h with _ | ⟨h9, h⟩
  rcases h with _ | ⟨h10, h⟩
  rcases h with _ | ⟨h11, h⟩
  cases h
  obtain ⟨x0, rfl, _, w0⟩ := h0
  have w0 := AM.i64_wf w0
  obtain ⟨x1, rfl, _, w1⟩ := h1
  have w1 := AM.i64_wf w1
  obtain ⟨x2, rfl, _, w2⟩ := h2
  obtain ⟨x2, rfl, b2⟩ := AM.nat_wf rfl w2
  obtain ⟨x3, rfl, _, _⟩ := h3
  obtain ⟨x4, rfl, _⟩ := h4
  obtain ⟨x5, rfl, _, w5⟩ := h5
  have w5 := AM.i64_wf w5
  obtain ⟨x6, rfl, _, w6⟩ := h6
  have w6 := AM.i64_wf w6
  obtain ⟨x7, rfl, _, w7⟩ := h7
  have w7 := AM.i64_wf w7
  obtain ⟨x8, rfl, _, w8⟩ := h8
  have w8 := AM.i64_wf w8
  obtain ⟨x9, rfl, _, w9⟩ := h9
  have w9 := AM.i64_wf w9
  obtain ⟨x10, rfl, _, w10⟩ := h10
  have w10 := AM.i64_wf w10
  obtain ⟨x11, rfl, _, w11⟩ := h11
  have w11 := AM.i64_wf w11
  exact ⟨⟨x0, x1, x2, x3, ⟨x4, x5, x6, x7, x8, x9, x10, x11⟩⟩, rfl, ⟨b2, w1.1, Int.lt_of_le_of_lt w1.2 (by decide)⟩, by simp⟩

theorem lv_va : leaves Tryd.prog 6 27 = some [.i .i64, .i .i64, .i .u64, .s, .b, .i .i64, .i .i64, .i .i64, .i .i64, .i .i64, .i .i64, .i .i64] := by kernel_rfl

theorem row_ty {r : List AV} {cs : List Value} (h : Cells [.i .u8, .b] r cs) : ∃ p : Ty, AV.pc r = p.pay ∧ p.t < 256 := by
  rcases h with _ | ⟨h0, h⟩
  rcases h with _ | ⟨h1, h⟩
  cases h
  obtain ⟨x0, rfl, _, w0⟩ := h0
  obtain ⟨x0, rfl, b0⟩ := AM.nat_wf rfl w0
  obtain ⟨x1, rfl, _⟩ := h1
  exact ⟨⟨x0, x1⟩, rfl, b0⟩

theorem lv_ty : leaves Tryd.prog 6 29 = some [.i .u8, .b] := by kernel_rfl

end Go.Proofs.YtifgkkfchnfcaaaDoor

/- Arguments of laws: a value, a type, a moment. -/
namespace Go.Proofs.YtifgkkfchnfcaaaDoor
open Go.AM
set_option linter.unusedVariables false

theorem lv_va1 : leaves Tryd.prog 6 27 = some [.i .i64, .i .i64, .i .u64, .s, .b, .i .i64, .i .i64, .i .i64, .i .i64, .i .i64, .i .i64, .i .i64] := by kernel_rfl
theorem lv_ty1 : leaves Tryd.prog 6 29 = some [.i .u8, .b] := by kernel_rfl
theorem lv_wh1 : leaves Tryd.prog 6 25 = some [.b, .i .i64, .i .i64, .i .i64, .i .i64, .i .i64, .i .i64, .i .i64] := by kernel_rfl

theorem struct_of {P : Program} {t : TypeId} (h : (match P.underlying t with | some (.struct _) => true | _ => false) = true) : ∃ fs, P.underlying t = some (.struct fs) := by
  split at h
  · exact ⟨_, by assumption⟩
  · cases h

theorem st_va : ∃ fs, Tryd.prog.underlying 27 = some (.struct fs) := struct_of (by kernel_rfl)
theorem st_ty : ∃ fs, Tryd.prog.underlying 29 = some (.struct fs) := struct_of (by kernel_rfl)
theorem st_wh : ∃ fs, Tryd.prog.underlying 25 = some (.struct fs) := struct_of (by kernel_rfl)

section
variable {H : Type} {enc : TypeId × Value → H} {W : World} {base : Nat} {v : Value} {d : DataW H} {ps : List MemPlace}

set_option maxRecDepth 100000 in
theorem arg_val (hval : Value.okWide Tryd.prog W .any base 27 v) (hd : DataW.Trod enc Tryd.prog W 0 (fun _ => true) true 27 v d ps) :
    ∃ x : Va, x.okA ∧ AM.VRel (AM.start W) (AM.T0 W.heap.size) (.agg x.pay) v := by
  obtain ⟨az, cs, h, _, r⟩ := arg_plain lv_va1 st_va hval hd
  obtain ⟨x, hx, ok, _⟩ := row_va h
  rw [hx] at r
  exact ⟨x, ok, r⟩

set_option maxRecDepth 100000 in
theorem arg_tyx (hval : Value.okWide Tryd.prog W .any base 29 v) (hd : DataW.Trod enc Tryd.prog W 0 (fun _ => true) true 29 v d ps) :
    ∃ x : Ty, x.t < 256 ∧ AM.VRel (AM.start W) (AM.T0 W.heap.size) (.agg x.pay) v := by
  obtain ⟨az, cs, h, _, r⟩ := arg_plain lv_ty1 st_ty hval hd
  obtain ⟨x, hx, ok⟩ := row_ty h
  rw [hx] at r
  exact ⟨x, ok, r⟩

theorem row_wh {r : List AV} {cs : List Value} (h : Cells [.b, .i .i64, .i .i64, .i .i64, .i .i64, .i .i64, .i .i64, .i .i64] r cs) : ∃ p : Wh, AV.pc r = p.pay := by
  rcases h with _ | ⟨h7, h⟩
  rcases h with _ | ⟨h8, h⟩
  rcases h with _ | ⟨h9, h⟩
  rcases h with _ | ⟨h10, h⟩
  rcases h with _ | ⟨h11, h⟩
  rcases h with _ | ⟨h12, h⟩
  rcases h with _ | ⟨h13, h⟩
  rcases h with _ | ⟨h14, h⟩
  cases h
  obtain ⟨x7, rfl, _⟩ := h7
  obtain ⟨x8, rfl, _, w8⟩ := h8
  obtain ⟨x9, rfl, _, w9⟩ := h9
  obtain ⟨x10, rfl, _, w10⟩ := h10
  obtain ⟨x11, rfl, _, w11⟩ := h11
  obtain ⟨x12, rfl, _, w12⟩ := h12
  obtain ⟨x13, rfl, _, w13⟩ := h13
  obtain ⟨x14, rfl, _, w14⟩ := h14
  exact ⟨⟨x7, x8, x9, x10, x11, x12, x13, x14⟩, rfl⟩

set_option maxRecDepth 100000 in
theorem arg_whx (hval : Value.okWide Tryd.prog W .any base 25 v) (hd : DataW.Trod enc Tryd.prog W 0 (fun _ => true) true 25 v d ps) :
    ∃ x : Wh, AM.VRel (AM.start W) (AM.T0 W.heap.size) (.agg x.pay) v := by
  obtain ⟨az, cs, h, _, r⟩ := arg_plain lv_wh1 st_wh hval hd
  obtain ⟨x, hx⟩ := row_wh h
  rw [hx] at r
  exact ⟨x, r⟩

end

end Go.Proofs.YtifgkkfchnfcaaaDoor
