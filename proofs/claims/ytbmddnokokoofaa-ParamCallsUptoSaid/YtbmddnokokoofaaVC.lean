/- Walks: the document's value appended. -/
import Derived.Test.YtbmddnokokoofaaVB
namespace Go.Proofs.Ytbmddnokokoofaa
open Go.AM
set_option linter.unusedSimpArgs false
set_option linter.unusedVariables false

theorem leB_mod : ∀ n x, leB n (x % 256 ^ n) = leB n x
  | 0, x => rfl
  | n + 1, x => by
    simp only [leB]
    rw [Nat.pow_succ, Nat.mul_comm (256 ^ n) 256, Nat.mod_mul_right_mod, Nat.mod_mul_right_div_self, leB_mod n]

theorem and_mask {x k : Nat} (hx : x < 18446744073709551616) (hk : k ≤ 63) :
    IntKind.u64.wrap ((AM.bits .u64 (x : Int) &&& AM.bits .u64 (((2 ^ k - 1 : Nat)) : Int)).toNat : Nat) = ((x % 2 ^ k : Nat) : Int) := by
  have hb : ∀ v : Nat, v < 18446744073709551616 → (AM.bits .u64 (v : Int)).toNat = v := by
    intro v hv
    unfold AM.bits
    simp [IntKind.bits]
    omega
  have hp : 2 ^ k ≤ 2 ^ 63 := Nat.pow_le_pow_right (by omega) hk
  have e : (AM.bits .u64 (x : Int) &&& AM.bits .u64 (((2 ^ k - 1 : Nat)) : Int)).toNat = x % 2 ^ k := by
    rw [show (AM.bits .u64 (x : Int) &&& AM.bits .u64 (((2 ^ k - 1 : Nat)) : Int)).toNat = (AM.bits .u64 (x : Int)).toNat &&& (AM.bits .u64 (((2 ^ k - 1 : Nat)) : Int)).toNat by simp]
    rw [hb x hx, hb _ (by omega), Nat.and_two_pow_sub_one_eq_mod]
  rw [e]
  have := Nat.mod_lt x (Nat.pow_pos (n := k) (show 0 < 2 by omega))
  rw [wrap_u64 (by omega) (by omega)]

theorem ui_lt (i : Int) : ui i < 18446744073709551616 := by
  have h := ui_eq i
  have : IntKind.u64.wrap i < 18446744073709551616 := by
    unfold IntKind.wrap
    simp [IntKind.signed, IntKind.bits]
    exact Int.emod_lt_of_pos _ (by decide)
  omega

/-- the bits of a value that may be fit its type -/
theorem ok_bits {v : Va} {t : Ty} (h : chkV v t = 0) (hvb : v.b < 18446744073709551616) (hk : v.k = 2 ∨ v.k = 3 ∨ v.k = 4) : v.b < 256 ^ sizeN t.t := by
  rcases chk_ok h with rfl | h
  · exact absurd hk (by decide)
  unfold okVa okVk at h
  rw [if_neg (by omega), if_pos hk] at h
  simp only [Bool.and_eq_true, decide_eq_true_eq] at h
  obtain ⟨h1, h2, h3⟩ := h
  have hs := size_num (t := t.t) (u := t.u) (by omega)
  unfold okB at h3
  generalize sizeN t.t = n at *
  simp only [Bool.or_eq_true, decide_eq_true_eq] at h3
  rcases hs with rfl | rfl | rfl | rfl
  · rcases h3 with h3 | h3
    · omega
    · simpa using h3
  · rcases h3 with h3 | h3
    · omega
    · simpa using h3
  · rcases h3 with h3 | h3
    · omega
    · simpa using h3
  · simpa using hvb

section
variable (c : Nat) (b : List UInt8) (v : Va) (t : Ty)

set_option maxRecDepth 100000 in
set_option maxHeartbeats 4000000 in
theorem rvappend_code (hc : c = 0 → b = []) (hb : b.length ≤ 100000) (ht : t.t < 256) (hvb : v.b < 18446744073709551616) : ∃ code, Try.f28.body = some code ∧
    Tells (Rets fun fr H => ∃ o g ob, getF fr 6 = .sl o 0 (apV b v t).1.length g ∧ getF fr 7 = .int .i64 (apV b v t).2 ∧ H[o]? = some (some ob) ∧ Rw (.pb (apV b v t).1) g ob) X (evT X) 28 0 code [(0, .ro c (.pb b) 1), (1, .agg v.pay), (2, .agg t.pay)] [] := by
  refine ⟨_, rfl, ?_⟩
  have hC := rcheck_ev (v := v) (t := t) ht [some (vaO v), some (tyO t), some nilB]
  apply Tells.seq (fr' := [(0, .ro c (.pb b) 1), (4, .ptr 0 0 0 0), (5, .ptr 1 0 0 0)]) (H' := [some (vaO v), some (tyO t), some nilB])
  · (refine ⟨0, ?_⟩; simp (maxSteps := 2000000) -implicitDefEqProofs [-getElem?_pos, List.getElem?_cons_zero, List.getElem?_cons_succ, go_sem, eqV, plen, loadV, storeV, vaO, tyO, Va.pay, Ty.pay, assignV, emB])
  apply Tells.seq (fr' := [(0, .ro c (.pb b) 1), (4, .ptr 0 0 0 0), (5, .ptr 1 0 0 0), (8, .int .i64 (chkV v t))]) (H' := [some (vaO v), some (tyO t), some nilB])
  · simp only [vaO, tyO, Va.pay, Ty.pay] at hC
    generalize chkV v t = ck at *
    (refine ⟨0, ?_⟩; simp (maxSteps := 2000000) -implicitDefEqProofs [-getElem?_pos, List.getElem?_cons_zero, List.getElem?_cons_succ, go_sem, eqV, plen, loadV, storeV, vaO, tyO, Va.pay, Ty.pay, mkVa, mkTy, hC])
  clear hC
  unfold apV
  cases hok : apOk v t with
  | false =>
    rw [if_neg (by simp)]
    refine Tells.of (o := ⟨.ret, [(6, .sl 3 0 0 0), (7, .int .i64 2)], [some (vaO v), some (tyO t), some nilB, some nilB]⟩) ?_ ⟨rfl, 3, 0, nilB, rfl, rfl, rfl, nilB_rw⟩
    apply Run.seq_out (hne := by simp)
    apply Run.seq (fr' := [(0, .ro c (.pb b) 1), (4, .ptr 0 0 0 0), (5, .ptr 1 0 0 0), (25, .bool true)]) (H' := [some (vaO v), some (tyO t), some nilB])
    · unfold apOk at hok
      by_cases h0 : chkV v t = 0
      · rw [h0] at hok ⊢
        simp only [decide_true, Bool.true_and, Bool.not_eq_false', Bool.and_eq_true, decide_eq_true_eq] at hok
        obtain ⟨hk, h6⟩ := hok
        have h6b : ((t.t : Int) != 6) = true := by simp; omega
        (refine ⟨0, ?_⟩; simp (maxSteps := 2000000) -implicitDefEqProofs [-getElem?_pos, List.getElem?_cons_zero, List.getElem?_cons_succ, go_sem, eqV, plen, loadV, storeV, vaO, tyO, Va.pay, Ty.pay, hk, h6b])
      · have h0b : (chkV v t != 0) = true := by simpa using h0
        generalize chkV v t = ck at *
        (refine ⟨0, ?_⟩; simp (maxSteps := 2000000) -implicitDefEqProofs [-getElem?_pos, List.getElem?_cons_zero, List.getElem?_cons_succ, go_sem, eqV, plen, loadV, storeV, vaO, tyO, Va.pay, Ty.pay, h0b])
    refine ⟨0, ?_⟩
    simp (maxSteps := 2000000) -implicitDefEqProofs [-getElem?_pos, List.getElem?_cons_zero, List.getElem?_cons_succ, go_sem, eqV, plen, loadV, storeV, assignV, emB]
  | true =>
  rw [if_pos rfl]
  unfold apOk at hok
  simp only [Bool.and_eq_true, decide_eq_true_eq, Bool.not_eq_true', Bool.and_eq_false_iff, decide_eq_false_iff_not] at hok
  obtain ⟨h0, h06⟩ := hok
  obtain ⟨fs, ff, fl, fk⟩ := ok_facts h0
  have fb := fun h => ok_bits h0 hvb h
  rw [h0]
  apply Tells.seq (fr' := [(0, .ro c (.pb b) 1), (4, .ptr 0 0 0 0), (5, .ptr 1 0 0 0), (25, .bool false)]) (H' := [some (vaO v), some (tyO t), some nilB])
  · by_cases hk : v.k = 0
    · have h6 : t.t = 6 := by
        rcases h06 with h | h
        · exact absurd hk h
        · omega
      (refine ⟨0, ?_⟩; simp (maxSteps := 2000000) -implicitDefEqProofs [-getElem?_pos, List.getElem?_cons_zero, List.getElem?_cons_succ, go_sem, eqV, plen, loadV, storeV, vaO, tyO, Va.pay, Ty.pay, hk, h6])
    · have hkb : (v.k == 0) = false := by simpa using hk
      (refine ⟨0, ?_⟩; simp (maxSteps := 2000000) -implicitDefEqProofs [-getElem?_pos, List.getElem?_cons_zero, List.getElem?_cons_succ, go_sem, eqV, plen, loadV, storeV, vaO, tyO, Va.pay, Ty.pay, hkb])
  have hS := rsize_ev' ht [some (vaO v), some (tyO t), some nilB]
  apply Tells.seq (fr' := [(0, .ro c (.pb b) 1), (4, .ptr 0 0 0 0), (5, .ptr 1 0 0 0), (9, .int .i64 (rsizeN t.t : Nat))]) (H' := [some (vaO v), some (tyO t), some nilB])
  · simp only [vaO, tyO, Va.pay, Ty.pay] at hS
    generalize rsizeN t.t = n at *
    (refine ⟨0, ?_⟩; simp (maxSteps := 2000000) -implicitDefEqProofs [-getElem?_pos, List.getElem?_cons_zero, List.getElem?_cons_succ, go_sem, eqV, plen, loadV, storeV, vaO, tyO, Va.pay, Ty.pay, hS])
  clear hS
  unfold enV
  rcases fk with kv | kv | kv | kv | kv | kv | kv | kv
  · rw [if_neg (by omega), if_neg (by omega), if_neg (by omega), if_neg (by omega), List.append_nil]
    have hb0 := fun H => bs0 H
    have hA0 := app_lit (H := [some (vaO v), some (tyO t), some nilB]) (m := b) (src := .ro c (.pb b) 1) (srcB (.inl rfl)) (by omega)
    have hw0 : Rw (.pb b) 0 ⟨.pb b, 0, .none, 1, true, false, 0⟩ := ⟨rfl, rfl, rfl, rfl, rfl⟩
    generalize (⟨.pb b, 0, .none, 1, true, false, 0⟩ : AM.Obj) = ob0 at *
    refine Tells.of (o := ⟨.ret, [(6, .sl 3 0 b.length 0), (7, .int .i64 0)], [some (vaO v), some (tyO t), some nilB, some ob0]⟩) ⟨0, ?_⟩ ⟨rfl, 3, 0, ob0, rfl, rfl, rfl, hw0⟩
    simp only [vaO, tyO, Va.pay, Ty.pay] at hA0
    rw [kv] at hA0
    generalize rsizeN t.t = n at *
    simp (maxSteps := 2000000) -implicitDefEqProofs [-getElem?_pos, List.getElem?_cons_zero, List.getElem?_cons_succ, go_sem, eqV, plen, loadV, storeV, vaO, tyO, Va.pay, Ty.pay, kv, hb0, hA0, assignV]
  · rw [if_pos kv]
    obtain ⟨s1, s8⟩ := fs (.inl kv)
    have hrs := rsize_eq (t := t.t) (by omega)
    rw [hrs]
    have hn : sizeN t.t = 1 ∨ sizeN t.t = 2 ∨ sizeN t.t = 4 ∨ sizeN t.t = 8 := by have := rsz t.t; omega
    have wu := (ui_eq v.i).symm
    have hult := ui_lt v.i
    rw [← leB_mod (sizeN t.t) (ui v.i)]
    have hxl : ui v.i % 256 ^ sizeN t.t < 256 ^ sizeN t.t := Nat.mod_lt _ (Nat.pow_pos (by omega))
    obtain ⟨ob1, hw1, hF⟩ := rfx_ev (H := [some (vaO v), some (tyO t), some nilB]) (a := .ro c (.pb b) 1) (b := b) (x := ui v.i % 256 ^ sizeN t.t) (n := sizeN t.t) (N := sizeN t.t) (Byt.ro (.inl rfl) hc) rfl (by omega) s1 s8 hxl
    refine Tells.of (o := ⟨.ret, [(6, .sl 3 0 (b.length + sizeN t.t) 0), (7, .int .i64 0)], [some (vaO v), some (tyO t), some nilB, some ob1]⟩) ?_ ⟨rfl, 3, 0, ob1, by simp [getF, leB_len], rfl, rfl, hw1⟩
    apply Run.seq_out (hne := by simp)
    simp only [vaO, tyO, Va.pay, Ty.pay] at hF
    rw [kv] at hF
    clear hw1 hxl hrs s1 s8 fs fb
    generalize hx : ui v.i = x at *
    generalize sizeN t.t = n at *
    generalize b.length = bl at *
    refine ⟨0, ?_⟩
    rcases hn with rfl | rfl | rfl | rfl
    · have hm := and_mask (x := x) (k := 8) hult (by omega)
      rw [show (256 : Nat) ^ 1 = 2 ^ 8 from rfl] at hF
      generalize x % 2 ^ 8 = z at *
      simp only [Nat.reducePow, Nat.reduceSub, Int.cast_ofNat_Int] at hF
      have hm2 := hm
      simp only [go_sem, Nat.reducePow, Nat.reduceSub, Int.cast_ofNat_Int] at hm2
      simp only [BitVec.toNat_and, Nat.reducePow, Nat.reduceSub, Int.cast_ofNat_Int] at hm
      simp (maxSteps := 2000000) -implicitDefEqProofs [-getElem?_pos, List.getElem?_cons_zero, List.getElem?_cons_succ, go_sem, eqV, plen, loadV, storeV, vaO, tyO, Va.pay, Ty.pay, kv, wu, hm, hm2, hF, assignV, show IntKind.u64.bits = 64 from rfl, show IntKind.i64.wrap 8 = 8 from rfl, show IntKind.u64.wrap 8 = 8 from rfl, show IntKind.u64.wrap 256 = 256 from rfl, show IntKind.u64.wrap 255 = 255 from rfl]
    · have hm := and_mask (x := x) (k := 16) hult (by omega)
      rw [show (256 : Nat) ^ 2 = 2 ^ 16 from rfl] at hF
      generalize x % 2 ^ 16 = z at *
      simp only [Nat.reducePow, Nat.reduceSub, Int.cast_ofNat_Int] at hF
      have hm2 := hm
      simp only [go_sem, Nat.reducePow, Nat.reduceSub, Int.cast_ofNat_Int] at hm2
      simp only [BitVec.toNat_and, Nat.reducePow, Nat.reduceSub, Int.cast_ofNat_Int] at hm
      simp (maxSteps := 2000000) -implicitDefEqProofs [-getElem?_pos, List.getElem?_cons_zero, List.getElem?_cons_succ, go_sem, eqV, plen, loadV, storeV, vaO, tyO, Va.pay, Ty.pay, kv, wu, hm, hm2, hF, assignV, show IntKind.u64.bits = 64 from rfl, show IntKind.i64.wrap 16 = 16 from rfl, show IntKind.u64.wrap 16 = 16 from rfl, show IntKind.u64.wrap 65536 = 65536 from rfl, show IntKind.u64.wrap 65535 = 65535 from rfl]
    · have hm := and_mask (x := x) (k := 32) hult (by omega)
      rw [show (256 : Nat) ^ 4 = 2 ^ 32 from rfl] at hF
      generalize x % 2 ^ 32 = z at *
      simp only [Nat.reducePow, Nat.reduceSub, Int.cast_ofNat_Int] at hF
      have hm2 := hm
      simp only [go_sem, Nat.reducePow, Nat.reduceSub, Int.cast_ofNat_Int] at hm2
      simp only [BitVec.toNat_and, Nat.reducePow, Nat.reduceSub, Int.cast_ofNat_Int] at hm
      simp (maxSteps := 2000000) -implicitDefEqProofs [-getElem?_pos, List.getElem?_cons_zero, List.getElem?_cons_succ, go_sem, eqV, plen, loadV, storeV, vaO, tyO, Va.pay, Ty.pay, kv, wu, hm, hm2, hF, assignV, show IntKind.u64.bits = 64 from rfl, show IntKind.i64.wrap 32 = 32 from rfl, show IntKind.u64.wrap 32 = 32 from rfl, show IntKind.u64.wrap 4294967296 = 4294967296 from rfl, show IntKind.u64.wrap 4294967295 = 4294967295 from rfl]
    · rw [show x % 256 ^ 8 = x from Nat.mod_eq_of_lt (by simpa using hult)] at hF
      simp only [Int.cast_ofNat_Int] at hF
      simp (maxSteps := 2000000) -implicitDefEqProofs [-getElem?_pos, List.getElem?_cons_zero, List.getElem?_cons_succ, go_sem, eqV, plen, loadV, storeV, vaO, tyO, Va.pay, Ty.pay, kv, wu, hF, assignV]
  · rw [if_neg (by omega), if_pos (by omega)]
    obtain ⟨s1, s8⟩ := fs (by omega)
    have hxl := fb (by omega)
    have hrs := rsize_eq (t := t.t) (by omega)
    rw [hrs]
    obtain ⟨ob1, hw1, hF⟩ := rfx_ev (H := [some (vaO v), some (tyO t), some nilB]) (a := .ro c (.pb b) 1) (b := b) (x := v.b) (n := sizeN t.t) (N := sizeN t.t) (Byt.ro (.inl rfl) hc) rfl (by omega) s1 s8 hxl
    refine Tells.of (o := ⟨.ret, [(6, .sl 3 0 (b.length + sizeN t.t) 0), (7, .int .i64 0)], [some (vaO v), some (tyO t), some nilB, some ob1]⟩) ?_ ⟨rfl, 3, 0, ob1, by simp [getF, leB_len], rfl, rfl, hw1⟩
    apply Run.seq_out (hne := by simp)
    simp only [vaO, tyO, Va.pay, Ty.pay] at hF
    rw [kv] at hF
    clear hw1 hxl hrs s1 s8 fs fb
    generalize sizeN t.t = n at *
    generalize b.length = bl at *
    refine ⟨0, ?_⟩
    simp (maxSteps := 2000000) -implicitDefEqProofs [-getElem?_pos, List.getElem?_cons_zero, List.getElem?_cons_succ, go_sem, eqV, plen, loadV, storeV, vaO, tyO, Va.pay, Ty.pay, kv, hF, assignV]
  · rw [if_neg (by omega), if_pos (by omega)]
    obtain ⟨s1, s8⟩ := fs (by omega)
    have hxl := fb (by omega)
    have hrs := rsize_eq (t := t.t) (by omega)
    rw [hrs]
    obtain ⟨ob1, hw1, hF⟩ := rfx_ev (H := [some (vaO v), some (tyO t), some nilB]) (a := .ro c (.pb b) 1) (b := b) (x := v.b) (n := sizeN t.t) (N := sizeN t.t) (Byt.ro (.inl rfl) hc) rfl (by omega) s1 s8 hxl
    refine Tells.of (o := ⟨.ret, [(6, .sl 3 0 (b.length + sizeN t.t) 0), (7, .int .i64 0)], [some (vaO v), some (tyO t), some nilB, some ob1]⟩) ?_ ⟨rfl, 3, 0, ob1, by simp [getF, leB_len], rfl, rfl, hw1⟩
    apply Run.seq_out (hne := by simp)
    simp only [vaO, tyO, Va.pay, Ty.pay] at hF
    rw [kv] at hF
    clear hw1 hxl hrs s1 s8 fs fb
    generalize sizeN t.t = n at *
    generalize b.length = bl at *
    refine ⟨0, ?_⟩
    simp (maxSteps := 2000000) -implicitDefEqProofs [-getElem?_pos, List.getElem?_cons_zero, List.getElem?_cons_succ, go_sem, eqV, plen, loadV, storeV, vaO, tyO, Va.pay, Ty.pay, kv, hF, assignV]
  · rw [if_neg (by omega), if_pos (by omega)]
    obtain ⟨s1, s8⟩ := fs (by omega)
    have hxl := fb (by omega)
    have hrs := rsize_eq (t := t.t) (by omega)
    rw [hrs]
    obtain ⟨ob1, hw1, hF⟩ := rfx_ev (H := [some (vaO v), some (tyO t), some nilB]) (a := .ro c (.pb b) 1) (b := b) (x := v.b) (n := sizeN t.t) (N := sizeN t.t) (Byt.ro (.inl rfl) hc) rfl (by omega) s1 s8 hxl
    refine Tells.of (o := ⟨.ret, [(6, .sl 3 0 (b.length + sizeN t.t) 0), (7, .int .i64 0)], [some (vaO v), some (tyO t), some nilB, some ob1]⟩) ?_ ⟨rfl, 3, 0, ob1, by simp [getF, leB_len], rfl, rfl, hw1⟩
    apply Run.seq_out (hne := by simp)
    simp only [vaO, tyO, Va.pay, Ty.pay] at hF
    rw [kv] at hF
    clear hw1 hxl hrs s1 s8 fs fb
    generalize sizeN t.t = n at *
    generalize b.length = bl at *
    refine ⟨0, ?_⟩
    simp (maxSteps := 2000000) -implicitDefEqProofs [-getElem?_pos, List.getElem?_cons_zero, List.getElem?_cons_succ, go_sem, eqV, plen, loadV, storeV, vaO, tyO, Va.pay, Ty.pay, kv, hF, assignV]
  · rw [if_neg (by omega), if_neg (by omega), if_pos (by omega)]
    obtain ⟨ob1, hw1, hF⟩ := mt_ev (H := [some (vaO v), some (tyO t), some nilB]) (a := .ro c (.pb b) 1) (b := b) (w := v.w) (Byt.ro (.inl rfl) hc) (by omega) ht (ff (by omega))
    refine Tells.of (o := ⟨.ret, [(6, .sl 3 0 (b ++ whB v.w t.t).length 0), (7, .int .i64 0)], [some (vaO v), some (tyO t), some nilB, some ob1]⟩) ?_ ⟨rfl, 3, 0, ob1, rfl, rfl, rfl, hw1⟩
    apply Run.seq_out (hne := by simp)
    simp only [vaO, tyO, Va.pay, Ty.pay, Wh.pay] at hF
    rw [kv] at hF
    generalize (b ++ whB v.w t.t).length = m at *
    generalize rsizeN t.t = n at *
    refine ⟨0, ?_⟩
    simp (maxSteps := 2000000) -implicitDefEqProofs [-getElem?_pos, List.getElem?_cons_zero, List.getElem?_cons_succ, go_sem, eqV, plen, loadV, storeV, vaO, tyO, Va.pay, Ty.pay, kv, mkWh, hF, assignV]
  · rw [if_neg (by omega), if_neg (by omega), if_pos (by omega)]
    obtain ⟨ob1, hw1, hF⟩ := mt_ev (H := [some (vaO v), some (tyO t), some nilB]) (a := .ro c (.pb b) 1) (b := b) (w := v.w) (Byt.ro (.inl rfl) hc) (by omega) ht (ff (by omega))
    refine Tells.of (o := ⟨.ret, [(6, .sl 3 0 (b ++ whB v.w t.t).length 0), (7, .int .i64 0)], [some (vaO v), some (tyO t), some nilB, some ob1]⟩) ?_ ⟨rfl, 3, 0, ob1, rfl, rfl, rfl, hw1⟩
    apply Run.seq_out (hne := by simp)
    simp only [vaO, tyO, Va.pay, Ty.pay, Wh.pay] at hF
    rw [kv] at hF
    generalize (b ++ whB v.w t.t).length = m at *
    generalize rsizeN t.t = n at *
    refine ⟨0, ?_⟩
    simp (maxSteps := 2000000) -implicitDefEqProofs [-getElem?_pos, List.getElem?_cons_zero, List.getElem?_cons_succ, go_sem, eqV, plen, loadV, storeV, vaO, tyO, Va.pay, Ty.pay, kv, mkWh, hF, assignV]
  · rw [if_neg (by omega), if_neg (by omega), if_neg (by omega), if_pos kv]
    obtain ⟨ob1, hw1, hA⟩ := rappendText_ev (H := [some (vaO v), some (tyO t), some nilB]) (a := .ro c (.pb b) 1) (b := b) (s := v.t) (Byt.ro (.inl rfl) hc) (by omega) (by have := fl kv; omega)
    refine Tells.of (o := ⟨.ret, [(6, .sl 3 0 (b ++ aT v.t).length 0), (7, .int .i64 0)], [some (vaO v), some (tyO t), some nilB, some ob1]⟩) ?_ ⟨rfl, 3, 0, ob1, rfl, rfl, rfl, hw1⟩
    apply Run.seq_out (hne := by simp)
    simp only [vaO, tyO, Va.pay, Ty.pay] at hA
    rw [kv] at hA
    generalize (b ++ aT v.t).length = m at *
    generalize rsizeN t.t = n at *
    refine ⟨0, ?_⟩
    simp (maxSteps := 2000000) -implicitDefEqProofs [-getElem?_pos, List.getElem?_cons_zero, List.getElem?_cons_succ, go_sem, eqV, plen, loadV, storeV, vaO, tyO, Va.pay, Ty.pay, kv, hA, assignV]

end

theorem rvappend_ev {H : AM.Heap} {a : AV} {b : List UInt8} {v : Va} {t : Ty} (h : Byt H a b) (hb : b.length ≤ 100000) (ht : t.t < 256) (hvb : v.b < 18446744073709551616) :
    ∃ ob, Rw (.pb (apV b v t).1) 0 ob ∧ evT X 28 [a, .agg v.pay, .agg t.pay] H = some (.tup [.sl H.length 0 (apV b v t).1.length 0, .int .i64 (apV b v t).2], H ++ [some ob]) := by
  obtain ⟨c, p, xl, hp, hc, hx'⟩ := args_byt (C := X) (f := 28) (i := 0) rfl h (args_va (f := 28) (i := 1) (v := v) (args_ty (i := 2) (t := t) (args_nil 3)))
  obtain ⟨code, hcode, hr⟩ := rvappend_code c b v t hc hb ht hvb
  obtain ⟨ob, q1, q2⟩ := Ev1.newB (H := H) (n := (apV b v t).1.length) (l := (apV b v t).1) (rest := [.int .i64 (apV b v t).2]) (evT_below X) Try.func28 hcode hx' (by simp [Va.pay, Ty.pay, idsL, ids, hp.ids]) (by simp [gtag]) rfl rfl rfl (by
    obtain ⟨o, ⟨he, o1, g, ob, q1, q2, q3, q4⟩, hrun⟩ := hr
    exact ⟨o, ⟨he, o1, g, ob, by show some [getF o.fr 6, getF o.fr 7] = _; rw [q1, q2], q3, q4⟩, by rw [par28, coB hp]; exact hrun⟩)
  exact ⟨ob, q1, evT_eq q2⟩

end Go.Proofs.Ytbmddnokokoofaa
