/- D7 to Y4: texts of this claim, one behind the other; what each shows stands at its head. -/
import Derived.Test.YtafdnpcamepbmaaDoorAm3
import Derived.Test.YtafdnpcamepbmaaDoorMg4
/- Walks: FormatInt, FormatUint, Itoa. -/
namespace Go.Proofs.YtafdnpcamepbmaaDoor
open Go.AM
set_option linter.unusedSimpArgs false
set_option linter.unusedVariables false

/-- a small number's text -/
def smT (k : Nat) : List UInt8 := if k < 10 then [UInt8.ofNat (48 + k)] else [UInt8.ofNat (48 + k / 10), UInt8.ofNat (48 + k % 10)]
theorem smT_eq {k : Nat} (h : k < 100) : smT k = decB k := by
  unfold smT decB
  by_cases h1 : k < 10
  · rw [if_pos h1]
    have : ndN k = 1 := by unfold ndN; rw [if_pos h1]
    rw [this, dgs_one, Nat.mod_eq_of_lt h1]; rfl
  · rw [if_neg h1]
    have : ndN k = 2 := by
      unfold ndN; rw [if_neg h1]; unfold ndN; rw [if_pos (by omega)]
    rw [this, dgs_two, Nat.mod_eq_of_lt (show k / 10 < 10 by omega)]; rfl

theorem numS_ev {H : AM.Heap} {k : Nat} (h : k < 100) : evT X 45 [.int .i64 (k : Nat)] H = some (.str (decB k), H) := by
  rw [← smT_eq h]
  exact evT_eq (Ev1.each (T := fun _ _ _ => none) Below.none (n := 100) (N := 100) (a := fun k => .int .i64 (k : Nat)) (v := fun k => .str (smT k)) (by kernel_rfl) (fun _ => rfl) h H)

theorem al24 : zeroAV X 81 = .agg (.pb (List.replicate 24 0)) := by kernel_rfl

section
variable (x : Nat)

set_option maxRecDepth 100000 in
set_option maxHeartbeats 4000000 in
theorem fmtU_code (hx : x < 18446744073709551616) : ∃ code, Tryd.f39.body = some code ∧
    Tells (Rets fun fr H => getF fr 4 = .str (decB x)) X (evT X) 39 0 code [(0, .int .u64 (x : Nat)), (1, .int .i64 10)] [] := by
  refine ⟨_, rfl, ?_⟩
  apply Tells.seq (fr' := [(0, .int .u64 (x : Nat)), (1, .int .i64 10)]) (H' := [])
  · (refine ⟨0, ?_⟩; simp (maxSteps := 2000000) -implicitDefEqProofs [-getElem?_pos, List.getElem?_cons_zero, List.getElem?_cons_succ, go_sem, eqV, plen, loadV, storeV])
  apply Tells.assoc
  apply Tells.seq (fr' := [(0, .int .u64 (x : Nat)), (1, .int .i64 10), (10, .bool true)]) (H' := [])
  · (refine ⟨0, ?_⟩; simp (maxSteps := 2000000) -implicitDefEqProofs [-getElem?_pos, List.getElem?_cons_zero, List.getElem?_cons_succ, go_sem, eqV, plen, loadV, storeV])
  refine Tells.seqOut (Tells.condT rfl ?_) (fun o h => by rw [h.1]; simp)
  by_cases h : x < 100
  · have hI : (x : Int) < 100 := by omega
    have hS := fun H => numS_ev (H := H) h
    have w : IntKind.i64.wrap (x : Int) = (x : Int) := wrap_i64 (by omega) (by omega)
    refine Tells.of (o := ⟨.ret, [(4, .str (decB x))], []⟩) ⟨0, ?_⟩ ⟨rfl, rfl⟩
    simp (maxSteps := 2000000) -implicitDefEqProofs [-getElem?_pos, List.getElem?_cons_zero, List.getElem?_cons_succ, go_sem, eqV, plen, loadV, storeV, h, hI, hS, w]
  have hI : ¬ (x : Int) < 100 := by omega
  apply Tells.assoc
  apply Tells.seq (fr' := [(0, .int .u64 (x : Nat)), (12, .bool false)]) (H' := [])
  · (refine ⟨0, ?_⟩; simp (maxSteps := 2000000) -implicitDefEqProofs [-getElem?_pos, List.getElem?_cons_zero, List.getElem?_cons_succ, go_sem, eqV, plen, loadV, storeV, h, hI])
  apply Tells.seq (fr' := [(0, .int .u64 (x : Nat)), (12, .bool false)]) (H' := [])
  · exact Run.cond (d := false) rfl ⟨0, rfl⟩
  obtain ⟨Z, hZ⟩ : ∃ Z, Z = List.replicate 24 (0 : UInt8) := ⟨_, rfl⟩
  have hal : zeroAV X 81 = .agg (.pb Z) := by rw [hZ]; exact al24
  have hZl : Z.length = 24 := by rw [hZ]; simp
  apply Tells.seq (fr' := [(0, .int .u64 (x : Nat)), (5, .ptr 0 0 0 0)]) (H' := [some (fbP Z)])
  · unfold fbP
    (refine ⟨0, ?_⟩; simp (maxSteps := 2000000) -implicitDefEqProofs [-getElem?_pos, List.getElem?_cons_zero, List.getElem?_cons_succ, go_sem, eqV, plen, loadV, storeV, hal, boxOf, newBox, hasIdsP, hZl])
  obtain ⟨hn20, hN⟩ := numD_ev (H := [some (fbP Z)]) (x := x) (by omega) hx
  obtain ⟨B', hS, hF⟩ := fb_ev (H := [some (fbP Z)]) (o := 0) (off := 0) (nd := ndN x) (u := x) (B := Z) rfl (ndN_pos x) (ndN_lt x) hx (by omega) (by omega)
  have hd := hS.2
  have hlen : B'.length = 24 := by rw [hS.1, hZl]
  simp only [Nat.zero_add, Nat.add_zero, Nat.sub_zero, List.drop_zero] at hd
  unfold decB
  rw [← hd]
  have hF' : evT X 47 [.sl 0 0 (ndN x) 0, .int .u64 (x : Nat)] [some (fbP Z)] = some (.tup [], [some (fbP B')]) := hF
  clear hF hS hd hal hZ
  generalize ndN x = nd at *
  apply Tells.seq (fr' := [(0, .int .u64 (x : Nat)), (5, .ptr 0 0 0 0), (6, .int .i64 (nd : Nat))]) (H' := [some (fbP Z)])
  · generalize fbP Z = P at *
    (refine ⟨0, ?_⟩; simp (maxSteps := 2000000) -implicitDefEqProofs [-getElem?_pos, List.getElem?_cons_zero, List.getElem?_cons_succ, go_sem, eqV, plen, loadV, storeV, hN])
  have n24 : (nd : Int) ≤ 24 := by omega
  have n24N : nd ≤ 24 := by omega
  apply Tells.seq (fr' := [(5, .ptr 0 0 0 0), (6, .int .i64 (nd : Nat))]) (H' := [some (fbP B')])
  · unfold fbP at hF' ⊢
    (refine ⟨0, ?_⟩; simp (maxSteps := 2000000) -implicitDefEqProofs [-getElem?_pos, List.getElem?_cons_zero, List.getElem?_cons_succ, go_sem, eqV, plen, loadV, storeV, hF', n24, n24N, sliceV, bound, hZl])
  refine Tells.of (o := ⟨.ret, [(4, .str (B'.take nd))], [some (fbP B')]⟩) ⟨0, ?_⟩ ⟨rfl, rfl⟩
  have nl : nd ≤ B'.length := by omega
  unfold fbP
  simp (maxSteps := 2000000) -implicitDefEqProofs [-getElem?_pos, List.getElem?_cons_zero, List.getElem?_cons_succ, go_sem, eqV, plen, loadV, storeV, n24, n24N, sliceV, bound, hlen, nl, readSl, isU8, psub]

end

theorem fmtU_ev {H : AM.Heap} {x : Nat} (hx : x < 18446744073709551616) : evT X 39 [.int .u64 (x : Nat), .int .i64 10] H = some (.str (decB x), H) := by
  obtain ⟨code, hcode, o, ⟨he, h4⟩, hr⟩ := fmtU_code x hx
  exact evT_eq (Ev1.toldP (l := [.str (decB x)]) (evT_below X) Tryd.func39 hcode (args_flat (i := 0) rfl rfl (args_flat (i := 1) rfl rfl (args_nil 2))) rfl (by simp [gtag]) rfl rfl rfl ⟨o, ⟨he, by show some [getF o.fr 4] = _; rw [h4]⟩, hr⟩)

section
variable (x : Int)

set_option maxRecDepth 100000 in
set_option maxHeartbeats 8000000 in
theorem fmtI_code (h1 : -9223372036854775808 ≤ x) (h2 : x < 9223372036854775808) : ∃ code, Tryd.f38.body = some code ∧
    Tells (Rets fun fr H => getF fr 4 = .str (intB x)) X (evT X) 38 0 code [(0, .int .i64 x), (1, .int .i64 10)] [] := by
  refine ⟨_, rfl, ?_⟩
  apply Tells.seq (fr' := [(0, .int .i64 x), (1, .int .i64 10)]) (H' := [])
  · (refine ⟨0, ?_⟩; simp (maxSteps := 2000000) -implicitDefEqProofs [-getElem?_pos, List.getElem?_cons_zero, List.getElem?_cons_succ, go_sem, eqV, plen, loadV, storeV])
  apply Tells.assoc
  apply Tells.seq (fr' := [(0, .int .i64 x), (1, .int .i64 10), (11, .bool true)]) (H' := [])
  · (refine ⟨0, ?_⟩; simp (maxSteps := 2000000) -implicitDefEqProofs [-getElem?_pos, List.getElem?_cons_zero, List.getElem?_cons_succ, go_sem, eqV, plen, loadV, storeV])
  refine Tells.seqOut (Tells.condT rfl ?_) (fun o h => by rw [h.1]; simp)
  by_cases hs : 0 ≤ x ∧ x < 100
  · obtain ⟨g1, g2⟩ := hs
    obtain ⟨k, rfl⟩ : ∃ k : Nat, x = (k : Int) := ⟨x.toNat, by omega⟩
    have hS := fun H => numS_ev (H := H) (k := k) (by omega)
    have hi : intB (k : Int) = decB k := by unfold intB; rw [if_neg (by omega)]; rfl
    rw [hi]
    refine Tells.of (o := ⟨.ret, [(4, .str (decB k))], []⟩) ⟨0, ?_⟩ ⟨rfl, rfl⟩
    have g2N : k < 100 := by omega
    simp (maxSteps := 2000000) -implicitDefEqProofs [-getElem?_pos, List.getElem?_cons_zero, List.getElem?_cons_succ, go_sem, eqV, plen, loadV, storeV, g1, g2, g2N, hS]
  apply Tells.assoc
  apply Tells.seq (fr' := [(0, .int .i64 x), (17, .bool false)]) (H' := [])
  · by_cases g1 : 0 ≤ x
    · have g2 : ¬ x < 100 := by omega
      (refine ⟨0, ?_⟩; simp (maxSteps := 2000000) -implicitDefEqProofs [-getElem?_pos, List.getElem?_cons_zero, List.getElem?_cons_succ, go_sem, eqV, plen, loadV, storeV, g1, g2])
    · (refine ⟨0, ?_⟩; simp (maxSteps := 2000000) -implicitDefEqProofs [-getElem?_pos, List.getElem?_cons_zero, List.getElem?_cons_succ, go_sem, eqV, plen, loadV, storeV, g1])
  apply Tells.seq (fr' := [(0, .int .i64 x), (17, .bool false)]) (H' := [])
  · exact Run.cond (d := false) rfl ⟨0, rfl⟩
  obtain ⟨Z, hZ⟩ : ∃ Z, Z = List.replicate 24 (0 : UInt8) := ⟨_, rfl⟩
  have hal : zeroAV X 81 = .agg (.pb Z) := by rw [hZ]; exact al24
  have hZl : Z.length = 24 := by rw [hZ]; simp
  apply Tells.seq (fr' := [(0, .int .i64 x), (5, .ptr 0 0 0 0)]) (H' := [some (fbP Z)])
  · unfold fbP
    (refine ⟨0, ?_⟩; simp (maxSteps := 2000000) -implicitDefEqProofs [-getElem?_pos, List.getElem?_cons_zero, List.getElem?_cons_succ, go_sem, eqV, plen, loadV, storeV, hal, boxOf, newBox, hasIdsP, hZl])
  obtain ⟨u, hu⟩ : ∃ u : Nat, u = x.natAbs := ⟨_, rfl⟩
  have hi : intB x = if x < 0 then 45 :: decB u else decB u := by
    unfold intB
    by_cases h : x < 0
    · rw [if_pos h, if_pos h, show (-x).toNat = u by omega]
    · rw [if_neg h, if_neg h, show x.toNat = u by omega]
  have hu0 : 0 < u := by omega
  have hu64 : u < 18446744073709551616 := by omega
  apply Tells.seq (fr' := [(0, .int .i64 x), (5, .ptr 0 0 0 0), (6, .int .u64 (IntKind.u64.wrap x))]) (H' := [some (fbP Z)])
  · generalize fbP Z = P at *
    (refine ⟨0, ?_⟩; simp (maxSteps := 2000000) -implicitDefEqProofs [-getElem?_pos, List.getElem?_cons_zero, List.getElem?_cons_succ, go_sem, eqV, plen, loadV, storeV])
  apply Tells.assoc
  apply Tells.seq (fr' := [(0, .int .i64 x), (5, .ptr 0 0 0 0), (6, .int .u64 (IntKind.u64.wrap x)), (23, .bool (decide (x < 0)))]) (H' := [some (fbP Z)])
  · generalize IntKind.u64.wrap x = w at *
    generalize fbP Z = P at *
    (refine ⟨0, ?_⟩; simp (maxSteps := 2000000) -implicitDefEqProofs [-getElem?_pos, List.getElem?_cons_zero, List.getElem?_cons_succ, go_sem, eqV, plen, loadV, storeV])
  apply Tells.seq (fr' := [(0, .int .i64 x), (5, .ptr 0 0 0 0), (6, .int .u64 (u : Nat))] ++ (if x < 0 then [] else [(23, .bool false)])) (H' := [some (fbP Z)])
  · by_cases h : x < 0
    · rw [if_pos h, show decide (x < 0) = true from decide_eq_true h]
      have w1 : IntKind.u64.wrap (0 - IntKind.u64.wrap x) = (u : Int) := by
        unfold IntKind.wrap; simp [IntKind.signed, IntKind.bits]; omega
      have w1' : IntKind.u64.wrap (-IntKind.u64.wrap x) = (u : Int) := by
        unfold IntKind.wrap; simp [IntKind.signed, IntKind.bits]; omega
      refine Run.cond (d := true) rfl ?_
      generalize IntKind.u64.wrap x = w at *
      generalize fbP Z = P at *
      (refine ⟨0, ?_⟩; simp (maxSteps := 2000000) -implicitDefEqProofs [-getElem?_pos, List.getElem?_cons_zero, List.getElem?_cons_succ, go_sem, eqV, plen, loadV, storeV, unV, w1, w1'])
    · rw [if_neg h, show decide (x < 0) = false from decide_eq_false h]
      have w1 : IntKind.u64.wrap x = (u : Int) := by
        unfold IntKind.wrap; simp [IntKind.signed, IntKind.bits]; omega
      rw [w1]
      exact Run.cond (d := false) rfl ⟨0, rfl⟩
  obtain ⟨hn20, hN⟩ := numD_ev (H := [some (fbP Z)]) (x := u) hu0 hu64
  obtain ⟨B', hS, hF⟩ := fb_ev (H := [some (fbP Z)]) (o := 0) (off := 1) (nd := ndN u) (u := u) (B := Z) rfl (ndN_pos u) (ndN_lt u) hu64 (by omega) (by omega)
  have hd := hS.2
  have hlen : B'.length = 24 := by rw [hS.1, hZl]
  simp only [Nat.zero_add, Nat.add_zero, Nat.sub_zero] at hd
  have hF' : evT X 47 [.sl 0 1 (ndN u) 0, .int .u64 (u : Nat)] [some (fbP Z)] = some (.tup [], [some (fbP B')]) := hF
  have hdec : decB u = (B'.drop 1).take (ndN u) := by unfold decB; exact hd.symm
  rw [hdec] at hi
  clear hF hS hd hal hZ hdec
  generalize ndN u = nd at *
  have w2 : IntKind.i64.wrap (1 + (nd : Int)) = ((1 + nd : Nat) : Int) := by rw [wrap_i64 (by omega) (by omega)]; omega
  obtain ⟨n1, hn1⟩ : ∃ n1, n1 = 1 + nd := ⟨_, rfl⟩
  rw [← hn1] at w2
  have m24 : (n1 : Int) ≤ 24 := by omega
  have m24N : n1 ≤ 24 := by omega
  have m1 : (1 : Int) ≤ (n1 : Int) := by omega
  have m1N : 1 ≤ n1 := by omega
  have mn : n1 - 1 = nd := by omega
  have nl : 1 + nd ≤ B'.length := by omega
  have nl2 : n1 ≤ B'.length := by omega
  have nl24 : 1 + nd ≤ 24 := by omega
  apply Tells.seq (fr' := [(0, .int .i64 x), (5, .ptr 0 0 0 0), (6, .int .u64 (u : Nat)), (7, .int .i64 (nd : Nat))]) (H' := [some (fbP Z)])
  · generalize fbP Z = P at *
    by_cases h : x < 0
    · rw [if_pos h]
      (refine ⟨0, ?_⟩; simp (maxSteps := 2000000) -implicitDefEqProofs [-getElem?_pos, List.getElem?_cons_zero, List.getElem?_cons_succ, go_sem, eqV, plen, loadV, storeV, hN])
    · rw [if_neg h]
      (refine ⟨0, ?_⟩; simp (maxSteps := 2000000) -implicitDefEqProofs [-getElem?_pos, List.getElem?_cons_zero, List.getElem?_cons_succ, go_sem, eqV, plen, loadV, storeV, hN])
  apply Tells.seq (fr' := [(0, .int .i64 x), (5, .ptr 0 0 0 0), (7, .int .i64 (nd : Nat))]) (H' := [some (fbP B')])
  · unfold fbP at hF' ⊢
    (refine ⟨0, ?_⟩; simp (maxSteps := 2000000) -implicitDefEqProofs [-getElem?_pos, List.getElem?_cons_zero, List.getElem?_cons_succ, go_sem, eqV, plen, loadV, storeV, hF', w2, m24, m24N, m1, m1N, mn, sliceV, bound, hZl])
  rw [hi]
  apply Tells.assoc
  by_cases h : x < 0
  · rw [if_pos h]
    apply Tells.seq (fr' := [(5, .ptr 0 0 0 0), (7, .int .i64 (nd : Nat)), (34, .bool true)]) (H' := [some (fbP B')])
    · generalize fbP B' = P at *
      (refine ⟨0, ?_⟩; simp (maxSteps := 2000000) -implicitDefEqProofs [-getElem?_pos, List.getElem?_cons_zero, List.getElem?_cons_succ, go_sem, eqV, plen, loadV, storeV, h])
    refine Tells.seqOut (Tells.condT rfl ?_) (fun o h => by rw [h.1]; simp)
    refine Tells.of (o := ⟨.ret, [(4, .str (45 :: (B'.drop 1).take nd))], [some (fbP (B'.set 0 45))]⟩) ⟨0, ?_⟩ ⟨rfl, rfl⟩
    have hset : (B'.set 0 45).take n1 = 45 :: (B'.drop 1).take nd := by
      cases B' with
      | nil => simp at hlen
      | cons y r => rw [hn1, Nat.add_comm]; simp
    have hsl : (B'.set 0 45).length = 24 := by simp [hlen]
    have b0 : 0 < B'.length := by omega
    have nl3 : n1 ≤ (B'.set 0 45).length := by omega
    have u45 : UInt8.ofNat 45 = 45 := rfl
    unfold fbP
    simp (maxSteps := 2000000) -implicitDefEqProofs [-getElem?_pos, List.getElem?_cons_zero, List.getElem?_cons_succ, go_sem, eqV, plen, loadV, storeV, b0, pset, joinTag, w2, m24, m24N, sliceV, bound, hlen, hsl, hset, readSl, isU8, psub]
  · rw [if_neg h]
    apply Tells.seq (fr' := [(5, .ptr 0 0 0 0), (7, .int .i64 (nd : Nat)), (34, .bool false)]) (H' := [some (fbP B')])
    · generalize fbP B' = P at *
      (refine ⟨0, ?_⟩; simp (maxSteps := 2000000) -implicitDefEqProofs [-getElem?_pos, List.getElem?_cons_zero, List.getElem?_cons_succ, go_sem, eqV, plen, loadV, storeV, h])
    apply Tells.seq (fr' := [(5, .ptr 0 0 0 0), (7, .int .i64 (nd : Nat)), (34, .bool false)]) (H' := [some (fbP B')])
    · exact Run.cond (d := false) rfl ⟨0, rfl⟩
    refine Tells.of (o := ⟨.ret, [(4, .str ((B'.drop 1).take nd))], [some (fbP B')]⟩) ⟨0, ?_⟩ ⟨rfl, rfl⟩
    unfold fbP
    simp (maxSteps := 2000000) -implicitDefEqProofs [-getElem?_pos, List.getElem?_cons_zero, List.getElem?_cons_succ, go_sem, eqV, plen, loadV, storeV, w2, m24, m24N, m1, m1N, mn, sliceV, bound, hlen, nl, nl2, nl24, readSl, isU8, psub]

end

theorem fmtI_ev {H : AM.Heap} {x : Int} (h1 : -9223372036854775808 ≤ x) (h2 : x < 9223372036854775808) : evT X 38 [.int .i64 x, .int .i64 10] H = some (.str (intB x), H) := by
  obtain ⟨code, hcode, o, ⟨he, h4⟩, hr⟩ := fmtI_code x h1 h2
  exact evT_eq (Ev1.toldP (l := [.str (intB x)]) (evT_below X) Tryd.func38 hcode (args_flat (i := 0) rfl rfl (args_flat (i := 1) rfl rfl (args_nil 2))) rfl (by simp [gtag]) rfl rfl rfl ⟨o, ⟨he, by show some [getF o.fr 4] = _; rw [h4]⟩, hr⟩)

theorem sfmtU_code (x : Nat) (hx : x < 18446744073709551616) : ∃ code, Tryd.f28.body = some code ∧
    Tells (Rets fun fr H => getF fr 4 = .str (decB x)) X (evT X) 28 0 code [(0, .int .u64 (x : Nat)), (1, .int .i64 10)] [] := by
  refine ⟨_, rfl, ?_⟩
  have hF := fun H => fmtU_ev (H := H) hx
  refine Tells.of (o := ⟨.ret, [(4, .str (decB x))], []⟩) ⟨0, ?_⟩ ⟨rfl, rfl⟩
  simp (maxSteps := 2000000) -implicitDefEqProofs [-getElem?_pos, List.getElem?_cons_zero, List.getElem?_cons_succ, go_sem, eqV, plen, loadV, storeV, hF]
theorem sfmtU_ev {H : AM.Heap} {x : Nat} (hx : x < 18446744073709551616) : evT X 28 [.int .u64 (x : Nat), .int .i64 10] H = some (.str (decB x), H) := by
  obtain ⟨code, hcode, o, ⟨he, h4⟩, hr⟩ := sfmtU_code x hx
  exact evT_eq (Ev1.toldP (l := [.str (decB x)]) (evT_below X) Tryd.func28 hcode (args_flat (i := 0) rfl rfl (args_flat (i := 1) rfl rfl (args_nil 2))) rfl (by simp [gtag]) rfl rfl rfl ⟨o, ⟨he, by show some [getF o.fr 4] = _; rw [h4]⟩, hr⟩)

theorem sfmtI_code (x : Int) (h1 : -9223372036854775808 ≤ x) (h2 : x < 9223372036854775808) : ∃ code, Tryd.f27.body = some code ∧
    Tells (Rets fun fr H => getF fr 4 = .str (intB x)) X (evT X) 27 0 code [(0, .int .i64 x), (1, .int .i64 10)] [] := by
  refine ⟨_, rfl, ?_⟩
  have hF := fun H => fmtI_ev (H := H) h1 h2
  refine Tells.of (o := ⟨.ret, [(4, .str (intB x))], []⟩) ⟨0, ?_⟩ ⟨rfl, rfl⟩
  simp (maxSteps := 2000000) -implicitDefEqProofs [-getElem?_pos, List.getElem?_cons_zero, List.getElem?_cons_succ, go_sem, eqV, plen, loadV, storeV, hF]
theorem sfmtI_ev {H : AM.Heap} {x : Int} (h1 : -9223372036854775808 ≤ x) (h2 : x < 9223372036854775808) : evT X 27 [.int .i64 x, .int .i64 10] H = some (.str (intB x), H) := by
  obtain ⟨code, hcode, o, ⟨he, h4⟩, hr⟩ := sfmtI_code x h1 h2
  exact evT_eq (Ev1.toldP (l := [.str (intB x)]) (evT_below X) Tryd.func27 hcode (args_flat (i := 0) rfl rfl (args_flat (i := 1) rfl rfl (args_nil 2))) rfl (by simp [gtag]) rfl rfl rfl ⟨o, ⟨he, by show some [getF o.fr 4] = _; rw [h4]⟩, hr⟩)

theorem iItoa_code (x : Int) (h1 : -9223372036854775808 ≤ x) (h2 : x < 9223372036854775808) : ∃ code, Tryd.f58.body = some code ∧
    Tells (Rets fun fr H => getF fr 2 = .str (intB x)) X (evT X) 58 0 code [(0, .int .i64 x)] [] := by
  refine ⟨_, rfl, ?_⟩
  have hF := fun H => fmtI_ev (H := H) h1 h2
  refine Tells.of (o := ⟨.ret, [(2, .str (intB x))], []⟩) ⟨0, ?_⟩ ⟨rfl, rfl⟩
  simp (maxSteps := 2000000) -implicitDefEqProofs [-getElem?_pos, List.getElem?_cons_zero, List.getElem?_cons_succ, go_sem, eqV, plen, loadV, storeV, hF]
theorem iItoa_ev {H : AM.Heap} {x : Int} (h1 : -9223372036854775808 ≤ x) (h2 : x < 9223372036854775808) : evT X 58 [.int .i64 x] H = some (.str (intB x), H) := by
  obtain ⟨code, hcode, o, ⟨he, h4⟩, hr⟩ := iItoa_code x h1 h2
  exact evT_eq (Ev1.toldP (l := [.str (intB x)]) (evT_below X) Tryd.func58 hcode (args_flat (i := 0) rfl rfl (args_nil 1)) rfl (by simp [gtag]) rfl rfl rfl ⟨o, ⟨he, by show some [getF o.fr 2] = _; rw [h4]⟩, hr⟩)

theorem itoa_code (x : Int) (h1 : -9223372036854775808 ≤ x) (h2 : x < 9223372036854775808) : ∃ code, Tryd.f49.body = some code ∧
    Tells (Rets fun fr H => getF fr 2 = .str (intB x)) X (evT X) 49 0 code [(0, .int .i64 x)] [] := by
  refine ⟨_, rfl, ?_⟩
  have hF := fun H => iItoa_ev (H := H) h1 h2
  refine Tells.of (o := ⟨.ret, [(2, .str (intB x))], []⟩) ⟨0, ?_⟩ ⟨rfl, rfl⟩
  simp (maxSteps := 2000000) -implicitDefEqProofs [-getElem?_pos, List.getElem?_cons_zero, List.getElem?_cons_succ, go_sem, eqV, plen, loadV, storeV, hF]
theorem itoaD_ev {H : AM.Heap} {x : Int} (h1 : -9223372036854775808 ≤ x) (h2 : x < 9223372036854775808) : evT X 49 [.int .i64 x] H = some (.str (intB x), H) := by
  obtain ⟨code, hcode, o, ⟨he, h4⟩, hr⟩ := itoa_code x h1 h2
  exact evT_eq (Ev1.toldP (l := [.str (intB x)]) (evT_below X) Tryd.func49 hcode (args_flat (i := 0) rfl rfl (args_nil 1)) rfl (by simp [gtag]) rfl rfl rfl ⟨o, ⟨he, by show some [getF o.fr 2] = _; rw [h4]⟩, hr⟩)

end Go.Proofs.YtafdnpcamepbmaaDoor

/- Walks: digits, micros, whenText. -/
namespace Go.Proofs.YtafdnpcamepbmaaDoor
open Go.AM
set_option linter.unusedSimpArgs false
set_option linter.unusedVariables false

theorem rep_all : (List.range 8).all (fun k => rowRun X (fun _ _ _ => none) 100 ⟨50, [.str [48], .int .i64 (k : Nat)], .str (List.replicate k 48), []⟩) = true := by kernel_rfl
theorem rep_ev {H : AM.Heap} {k : Nat} (h : k < 8) : evT X 50 [.str [48], .int .i64 (k : Nat)] H = some (.str (List.replicate k 48), H) :=
  evT_eq (Ev1.triedP (T := fun _ _ _ => none) Below.none (n := 100) (List.all_eq_true.1 rep_all k (List.mem_range.2 h)) rfl H)

section
variable (x n : Nat)

set_option maxRecDepth 100000 in
set_option maxHeartbeats 4000000 in
theorem dig_code (hx : x < 1000000000000) (hn : n < 8) : ∃ code, Tryd.f40.body = some code ∧
    Tells (Rets fun fr H => getF fr 4 = .str (padB x n)) X (evT X) 40 0 code [(0, .int .i64 (x : Nat)), (1, .int .i64 (n : Nat))] [] := by
  refine ⟨_, rfl, ?_⟩
  have hI := fun H => itoaD_ev (H := H) (x := (x : Int)) (by omega) (by omega)
  have hib : intB (x : Int) = decB x := by unfold intB; rw [if_neg (by omega)]; rfl
  rw [hib] at hI
  have hl := decB_len x
  have h13 : ndN x ≤ 13 := by
    by_cases h0 : x = 0
    · subst h0
      have : ndN 0 = 1 := by unfold ndN; rfl
      omega
    · have h1 := ndN_le x (by omega)
      by_cases h : ndN x ≤ 13
      · exact h
      · have : (10 : Nat) ^ 13 ≤ 10 ^ (ndN x - 1) := Nat.pow_le_pow_right (by omega) (by omega)
        have : (10 : Nat) ^ 13 = 10000000000000 := by decide
        omega
  have hR := rep_ev (H := []) (k := n - ndN x) (by omega)
  have hp := padB_eq x n
  have w1 : IntKind.i64.wrap ((n : Int) - (ndN x : Int)) = (n : Int) - (ndN x : Int) := wrap_i64 (by omega) (by omega)
  have hmx : (if (0 : Int) < (n : Int) - (ndN x : Int) then (n : Int) - (ndN x : Int) else 0) = ((n - ndN x : Nat) : Int) := by
    split <;> omega
  have hmm : minmax true (.int .i64 0) [.int .i64 ((n : Int) - (ndN x : Int))] = some (.int .i64 ((n - ndN x : Nat) : Int)) := by
    simp only [minmax, if_true]
    rw [← hmx]
  have hsl : (List.replicate (n - ndN x) (48 : UInt8)).length + ndN x ≤ 9223372036854775807 := by simp; omega
  rw [hp]
  have hal : (List.replicate (n - ndN x) (48 : UInt8)).length = n - ndN x := by simp
  apply Tells.seq (fr' := [(0, .int .i64 (x : Nat)), (1, .int .i64 (n : Nat))]) (H' := [])
  · (refine ⟨0, ?_⟩; simp (maxSteps := 2000000) -implicitDefEqProofs [-getElem?_pos, List.getElem?_cons_zero, List.getElem?_cons_succ, go_sem, eqV, plen, loadV, storeV])
  generalize decB x = D at *
  generalize List.replicate (n - ndN x) (48 : UInt8) = R at *
  generalize ndN x = N at *
  apply Tells.seq (fr' := [(1, .int .i64 (n : Nat)), (5, .str D)]) (H' := [])
  · (refine ⟨0, ?_⟩; simp (maxSteps := 2000000) -implicitDefEqProofs [-getElem?_pos, List.getElem?_cons_zero, List.getElem?_cons_succ, go_sem, eqV, plen, loadV, storeV, hI])
  generalize hz : n - N = z at *
  refine Tells.of (o := ⟨.ret, [(4, .str (R ++ D))], []⟩) ⟨0, ?_⟩ ⟨rfl, rfl⟩
  rw [← hl] at w1 hmm hsl
  simp (maxSteps := 2000000) -implicitDefEqProofs [-getElem?_pos, List.getElem?_cons_zero, List.getElem?_cons_succ, go_sem, eqV, plen, loadV, storeV, w1, hmm, hR, hsl, strOp]

end

theorem dig_ev {H : AM.Heap} {x n : Nat} (hx : x < 1000000000000) (hn : n < 8) : evT X 40 [.int .i64 (x : Nat), .int .i64 (n : Nat)] H = some (.str (padB x n), H) := by
  obtain ⟨code, hcode, o, ⟨he, h4⟩, hr⟩ := dig_code x n hx hn
  exact evT_eq (Ev1.toldP (l := [.str (padB x n)]) (evT_below X) Tryd.func40 hcode (args_flat (i := 0) rfl rfl (args_flat (i := 1) rfl rfl (args_nil 2))) rfl (by simp [gtag]) rfl rfl rfl ⟨o, ⟨he, by show some [getF o.fr 4] = _; rw [h4]⟩, hr⟩)

/-- a second's rest -/
def usT (us : Nat) : List UInt8 := if us = 0 then [] else 46 :: padB us 6

set_option maxRecDepth 100000 in
set_option maxHeartbeats 4000000 in
theorem mic_code (x : Nat) (hx : x < 1000000) : ∃ code, Tryd.f41.body = some code ∧
    Tells (Rets fun fr H => getF fr 2 = .str (usT x)) X (evT X) 41 0 code [(0, .int .i64 (x : Nat))] [] := by
  refine ⟨_, rfl, ?_⟩
  by_cases h : x = 0
  · subst h
    refine Tells.of (o := ⟨.ret, [(2, .str (usT 0))], []⟩) ⟨0, ?_⟩ ⟨rfl, rfl⟩
    rw [show usT 0 = [] from rfl]
    simp (maxSteps := 2000000) -implicitDefEqProofs [-getElem?_pos, List.getElem?_cons_zero, List.getElem?_cons_succ, go_sem, eqV, plen, loadV, storeV]
  · have hD := dig_ev (H := []) (x := x) (n := 6) (by omega) (by omega)
    have hl : (padB x 6).length = 6 := by rw [padB_of (by omega) (by omega), dgs_len]
    simp only [Int.cast_ofNat_Int] at hD
    refine Tells.of (o := ⟨.ret, [(2, .str (usT x))], []⟩) ⟨0, ?_⟩ ⟨rfl, rfl⟩
    rw [show usT x = 46 :: padB x 6 by unfold usT; rw [if_neg h]]
    generalize padB x 6 = D at *
    have h1 : ((x : Int) == 0) = false := by simp; omega
    simp (maxSteps := 2000000) -implicitDefEqProofs [-getElem?_pos, List.getElem?_cons_zero, List.getElem?_cons_succ, go_sem, eqV, plen, loadV, storeV, h, h1, hD, hl, strOp]
theorem mic_ev {H : AM.Heap} {x : Nat} (hx : x < 1000000) : evT X 41 [.int .i64 (x : Nat)] H = some (.str (usT x), H) := by
  obtain ⟨code, hcode, o, ⟨he, h4⟩, hr⟩ := mic_code x hx
  exact evT_eq (Ev1.toldP (l := [.str (usT x)]) (evT_below X) Tryd.func41 hcode (args_flat (i := 0) rfl rfl (args_nil 1)) rfl (by simp [gtag]) rfl rfl rfl ⟨o, ⟨he, by show some [getF o.fr 2] = _; rw [h4]⟩, hr⟩)

end Go.Proofs.YtafdnpcamepbmaaDoor

/- Walks: whenText. -/
namespace Go.Proofs.YtafdnpcamepbmaaDoor
open Go.AM
set_option linter.unusedSimpArgs false
set_option linter.unusedVariables false

theorem catS {x y z : List UInt8} (h : x.length + y.length ≤ 1000) (hz : x ++ y = z) : strOp .add x y = some (.str z) := by
  subst hz
  simp only [strOp]
  rw [if_pos (by omega)]

theorem padB_len {x n : Nat} (hx : x < 10000000000) (hn : n ≤ 8) : (padB x n).length ≤ 20 := by
  unfold padB
  rw [dgs_len]
  have h13 : ndN x ≤ 13 := by
    by_cases h0 : x = 0
    · subst h0
      have : ndN 0 = 1 := by unfold ndN; rfl
      omega
    · have h1 := ndN_le x (by omega)
      by_cases h : ndN x ≤ 13
      · exact h
      · have : (10 : Nat) ^ 13 ≤ 10 ^ (ndN x - 1) := Nat.pow_le_pow_right (by omega) (by omega)
        have : (10 : Nat) ^ 13 = 10000000000000 := by decide
        omega
  omega

theorem padB_len_big {x : Nat} (hx : x < 18446744073709551616) : (padB x 1).length ≤ 20 := by
  unfold padB
  rw [dgs_len]
  have h20 : ndN x ≤ 20 := by
    by_cases h0 : x = 0
    · subst h0
      have : ndN 0 = 1 := by unfold ndN; rfl
      omega
    · have h1 := ndN_le x (by omega)
      by_cases h : ndN x ≤ 20
      · exact h
      · have : (10 : Nat) ^ 20 ≤ 10 ^ (ndN x - 1) := Nat.pow_le_pow_right (by omega) (by omega)
        have : (10 : Nat) ^ 20 = 100000000000000000000 := by decide
        omega
  omega

/-- minute, second, and the rest -/
def ckT (w : Wh) : List UInt8 := 58 :: (padB w.mi.toNat 2 ++ 58 :: (padB w.s.toNat 2 ++ usT w.us.toNat))
/-- a day -/
def dyT (w : Wh) : List UInt8 := padB w.y.toNat 4 ++ 45 :: (padB w.mo.toNat 2 ++ 45 :: padB w.d.toNat 2)
/-- a moment's text, a span's -/
def wtB (w : Wh) (t : Nat) : List UInt8 :=
  if t = 11 then (if w.neg then [45] else []) ++ (padB (24 * w.d.toNat + w.h.toNat) 2 ++ ckT w)
  else if t = 10 then dyT w else dyT w ++ 32 :: (padB w.h.toNat 2 ++ ckT w)

/-- what a fine moment's numbers are -/
structure WOk (w : Wh) : Prop where
  y : 0 ≤ w.y ∧ w.y < 65536
  mo : 0 ≤ w.mo ∧ w.mo < 256
  d : 0 ≤ w.d ∧ w.d < 256
  h : 0 ≤ w.h ∧ w.h < 256
  mi : 0 ≤ w.mi ∧ w.mi < 256
  s : 0 ≤ w.s ∧ w.s < 256
  us : 0 ≤ w.us ∧ w.us < 1000000

theorem usT_len {x : Nat} (h : x < 1000000) : (usT x).length ≤ 21 := by
  unfold usT
  split
  · simp
  · have := padB_len (x := x) (n := 6) (by omega) (by omega)
    simp only [List.length_cons]; omega

section
variable (w : Wh)

set_option maxRecDepth 100000 in
set_option maxHeartbeats 4000000 in
theorem wt_r1 (t : Nat) (hw : WOk w) : ∃ code, ((Tryd.f29.body).bind (codeAt [1, 0])) = some code ∧ Run X (evT X) 29 0 code [(1, .int .u8 (t : Nat)), (2, .ptr 0 0 0 0)] [some (whO w)] ⟨.normal, [(1, .int .u8 (t : Nat)), (2, .ptr 0 0 0 0), (5, .str (ckT w))], [some (whO w)]⟩ := by
  refine ⟨_, rfl, ?_⟩
  obtain ⟨m, hm⟩ : ∃ m : Nat, w.mi = (m : Int) := ⟨w.mi.toNat, by have := hw.mi; omega⟩
  obtain ⟨s, hs⟩ : ∃ m : Nat, w.s = (m : Int) := ⟨w.s.toNat, by have := hw.s; omega⟩
  obtain ⟨u, hu⟩ : ∃ m : Nat, w.us = (m : Int) := ⟨w.us.toNat, by have := hw.us; omega⟩
  have b1 := hw.mi; have b2 := hw.s; have b3 := hw.us
  rw [hm] at b1; rw [hs] at b2; rw [hu] at b3
  have e1 := dig_ev (H := [some (whO w)]) (x := m) (n := 2) (by omega) (by omega)
  have e2 := dig_ev (H := [some (whO w)]) (x := s) (n := 2) (by omega) (by omega)
  have e3 := mic_ev (H := [some (whO w)]) (x := u) (by omega)
  have l1 := padB_len (x := m) (n := 2) (by omega) (by omega)
  have l2 := padB_len (x := s) (n := 2) (by omega) (by omega)
  have l3 := usT_len (x := u) (by omega)
  unfold ckT
  rw [hm, hs, hu]
  simp only [Int.toNat_natCast, Int.cast_ofNat_Int] at e1 e2 ⊢
  generalize padB m 2 = A at *
  generalize padB s 2 = B at *
  generalize usT u = D at *
  have c1 : strOp .add [58] A = some (.str (58 :: A)) := catS (by simp; omega) rfl
  have c2 : strOp .add (58 :: A) [58] = some (.str (58 :: (A ++ [58]))) := catS (by simp; omega) rfl
  have c3 : strOp .add (58 :: (A ++ [58])) B = some (.str (58 :: (A ++ 58 :: B))) := catS (by simp; omega) (by simp)
  have c4 : strOp .add (58 :: (A ++ 58 :: B)) D = some (.str (58 :: (A ++ 58 :: (B ++ D)))) := catS (by simp; omega) (by simp)
  apply Run.dy (by simp) keep29_1 (by simp)
  · simp only [whO, Wh.pay, hm, hs, hu] at e1 e2 e3 ⊢
    (conv => lhs; simp (maxSteps := 2000000) -implicitDefEqProofs [-getElem?_pos, List.getElem?_cons_zero, List.getElem?_cons_succ, go_sem, eqV, plen, loadV, storeV, runD, out1, markOf, freeO, quietO, pushes, isAssign, calledV, touched, mentioned, opVals, touchCall, mentionCall, idsAt, Op.operands, ids, idsL, lendArgs, lendV, lend1, lendL, eqH_self, e1, e2, e3, c1, c2, c3, c4, reach_none])
  · kernel_rfl
  · rfl

set_option maxRecDepth 100000 in
set_option maxHeartbeats 4000000 in
theorem wt_r7 (t : Nat) (K : List UInt8) (hw : WOk w) : ∃ code, ((Tryd.f29.body).bind (codeAt [1, 1, 1, 0])) = some code ∧ ∃ tl, Run X (evT X) 29 0 code [(1, .int .u8 (t : Nat)), (2, .ptr 0 0 0 0), (5, .str K), (22, .bool false)] [some (whO w)] ⟨.normal, [(1, .int .u8 (t : Nat)), (2, .ptr 0 0 0 0), (5, .str K), (7, .str (dyT w))] ++ tl, [some (whO w)]⟩ := by
  refine ⟨_, rfl, [], ?_⟩
  obtain ⟨y, hy⟩ : ∃ m : Nat, w.y = (m : Int) := ⟨w.y.toNat, by have := hw.y; omega⟩
  obtain ⟨mo, hmo⟩ : ∃ m : Nat, w.mo = (m : Int) := ⟨w.mo.toNat, by have := hw.mo; omega⟩
  obtain ⟨d, hd⟩ : ∃ m : Nat, w.d = (m : Int) := ⟨w.d.toNat, by have := hw.d; omega⟩
  have b1 := hw.y; have b2 := hw.mo; have b3 := hw.d
  rw [hy] at b1; rw [hmo] at b2; rw [hd] at b3
  have e1 := dig_ev (H := [some (whO w)]) (x := y) (n := 4) (by omega) (by omega)
  have e2 := dig_ev (H := [some (whO w)]) (x := mo) (n := 2) (by omega) (by omega)
  have e3 := dig_ev (H := [some (whO w)]) (x := d) (n := 2) (by omega) (by omega)
  have l1 := padB_len (x := y) (n := 4) (by omega) (by omega)
  have l2 := padB_len (x := mo) (n := 2) (by omega) (by omega)
  have l3 := padB_len (x := d) (n := 2) (by omega) (by omega)
  unfold dyT
  rw [hy, hmo, hd]
  simp only [Int.toNat_natCast, Int.cast_ofNat_Int] at e1 e2 e3 ⊢
  generalize padB y 4 = A at *
  generalize padB mo 2 = B at *
  generalize padB d 2 = D at *
  have c1 : strOp .add A [45] = some (.str (A ++ [45])) := catS (by simp; omega) rfl
  have c2 : strOp .add (A ++ [45]) B = some (.str (A ++ 45 :: B)) := catS (by simp; omega) (by simp)
  have c3 : strOp .add (A ++ 45 :: B) [45] = some (.str (A ++ 45 :: (B ++ [45]))) := catS (by simp; omega) (by simp)
  have c4 : strOp .add (A ++ 45 :: (B ++ [45])) D = some (.str (A ++ 45 :: (B ++ 45 :: D))) := catS (by simp; omega) (by simp)
  apply Run.dy (by simp) keep29_7 (by simp)
  · simp only [whO, Wh.pay, hy, hmo, hd] at e1 e2 e3 ⊢
    (conv => lhs; simp (maxSteps := 2000000) -implicitDefEqProofs [-getElem?_pos, List.getElem?_cons_zero, List.getElem?_cons_succ, go_sem, eqV, plen, loadV, storeV, runD, out1, markOf, freeO, quietO, pushes, isAssign, calledV, touched, mentioned, opVals, touchCall, mentionCall, idsAt, Op.operands, ids, idsL, lendArgs, lendV, lend1, lendL, eqH_self, e1, e2, e3, c1, c2, c3, c4, reach_none])
  · kernel_rfl
  · rfl

set_option maxRecDepth 100000 in
set_option maxHeartbeats 4000000 in
theorem wt_code (t : Nat) (ht : t < 256) (hw : WOk w) : ∃ code, Tryd.f29.body = some code ∧
    Tells (Rets fun fr H => getF fr 4 = .str (wtB w t)) X (evT X) 29 0 code [(0, .agg w.pay), (1, .int .u8 (t : Nat))] [] := by
  refine ⟨_, rfl, ?_⟩
  apply Tells.seq (fr' := [(1, .int .u8 (t : Nat)), (2, .ptr 0 0 0 0)]) (H' := [some (whO w)])
  · unfold whO
    simp only [Wh.pay]
    (refine ⟨0, ?_⟩; simp (maxSteps := 2000000) -implicitDefEqProofs [-getElem?_pos, List.getElem?_cons_zero, List.getElem?_cons_succ, go_sem, eqV, plen, loadV, storeV])
  apply Tells.seq (piece (wt_r1 w t hw) _ rfl)
  apply Tells.assoc
  have l1 : (ckT w).length ≤ 100 := by
    unfold ckT
    have h1 := hw.mi; have h2 := hw.s; have h3 := hw.us
    have q1 := padB_len (x := w.mi.toNat) (n := 2) (by omega) (by omega)
    have q2 := padB_len (x := w.s.toNat) (n := 2) (by omega) (by omega)
    have q3 := usT_len (x := w.us.toNat) (by omega)
    simp only [List.length_cons, List.length_append]
    omega
  obtain ⟨d, hd⟩ : ∃ m : Nat, w.d = (m : Int) := ⟨w.d.toNat, by have := hw.d; omega⟩
  obtain ⟨h, hh⟩ : ∃ m : Nat, w.h = (m : Int) := ⟨w.h.toNat, by have := hw.h; omega⟩
  have b1 := hw.d; have b2 := hw.h
  rw [hd] at b1; rw [hh] at b2
  by_cases h11 : t = 11
  · subst h11
    have e1 := dig_ev (H := [some (whO w)]) (x := 24 * d + h) (n := 2) (by omega) (by omega)
    have l2 := padB_len (x := 24 * d + h) (n := 2) (by omega) (by omega)
    have w1 : IntKind.i64.wrap (24 * (d : Int)) = 24 * (d : Int) := wrap_i64 (by omega) (by omega)
    have w2 : IntKind.i64.wrap (24 * (d : Int) + (h : Int)) = ((24 * d + h : Nat) : Int) := by rw [wrap_i64 (by omega) (by omega)]; omega
    have hwt : wtB w 11 = (if w.neg then [45] else []) ++ (padB (24 * d + h) 2 ++ ckT w) := by unfold wtB; rw [if_pos rfl, hd, hh]; rfl
    rw [hwt]
    generalize ckT w = K at *
    generalize hz : 24 * d + h = z at *
    generalize padB z 2 = A at *
    simp only [Int.cast_ofNat_Int] at e1
    cases hn : w.neg
    · have c1 : strOp .add [] A = some (.str A) := catS (by simp; omega) (by simp)
      have c2 : strOp .add A K = some (.str (A ++ K)) := catS (by omega) rfl
      refine Tells.of (o := ⟨.ret, [(4, .str (A ++ K))], [some (whO w)]⟩) ⟨0, ?_⟩ ⟨rfl, by simp [getF]⟩
      simp only [whO, Wh.pay, hn, hd, hh] at e1 ⊢
      simp (maxSteps := 2000000) -implicitDefEqProofs [-getElem?_pos, List.getElem?_cons_zero, List.getElem?_cons_succ, go_sem, eqV, plen, loadV, storeV, e1, w1, w2, c1, c2]
    · have c1 : strOp .add [45] A = some (.str (45 :: A)) := catS (by simp; omega) rfl
      have c2 : strOp .add (45 :: A) K = some (.str (45 :: (A ++ K))) := catS (by simp; omega) rfl
      refine Tells.of (o := ⟨.ret, [(4, .str (45 :: (A ++ K)))], [some (whO w)]⟩) ⟨0, ?_⟩ ⟨rfl, by simp [getF]⟩
      simp only [whO, Wh.pay, hn, hd, hh] at e1 ⊢
      simp (maxSteps := 2000000) -implicitDefEqProofs [-getElem?_pos, List.getElem?_cons_zero, List.getElem?_cons_succ, go_sem, eqV, plen, loadV, storeV, e1, w1, w2, c1, c2]
  have t11 : ((t : Int) == 11) = false := by simp; omega
  apply Tells.seq (fr' := [(1, .int .u8 (t : Nat)), (2, .ptr 0 0 0 0), (5, .str (ckT w)), (22, .bool false)]) (H' := [some (whO w)])
  · (refine ⟨0, ?_⟩; simp (maxSteps := 2000000) -implicitDefEqProofs [-getElem?_pos, List.getElem?_cons_zero, List.getElem?_cons_succ, go_sem, eqV, plen, loadV, storeV, h11, t11])
  apply Tells.seq (fr' := [(1, .int .u8 (t : Nat)), (2, .ptr 0 0 0 0), (5, .str (ckT w)), (22, .bool false)]) (H' := [some (whO w)])
  · exact Run.cond (d := false) rfl ⟨0, rfl⟩
  obtain ⟨c7, hc7, tl, r7⟩ := wt_r7 w t (ckT w) hw
  apply Tells.seq (piece (P := fun cd => Run X (evT X) _ 0 cd _ _ _) ⟨c7, hc7, r7⟩ _ rfl)
  by_cases h10 : t = 10
  · subst h10
    refine Tells.of (o := ⟨.ret, [(4, .str (wtB w 10))], [some (whO w)]⟩) ⟨0, ?_⟩ ⟨rfl, rfl⟩
    rw [show wtB w 10 = dyT w from rfl]
    simp (maxSteps := 2000000) -implicitDefEqProofs [-getElem?_pos, List.getElem?_cons_zero, List.getElem?_cons_succ, go_sem, eqV, plen, loadV, storeV]
  · have t10 : ((t : Int) == 10) = false := by simp; omega
    have e1 := dig_ev (H := [some (whO w)]) (x := h) (n := 2) (by omega) (by omega)
    have l2 := padB_len (x := h) (n := 2) (by omega) (by omega)
    have l3 : (dyT w).length ≤ 100 := by
      unfold dyT
      have h1 := hw.y; have h2 := hw.mo; have h3 := hw.d
      have q1 := padB_len (x := w.y.toNat) (n := 4) (by omega) (by omega)
      have q2 := padB_len (x := w.mo.toNat) (n := 2) (by omega) (by omega)
      have q3 := padB_len (x := w.d.toNat) (n := 2) (by omega) (by omega)
      simp only [List.length_cons, List.length_append]
      omega
    have hwt : wtB w t = dyT w ++ 32 :: (padB h 2 ++ ckT w) := by unfold wtB; rw [if_neg h11, if_neg h10, hh]; rfl
    refine Tells.of (o := ⟨.ret, [(4, .str (wtB w t))], [some (whO w)]⟩) ⟨0, ?_⟩ ⟨rfl, rfl⟩
    rw [hwt]
    generalize ckT w = K at *
    generalize dyT w = D at *
    generalize padB h 2 = A at *
    have c1 : strOp .add D [32] = some (.str (D ++ [32])) := catS (by simp; omega) rfl
    have c2 : strOp .add (D ++ [32]) A = some (.str (D ++ 32 :: A)) := catS (by simp; omega) (by simp)
    have c3 : strOp .add (D ++ 32 :: A) K = some (.str (D ++ 32 :: (A ++ K))) := catS (by simp; omega) (by simp)
    simp only [Int.cast_ofNat_Int] at e1
    simp only [whO, Wh.pay, hh] at e1 ⊢
    simp (maxSteps := 2000000) -implicitDefEqProofs [-getElem?_pos, List.getElem?_cons_zero, List.getElem?_cons_succ, go_sem, eqV, plen, loadV, storeV, h10, t10, e1, c1, c2, c3]

end

theorem wt_ev {H : AM.Heap} {w : Wh} {t : Nat} (ht : t < 256) (hw : WOk w) : evT X 29 [.agg w.pay, .int .u8 (t : Nat)] H = some (.str (wtB w t), H) := by
  obtain ⟨code, hcode, o, ⟨he, h4⟩, hr⟩ := wt_code w t ht hw
  exact evT_eq (Ev1.toldP (l := [.str (wtB w t)]) (evT_below X) Tryd.func29 hcode (args_wh (args_flat (i := 1) rfl rfl (args_nil 2))) rfl (by simp [gtag]) rfl rfl rfl ⟨o, ⟨he, by show some [getF o.fr 4] = _; rw [h4]⟩, hr⟩)

end Go.Proofs.YtafdnpcamepbmaaDoor

/- Walks: Text. -/
namespace Go.Proofs.YtafdnpcamepbmaaDoor
open Go.AM
set_option linter.unusedSimpArgs false
set_option linter.unusedVariables false

theorem fin_wok {w : Wh} {t : Nat} (h : fin w t = true) : WOk w := by
  have h2 := fin_nn h
  have hc : clk w = true := by
    unfold fin at h
    simp only [Bool.and_eq_true] at h
    exact h.1
  unfold clk btw at hc
  simp only [Bool.and_eq_true, decide_eq_true_eq] at hc
  exact ⟨by omega, by omega, by omega, by omega, by omega, by omega, by omega⟩

theorem ok_kd {v : Va} {t : Ty} (h : chkV v t = 0) (hk : v.k ≠ 0) : v.k = kindN t.t t.u := by
  rcases chk_ok h with rfl | h
  · exact absurd rfl hk
  · unfold okVa okVk at h
    split at h
    · rename_i h1; simp only [Bool.and_eq_true, decide_eq_true_eq] at h; omega
    split at h
    · simp only [Bool.and_eq_true, decide_eq_true_eq] at h; omega
    split at h
    · simp only [Bool.and_eq_true, decide_eq_true_eq] at h; omega
    split at h
    · simp only [Bool.and_eq_true, decide_eq_true_eq] at h; omega
    · cases h
theorem kd_time {t : Nat} {u : Bool} (h : kindN t u = 6) : t = 11 := by
  unfold kindN at h
  by_cases h11 : t = 11
  · exact h11
  · exfalso
    revert h
    repeat' split
    all_goals omega
theorem kd_date {t : Nat} {u : Bool} (h : kindN t u = 5) : t ≠ 11 := by
  rintro rfl
  unfold kindN at h
  revert h
  repeat' split
  all_goals omega

/-- a value's text -/
def vtX (v : Va) (t : Ty) : List UInt8 × Int := if chkV v t ≠ 0 then ([], 2) else if v.k = 1 then (intB v.i, 0) else if v.k = 2 then (decB v.b, 0) else if v.k = 5 ∨ v.k = 6 then (wtB v.w t.t, 0) else if v.k = 7 then (v.t, 0) else ([], 2)

theorem chk_two {v : Va} {t : Ty} (h : chkV v t ≠ 0) : chkV v t = 2 := by
  unfold chkV at h ⊢
  repeat' split
  all_goals first | rfl | (exfalso; simp_all)

section
variable (v : Va) (t : Ty)

set_option maxRecDepth 100000 in
set_option maxHeartbeats 8000000 in
theorem text_code (ht : t.t < 256) (hb : v.b < 18446744073709551616) (hi : -9223372036854775808 ≤ v.i ∧ v.i < 9223372036854775808) : ∃ code, Tryd.f17.body = some code ∧
    Tells (Rets fun fr H => getF fr 4 = .str (vtX v t).1 ∧ getF fr 5 = .int .i64 (vtX v t).2) X (evT X) 17 0 code [(0, .agg v.pay), (1, .agg t.pay)] [] := by
  refine ⟨_, rfl, ?_⟩
  have hC := fun H => check_ev (v := v) (t := t) ht hb hi H
  apply Tells.seq (fr' := [(2, .ptr 0 0 0 0), (3, .ptr 1 0 0 0)]) (H' := [some (vaO v), some (tyO t)])
  · unfold vaO tyO
    simp only [Va.pay, Ty.pay]
    (refine ⟨0, ?_⟩; simp (maxSteps := 2000000) -implicitDefEqProofs [-getElem?_pos, List.getElem?_cons_zero, List.getElem?_cons_succ, go_sem, eqV, plen, loadV, storeV])
  apply Tells.assoc
  apply Tells.seq (fr' := [(2, .ptr 0 0 0 0), (3, .ptr 1 0 0 0), (6, .int .i64 (chkV v t))]) (H' := [some (vaO v), some (tyO t)])
  · simp only [Va.pay, Ty.pay] at hC
    (refine ⟨0, ?_⟩; simp (maxSteps := 2000000) -implicitDefEqProofs [-getElem?_pos, List.getElem?_cons_zero, List.getElem?_cons_succ, go_sem, eqV, plen, loadV, storeV, vaO, tyO, Va.pay, Ty.pay, mkVa, mkTy, hC])
  clear hC
  by_cases hc : chkV v t ≠ 0
  · rw [show vtX v t = ([], 2) by unfold vtX; rw [if_pos hc], chk_two hc]
    refine Tells.of (o := ⟨.ret, [(4, .str []), (5, .int .i64 2)], [some (vaO v), some (tyO t)]⟩) ⟨0, ?_⟩ ⟨rfl, rfl, rfl⟩
    simp (maxSteps := 2000000) -implicitDefEqProofs [-getElem?_pos, List.getElem?_cons_zero, List.getElem?_cons_succ, go_sem, eqV, plen, loadV, storeV]
  have hc0 : chkV v t = 0 := by simpa using hc
  have htx : vtX v t = if v.k = 1 then (intB v.i, 0) else if v.k = 2 then (decB v.b, 0) else if v.k = 5 ∨ v.k = 6 then (wtB v.w t.t, 0) else if v.k = 7 then (v.t, 0) else ([], 2) := by unfold vtX; rw [if_neg hc]
  obtain ⟨_, ff, _, fk⟩ := ok_facts hc0
  rw [hc0, htx]
  apply Tells.assoc
  apply Tells.seq (fr' := [(2, .ptr 0 0 0 0), (3, .ptr 1 0 0 0), (6, .int .i64 0), (11, .bool false)]) (H' := [some (vaO v), some (tyO t)])
  · (refine ⟨0, ?_⟩; simp (maxSteps := 2000000) -implicitDefEqProofs [-getElem?_pos, List.getElem?_cons_zero, List.getElem?_cons_succ, go_sem, eqV, plen, loadV, storeV])
  apply Tells.seq (fr' := [(2, .ptr 0 0 0 0), (3, .ptr 1 0 0 0), (6, .int .i64 0), (11, .bool false)]) (H' := [some (vaO v), some (tyO t)])
  · exact Run.cond (d := false) rfl ⟨0, rfl⟩
  by_cases k1 : v.k = 1
  · rw [if_pos k1]
    have hF := fun H => sfmtI_ev (H := H) hi.1 hi.2
    refine Tells.of (o := ⟨.ret, [(4, .str (intB v.i)), (5, .int .i64 0)], [some (vaO v), some (tyO t)]⟩) ⟨0, ?_⟩ ⟨rfl, rfl, rfl⟩
    simp (maxSteps := 2000000) -implicitDefEqProofs [-getElem?_pos, List.getElem?_cons_zero, List.getElem?_cons_succ, go_sem, eqV, plen, loadV, storeV, vaO, tyO, Va.pay, Ty.pay, k1, hF]
  rw [if_neg k1]
  by_cases k2 : v.k = 2
  · rw [if_pos k2]
    have hF := fun H => sfmtU_ev (H := H) hb
    refine Tells.of (o := ⟨.ret, [(4, .str (decB v.b)), (5, .int .i64 0)], [some (vaO v), some (tyO t)]⟩) ⟨0, ?_⟩ ⟨rfl, rfl, rfl⟩
    simp (maxSteps := 2000000) -implicitDefEqProofs [-getElem?_pos, List.getElem?_cons_zero, List.getElem?_cons_succ, go_sem, eqV, plen, loadV, storeV, vaO, tyO, Va.pay, Ty.pay, k2, hF]
  rw [if_neg k2]
  by_cases k5 : v.k = 5 ∨ v.k = 6
  · rw [if_pos k5]
    have hF := fun H => wt_ev (H := H) (w := v.w) ht (fin_wok (ff k5))
    refine Tells.of (o := ⟨.ret, [(4, .str (wtB v.w t.t)), (5, .int .i64 0)], [some (vaO v), some (tyO t)]⟩) ⟨0, ?_⟩ ⟨rfl, rfl, rfl⟩
    simp only [Wh.pay] at hF
    rcases k5 with k5 | k5
    · simp (maxSteps := 2000000) -implicitDefEqProofs [-getElem?_pos, List.getElem?_cons_zero, List.getElem?_cons_succ, go_sem, eqV, plen, loadV, storeV, vaO, tyO, Va.pay, Ty.pay, k5, mkWh, hF]
    · simp (maxSteps := 2000000) -implicitDefEqProofs [-getElem?_pos, List.getElem?_cons_zero, List.getElem?_cons_succ, go_sem, eqV, plen, loadV, storeV, vaO, tyO, Va.pay, Ty.pay, k5, mkWh, hF]
  rw [if_neg k5]
  by_cases k7 : v.k = 7
  · rw [if_pos k7]
    refine Tells.of (o := ⟨.ret, [(4, .str v.t), (5, .int .i64 0)], [some (vaO v), some (tyO t)]⟩) ⟨0, ?_⟩ ⟨rfl, rfl, rfl⟩
    simp (maxSteps := 2000000) -implicitDefEqProofs [-getElem?_pos, List.getElem?_cons_zero, List.getElem?_cons_succ, go_sem, eqV, plen, loadV, storeV, vaO, tyO, Va.pay, Ty.pay, k7]
  rw [if_neg k7]
  have k5' : v.k ≠ 5 := fun h => k5 (.inl h)
  have k6' : v.k ≠ 6 := fun h => k5 (.inr h)
  refine Tells.of (o := ⟨.ret, [(4, .str []), (5, .int .i64 2)], [some (vaO v), some (tyO t)]⟩) ⟨0, ?_⟩ ⟨rfl, rfl, rfl⟩
  have b1 : (v.k == 1) = false := by simpa using k1
  have b2 : (v.k == 2) = false := by simpa using k2
  have b5 : (v.k == 5) = false := by simpa using k5'
  have b6 : (v.k == 6) = false := by simpa using k6'
  have b7 : (v.k == 7) = false := by simpa using k7
  simp (maxSteps := 2000000) -implicitDefEqProofs [-getElem?_pos, List.getElem?_cons_zero, List.getElem?_cons_succ, go_sem, eqV, plen, loadV, storeV, vaO, tyO, Va.pay, Ty.pay, k1, k2, k5', k6', k7, b1, b2, b5, b6, b7]

end

theorem text_ev {H : AM.Heap} {v : Va} {t : Ty} (ht : t.t < 256) (hb : v.b < 18446744073709551616) (hi : -9223372036854775808 ≤ v.i ∧ v.i < 9223372036854775808) :
    evT X 17 [.agg v.pay, .agg t.pay] H = some (.tup [.str (vtX v t).1, .int .i64 (vtX v t).2], H) := by
  obtain ⟨code, hcode, o, ⟨he, h4, h5⟩, hr⟩ := text_code v t ht hb hi
  exact evT_eq (Ev1.toldP (l := [.str (vtX v t).1, .int .i64 (vtX v t).2]) (evT_below X) Tryd.func17 hcode (args_va (i := 0) (args_ty (i := 1) (args_nil 2))) (by simp [Va.pay, Ty.pay, idsL, ids]) (by simp [gtag]) rfl rfl rfl ⟨o, ⟨he, by show some [getF o.fr 4, getF o.fr 5] = _; rw [h4, h5]⟩, hr⟩)

end Go.Proofs.YtafdnpcamepbmaaDoor

/- Plain: what row.Turned tells: each value's text in its place. -/
namespace Go.Proofs.YtafdnpcamepbmaaDoor
open Go.AM
set_option linter.unusedSimpArgs false
set_option linter.unusedVariables false

/-- a type that has no text -/
def bad45 (t : Ty) : Bool := decide (t.t = 4) || decide (t.t = 5)
/-- a value turned -/
def trnV (v : Va) (t : Ty) : Va := if v.k = 0 then v else { k := 7, t := (vtX v t).1 }
/-- a row turned up to its i-th value -/
def trZ (l : List Va) (ts : List Ty) (i : Nat) : List Va := (List.zipWith trnV l ts).take i ++ l.drop i
/-- what Turned tells -/
def trdB (b : List UInt8) (ts : List Ty) : List UInt8 × Int :=
  if (rdBin b ts).2 ≠ 0 then ([], (rdBin b ts).2) else if ts.any bad45 then ([], 2) else txApp [] (List.zipWith trnV (rdBin b ts).1 ts)

theorem trZ_zero (l : List Va) (ts : List Ty) : trZ l ts 0 = l := by simp [trZ]
theorem trZ_all {l : List Va} {ts : List Ty} (h : l.length = ts.length) : trZ l ts l.length = List.zipWith trnV l ts := by
  unfold trZ
  rw [List.drop_length, List.append_nil, List.take_of_length_le (by rw [List.length_zipWith]; omega)]
theorem trZ_len {l : List Va} {ts : List Ty} (h : l.length = ts.length) (i : Nat) : (trZ l ts i).length = l.length := by
  unfold trZ
  rw [List.length_append, List.length_take, List.length_zipWith, List.length_drop]; omega
theorem trZ_at {l : List Va} {ts : List Ty} (h : l.length = ts.length) {i : Nat} {v : Va} (hv : l[i]? = some v) : (trZ l ts i)[i]? = some v := by
  have hi := at_lt hv
  unfold trZ
  have e : ((List.zipWith trnV l ts).take i).length = i := by rw [List.length_take, List.length_zipWith]; omega
  rw [List.getElem?_append_right (by omega), e, Nat.sub_self, List.getElem?_drop, Nat.add_zero, hv]
theorem trZ_set {l : List Va} {ts : List Ty} (h : l.length = ts.length) {i : Nat} {v : Va} {t : Ty} (hv : l[i]? = some v) (ht : ts[i]? = some t) : (trZ l ts i).set i (trnV v t) = trZ l ts (i + 1) := by
  have hi := at_lt hv
  unfold trZ
  have e : ((List.zipWith trnV l ts).take i).length = i := by rw [List.length_take, List.length_zipWith]; omega
  have hd : l.drop i = v :: l.drop (i + 1) := by
    rw [List.drop_eq_getElem_cons hi]
    rw [List.getElem?_eq_getElem hi] at hv
    rw [Option.some.inj hv]
  rw [hd, List.take_add_one, List.getElem?_zipWith, hv, ht, List.set_append_right _ _ (by omega), e, Nat.sub_self]
  simp
theorem trZ_same {l : List Va} {ts : List Ty} (h : l.length = ts.length) {i : Nat} {v : Va} {t : Ty} (hv : l[i]? = some v) (ht : ts[i]? = some t) (hk : v.k = 0) : trZ l ts (i + 1) = trZ l ts i := by
  rw [← trZ_set h hv ht, show trnV v t = v by unfold trnV; rw [if_pos hk]]
  have hz := trZ_at h hv
  have hi := at_lt hz
  rw [List.getElem?_eq_getElem hi] at hz
  rw [← Option.some.inj hz, List.set_getElem_self]

theorem rbF_len {f : Nat → Bool} {ts : List Ty} : ∀ {k i : Nat} {a : List Va} {r : List UInt8} {x : List Va} {r' : List UInt8}, rbF f ts k i a r = (x, r', 0) → x.length = a.length + k
  | 0, i, a, r, x, r', h => by rw [rbF] at h; cases h; rfl
  | k + 1, i, a, r, x, r', h => by
    rw [rbF] at h
    split at h
    · have := rbF_len h; rw [this]; simp; omega
    split at h
    · rename_i h2; exact absurd (congrArg (fun x => x.2.2) h) h2
    · have := rbF_len h; rw [this]; simp; omega

theorem rwZ_len {f : Nat → Bool} {ts : List Ty} {k : Nat} {r : List UInt8} : (rwZ (rbF f ts k 0 [] r)).2 = 0 → (rwZ (rbF f ts k 0 [] r)).1.length = k := by
  rcases hx : rbF f ts k 0 [] r with ⟨x, r', e⟩
  unfold rwZ
  split
  · rename_i h2; intro h; exact absurd h h2
  rename_i h2
  simp only [ne_eq, Decidable.not_not] at h2
  subst h2
  split
  · intro h; simp at h
  · intro _; simpa using rbF_len hx

theorem rdBin_len {b : List UInt8} {ts : List Ty} (h : (rdBin b ts).2 = 0) : (rdBin b ts).1.length = ts.length := by
  revert h
  unfold rdBin
  split
  · intro h; simp at h
  split
  · intro h; simp at h
  split
  · intro h; simp at h
  split
  · intro h; simp at h
  split
  · intro h; simp at h
  unfold rdBm
  split
  · intro h; simp at h
  split
  · intro h; simp at h
  exact rwZ_len

theorem ndN_20 {x : Nat} (hx : x < 18446744073709551616) : ndN x ≤ 20 := by
  have := padB_len_big hx
  unfold padB at this
  rw [dgs_len] at this
  omega

theorem wtB_len {w : Wh} {t : Nat} (h : WOk w) : (wtB w t).length ≤ 200 := by
  obtain ⟨y, mo, d, hh, mi, s, us⟩ := h
  have h1 := padB_len (x := w.y.toNat) (n := 4) (by omega) (by omega)
  have h2 := padB_len (x := w.mo.toNat) (n := 2) (by omega) (by omega)
  have h3 := padB_len (x := w.d.toNat) (n := 2) (by omega) (by omega)
  have h4 := padB_len (x := w.h.toNat) (n := 2) (by omega) (by omega)
  have h5 := padB_len (x := w.mi.toNat) (n := 2) (by omega) (by omega)
  have h6 := padB_len (x := w.s.toNat) (n := 2) (by omega) (by omega)
  have h7 := usT_len (x := w.us.toNat) (by omega)
  have h8 := padB_len (x := 24 * w.d.toNat + w.h.toNat) (n := 2) (by omega) (by omega)
  have hc : (ckT w).length ≤ 70 := by unfold ckT; simp only [List.length_append, List.length_cons]; omega
  have hd : (dyT w).length ≤ 70 := by unfold dyT; simp only [List.length_append, List.length_cons]; omega
  unfold wtB
  split
  · simp only [List.length_append]
    have : (if w.neg = true then [(45 : UInt8)] else []).length ≤ 1 := by split <;> simp
    omega
  split
  · omega
  · simp only [List.length_append, List.length_cons]; omega

theorem vtX_len {v : Va} {t : Ty} (h : v.okR) : (vtX v t).1.length ≤ v.t.length + 200 := by
  obtain ⟨h1, h2, h3⟩ := h
  unfold vtX
  split
  · simp
  rename_i hc
  have hc0 : chkV v t = 0 := by simpa using hc
  split
  · show (intB v.i).length ≤ _
    unfold intB
    split
    · have := ndN_20 (x := (-v.i).toNat) (by omega)
      rw [List.length_cons, decB_len]; omega
    · have := ndN_20 (x := v.i.toNat) (by omega)
      rw [decB_len]; omega
  split
  · have := ndN_20 (x := v.b) (by omega)
    show (decB v.b).length ≤ _
    rw [decB_len]; omega
  split
  · rename_i k5
    obtain ⟨_, ff, _, _⟩ := ok_facts hc0
    have := wtB_len (t := t.t) (fin_wok (ff k5))
    show (wtB v.w t.t).length ≤ _
    omega
  split
  · show v.t.length ≤ _; omega
  · simp

theorem trnV_ok {v : Va} {t : Ty} (h : v.okR) : (trnV v t).okR := by
  unfold trnV
  split
  · exact h
  · unfold Va.okR; simp

theorem trn_all {l : List Va} {ts : List Ty} (h : ∀ v ∈ l, v.okR) : ∀ p ∈ List.zipWith trnV l ts, p.okR := by
  intro p hp
  obtain ⟨i, hi, rfl⟩ := List.getElem_of_mem hp
  rw [List.getElem_zipWith]
  exact trnV_ok (h _ (List.getElem_mem _))

theorem trn_sum : ∀ (l : List Va) (ts : List Ty), (∀ v ∈ l, v.okR) → (txR (List.zipWith trnV l ts)).length ≤ sumV l + 209 * l.length
  | [], _, _ => by simp [txR, sumV]
  | v :: l, [], _ => by simp [txR]
  | v :: l, t :: ts, h => by
    have ih := trn_sum l ts (fun p hp => h p (List.mem_cons_of_mem _ hp))
    have h2 := vtX_len (t := t) (h v (List.mem_cons_self ..))
    have ha := aT_le (trnV v t).t
    have h4 : (trnV v t).t.length ≤ v.t.length + 200 := by unfold trnV; split <;> omega
    have h3 : (txV (trnV v t)).length ≤ v.t.length + 209 := by unfold txV; split <;> first | omega | (simp only [List.length_cons, List.length_nil]; omega)
    have e1 : (txR (List.zipWith trnV (v :: l) (t :: ts))).length = (txV (trnV v t)).length + (txR (List.zipWith trnV l ts)).length := by simp [txR]
    have e2 : sumV (v :: l) = v.t.length + sumV l := by simp [sumV]
    rw [e1, e2, List.length_cons]; omega

end Go.Proofs.YtafdnpcamepbmaaDoor

/- Walks: a text row read. -/
namespace Go.Proofs.YtafdnpcamepbmaaDoor
open Go.AM
set_option linter.unusedSimpArgs false
set_option linter.unusedVariables false

/-- an empty slice of values -/
def nilV : AM.Obj := ⟨.pr 12 [], 0, .none, 0, true, false, 0⟩
theorem nilV_rw : Rw (.pr 12 []) 0 nilV := ⟨rfl, rfl, rfl, rfl, rfl⟩
theorem emV : rowOf (emptyRow X 38) .none 0 = nilV := by kernel_rfl
theorem noslVa : noSl X 6 38 = true := by kernel_rfl
theorem bsVa (H : AM.Heap) (v : Va) : buildSliceV X H 25 1 [(0, .agg v.pay)] = some (.ro 1 (.pr 12 [v.pay]) 0, H) := by
  obtain ⟨k, i, b, s, ⟨neg, y, mo, d, h, mi, sc, us⟩⟩ := v
  kernel_rfl

theorem app_va {H : AM.Heap} {o i : Nat} {ob : AM.Obj} {a : List Va} (v : Va) (hi : a.length = i) (h9 : i ≤ 9000000) (h : H[o]? = some (some ob)) (hw : Rw (.pr 12 (a.map Va.pay)) i ob) :
    ∃ ob', Rw (.pr 12 ((a ++ [v]).map Va.pay)) (i + 1) ob' ∧ appendV X H 25 (.sl o 0 i i) (.ro 1 (.pr 12 [v.pay]) 0) = some (.sl o 0 (i + 1) (i + 1), upd H o (some ob')) := by
  have hlen : (a.map Va.pay).length = i := by rw [List.length_map, hi]
  obtain ⟨ob', hw', hA⟩ := app_rows (C := X) (T := 25) (e := 38) (es := 12) (H := H) (o := o) (m := [v.pay]) (src := .ro 1 (.pr 12 [v.pay]) 0) (by simp) (by simp) (by omega) (by simp) (by simp) h hw rfl (by rw [hlen]; simp; omega)
  rw [hlen] at hA
  exact ⟨ob', by rw [List.map_append]; exact hw', hA⟩

section
variable (c : Nat) (n : Nat)

def ytFr (i : Nat) (r : List UInt8) : AM.Frame := [(0, .ro c (.pb r) 1), (6, .sl 1 0 i i), (16, .int .i64 (n : Nat)), (17, .int .i64 (i : Nat))]
def ytHp (a : List Va) (H : AM.Heap) : Prop := ∃ ob, H[1]? = some (some ob) ∧ Rw (.pr 12 (a.map Va.pay)) a.length ob

set_option maxRecDepth 100000 in
set_option maxHeartbeats 4000000 in
/-- nothing, put behind the others -/
theorem yt_nil (r : List UInt8) (y : UInt8) (a : List Va) (H : AM.Heap) (ha : a.length ≤ 9000000) (hc : c ≠ 0) (hH : ytHp a H) :
    ∃ H', ytHp (a ++ [({} : Va)]) H' ∧ H'.length = H.length ∧ ∃ code, ((Tryd.f12.body).bind (codeAt [1, 1, 1, 0, 1, 0, 0, 1, 1, 0, 0, 0, 1, 0, 0])) = some code ∧ Run X (evT X) 12 0 code (ytFr c n a.length (y :: r) ++ [(27, .bool true)]) H ⟨.normal, [(0, .ro c (.pb r) 1), (6, .sl 1 0 (a.length + 1) (a.length + 1)), (16, .int .i64 (n : Nat)), (17, .int .i64 (a.length : Nat))], H'⟩ := by
  obtain ⟨ob, h1, hw⟩ := hH
  obtain ⟨ob', hw', hA⟩ := app_va ({} : Va) rfl ha h1 hw
  have hlt := at_lt h1
  refine ⟨upd H 1 (some ob'), ⟨ob', at_set h1, by simpa using hw'⟩, by simp [upd], _, rfl, ?_⟩
  have hbs := fun H => bsVa H ({} : Va)
  have hbv := bvV0
  have hsl := fun H => slFrom (c := c) (t := 1) (n := 1) (b := y :: r) (fun h => absurd h hc) (by simp) H
  simp only [List.drop_succ_cons, List.drop_zero, Int.cast_ofNat_Int] at hsl
  unfold ytFr
  have hwg := hw.g
  have hwi := hw.ids
  simp only [Va.pay, Int.cast_ofNat_Int] at hA hbs hbv
  generalize a.length = i at *
  apply Run.dy (by simp) keep12_7 (by simp)
  · (conv => lhs; simp (maxSteps := 2000000) -implicitDefEqProofs [-getElem?_pos, List.getElem?_cons_zero, List.getElem?_cons_succ, go_sem, eqV, plen, loadV, storeV, runD, out1, markOf, freeO, quietO, pushes, isAssign, calledV, touched, mentioned, opVals, touchCall, mentionCall, idsAt, Op.operands, ids, idsL, lendArgs, lendV, lend1, lendL, eqH_self, hbv, hbs, hA, hsl, assignV, noslVa])
    rfl
  · refine marksOk_of (ps := [(0, 1), (0, 2), (0, 4), (1, 4), (2, 4), (3, 4), (0, 5), (1, 5), (2, 5), (3, 5), (4, 6), (5, 6)]) (by kernel_rfl) ?_
    simp [bearP, bear, disjoint, lookOk]
  · rfl

set_option maxRecDepth 100000 in
set_option maxHeartbeats 4000000 in
/-- a text, put behind the others -/
theorem yt_val (r s : List UInt8) (k : Nat) (a : List Va) (H : AM.Heap) (ha : a.length ≤ 9000000) (hc : c = 0 → r = []) (hk : k ≤ r.length) (hH : ytHp a H) :
    ∃ H', ytHp (a ++ [({ k := 7, t := s } : Va)]) H' ∧ H'.length = H.length ∧ ∃ code, ((Tryd.f12.body).bind (codeAt [1, 1, 1, 0, 1, 0, 0, 1, 1, 0, 0, 1, 1, 1, 1])) = some code ∧ Run X (evT X) 12 0 code [(0, .ro c (.pb r) 1), (6, .sl 1 0 a.length a.length), (7, .str s), (8, .int .i64 (k : Nat)), (16, .int .i64 (n : Nat)), (17, .int .i64 (a.length : Nat)), (45, .bool false)] H ⟨.normal, [(0, .ro c (.pb (r.drop k)) 1), (6, .sl 1 0 (a.length + 1) (a.length + 1)), (16, .int .i64 (n : Nat)), (17, .int .i64 (a.length : Nat))], H'⟩ := by
  obtain ⟨ob, h1, hw⟩ := hH
  obtain ⟨ob', hw', hA⟩ := app_va ({ k := 7, t := s } : Va) rfl ha h1 hw
  have hlt := at_lt h1
  refine ⟨upd H 1 (some ob'), ⟨ob', at_set h1, by simpa using hw'⟩, by simp [upd], _, rfl, ?_⟩
  have hbs := fun H => bsVa H ({ k := 7, t := s } : Va)
  have hbv := bvVt 7 s
  have hsl := fun H => slFrom (c := c) (t := 1) (n := k) (b := r) hc hk H
  simp only [Va.pay, Int.cast_ofNat_Int] at hA hbs hbv
  generalize a.length = i at *
  apply Run.dy (by simp) keep12_13 (by simp)
  · (conv => lhs; simp (maxSteps := 2000000) -implicitDefEqProofs [-getElem?_pos, List.getElem?_cons_zero, List.getElem?_cons_succ, go_sem, eqV, plen, loadV, storeV, runD, out1, markOf, freeO, quietO, pushes, isAssign, calledV, touched, mentioned, opVals, touchCall, mentionCall, idsAt, Op.operands, ids, idsL, lendArgs, lendV, lend1, lendL, eqH_self, hbv, hbs, hA, hsl, assignV, noslVa])
    rfl
  · refine marksOk_of (ps := [(0, 1), (0, 2), (0, 3), (0, 5), (1, 5), (2, 5), (3, 5), (4, 5), (0, 6), (1, 6), (2, 6), (3, 6), (4, 6), (5, 6), (0, 7), (1, 7), (2, 7), (3, 7), (4, 7), (5, 8), (6, 8), (7, 8)]) (by kernel_rfl) ?_
    simp [bearP, bear, disjoint, lookOk]
  · rfl

/-- how ReadText tells of a reading -/
def ytQ (x : List Va × Int) (fr : AM.Frame) (H : AM.Heap) : Prop := ∃ o g ob, getF fr 4 = .sl o 0 x.1.length g ∧ getF fr 5 = .int .i64 x.2 ∧ H[o]? = some (some ob) ∧ Rw (.pr 12 (x.1.map Va.pay)) g ob

set_option maxRecDepth 100000 in
set_option maxHeartbeats 4000000 in
/-- a round -/
theorem yt_round (r : List UInt8) (a : List Va) (H : AM.Heap) (ha : a.length ≤ 9000000) (hc : c = 0 → r = []) (hr : r.length ≤ 90000000) (hH : ytHp a H) :
    ∃ code, ((Tryd.f12.body).bind (codeAt [1, 1, 1, 0, 1, 0, 0, 1, 1, 0])) = some code ∧
      Tells (Or2 (fun fr H' => ∃ r' v, fr = [(0, .ro c (.pb r') 1), (6, .sl 1 0 (a.length + 1) (a.length + 1)), (16, .int .i64 (n : Nat)), (17, .int .i64 (a.length : Nat))] ∧ r'.length ≤ r.length ∧ (∀ k, rdTx (k + 1) a r = rdTx k (a ++ [v]) r') ∧ ytHp (a ++ [v]) H') (fun out => out.ex = .ret ∧ ∃ e, e ≠ 0 ∧ (∀ k, rdTx (k + 1) a r = ([], [], e)) ∧ ytQ ([], e) out.fr out.H))
       X (evT X) 12 0 code (ytFr c n a.length r ++ [(18, .bool true)]) H := by
  refine ⟨_, rfl, ?_⟩
  have hnew : ∀ x : Option AM.Obj, (H ++ [x])[H.length]? = some x := fun x => by simp
  by_cases hh : r.head? = some 251
  · obtain ⟨r', rfl⟩ : ∃ r', r = 251 :: r' := by
      cases r with
      | nil => simp at hh
      | cons y r' => simp at hh; subst hh; exact ⟨r', rfl⟩
    obtain ⟨H', hH', hl, hc1⟩ := yt_nil c n r' 251 a H ha (fun h => by have := hc h; simp at this) hH
    refine Tells.of (o := ⟨.normal, [(0, .ro c (.pb r') 1), (6, .sl 1 0 (a.length + 1) (a.length + 1)), (16, .int .i64 (n : Nat)), (17, .int .i64 (a.length : Nat))], H'⟩) ?_ (.inl ⟨rfl, r', {}, rfl, by simp, fun k => by rw [rdTx, if_pos hh]; rfl, hH'⟩)
    apply Run.block_exit (id := 1)
    apply Run.seq_out (hne := by simp)
    apply Run.seq (fr' := ytFr c n a.length (251 :: r') ++ [(27, .bool true)]) (H' := H)
    · unfold ytFr
      generalize a.length = i at *
      have hp : (0 : Int) < ((r'.length + 1 : Nat) : Int) := by omega
      have hp2 : (0 : Int) < (r'.length : Int) + 1 := by omega
      (refine ⟨0, ?_⟩; simp (maxSteps := 2000000) -implicitDefEqProofs [-getElem?_pos, List.getElem?_cons_zero, List.getElem?_cons_succ, go_sem, eqV, plen, loadV, storeV, hp, hp2])
    refine condT (by simp [evalO, getF, ytFr]) ?_
    apply Run.seq (piece hc1 _ rfl)
    exact ⟨0, rfl⟩
  have hR := readText_ev (H := H) (a := .ro c (.pb r) 1) (b := r) (Byt.ro (.inl rfl) hc) hr
  have hX : ∀ j, rdTx (j + 1) a r = if (rdT r).2.2 ≠ 0 then ([], [], (rdT r).2.2) else if 16777216 < (rdT r).1.length then ([], [], 5) else rdTx j (a ++ [{ k := 7, t := (rdT r).1 }]) (r.drop (rdT r).2.1) := fun j => by rw [rdTx, if_neg hh]
  have hle := fun h => rdT_le (b := r) h
  obtain ⟨s, k, e, hT⟩ : ∃ s k e, rdT r = (s, k, e) := ⟨_, _, _, rfl⟩
  rw [hT] at hR hX hle
  simp only at hR hX hle
  refine Tells.blkOr ?_ ?_
  · apply Tells.seq (fr' := ytFr c n a.length r ++ [(27, .bool false)]) (H' := H)
    · apply Run.seq (fr' := ytFr c n a.length r ++ [(27, .bool false)]) (H' := H)
      · unfold ytFr
        generalize a.length = i at *
        cases r with
        | nil => (refine ⟨0, ?_⟩; simp (maxSteps := 2000000) -implicitDefEqProofs [-getElem?_pos, List.getElem?_cons_zero, List.getElem?_cons_succ, go_sem, eqV, plen, loadV, storeV])
        | cons y r' =>
          have hy : ((y.toNat : Int) == 251) = false := by
            apply beq_eq_false_iff_ne.2
            intro h
            apply hh
            have : y = 251 := UInt8.toNat.inj (by show y.toNat = 251; omega)
            rw [this]; rfl
          have hp : (0 : Int) < ((r'.length + 1 : Nat) : Int) := by omega
          have hp2 : (0 : Int) < (r'.length : Int) + 1 := by omega
          (refine ⟨0, ?_⟩; simp (maxSteps := 2000000) -implicitDefEqProofs [-getElem?_pos, List.getElem?_cons_zero, List.getElem?_cons_succ, go_sem, eqV, plen, loadV, storeV, hp, hp2, hy])
      · exact condF (by simp [evalO, getF, ytFr]) ⟨0, rfl⟩
    apply Tells.seq (fr' := [(0, .ro c (.pb r) 1), (6, .sl 1 0 a.length a.length), (7, .str s), (8, .int .i64 (k : Nat)), (9, .int .i64 e), (16, .int .i64 (n : Nat)), (17, .int .i64 (a.length : Nat))]) (H' := H)
    · unfold ytFr
      generalize a.length = i at *
      (refine ⟨0, ?_⟩; simp (maxSteps := 2000000) -implicitDefEqProofs [-getElem?_pos, List.getElem?_cons_zero, List.getElem?_cons_succ, go_sem, eqV, plen, loadV, storeV, hR, assignV])
    by_cases he : e = 0
    · subst he
      obtain ⟨hl1, hl2⟩ := hle rfl
      apply Tells.seq (fr' := [(0, .ro c (.pb r) 1), (6, .sl 1 0 a.length a.length), (7, .str s), (8, .int .i64 (k : Nat)), (9, .int .i64 0), (16, .int .i64 (n : Nat)), (17, .int .i64 (a.length : Nat)), (41, .bool false)]) (H' := H)
      · apply Run.seq (fr' := [(0, .ro c (.pb r) 1), (6, .sl 1 0 a.length a.length), (7, .str s), (8, .int .i64 (k : Nat)), (9, .int .i64 0), (16, .int .i64 (n : Nat)), (17, .int .i64 (a.length : Nat)), (41, .bool false)]) (H' := H)
        · generalize a.length = i at *
          (refine ⟨0, ?_⟩; simp (maxSteps := 2000000) -implicitDefEqProofs [-getElem?_pos, List.getElem?_cons_zero, List.getElem?_cons_succ, go_sem, eqV, plen, loadV, storeV])
        · exact condF (by simp [evalO, getF]) ⟨0, rfl⟩
      by_cases hl : 16777216 < s.length
      · have hlI : (16777216 : Int) < (s.length : Int) := by omega
        refine Tells.of (o := ⟨.ret, [(4, .sl H.length 0 0 0), (5, .int .i64 5)], H ++ [some nilV]⟩) ?_ (.inr ⟨by simp, rfl, 5, by decide, fun j => by rw [hX, if_neg (by simp), if_pos hl], H.length, 0, nilV, rfl, rfl, by simp, nilV_rw⟩)
        apply Run.seq_out (hne := by simp)
        generalize a.length = i at *
        refine ⟨0, ?_⟩
        simp (maxSteps := 2000000) -implicitDefEqProofs [-getElem?_pos, List.getElem?_cons_zero, List.getElem?_cons_succ, go_sem, eqV, plen, loadV, storeV, hlI, assignV, emV]
      · have hlI : ¬ (16777216 : Int) < (s.length : Int) := by omega
        apply Tells.seq (fr' := [(0, .ro c (.pb r) 1), (6, .sl 1 0 a.length a.length), (7, .str s), (8, .int .i64 (k : Nat)), (16, .int .i64 (n : Nat)), (17, .int .i64 (a.length : Nat)), (45, .bool false)]) (H' := H)
        · apply Run.seq (fr' := [(0, .ro c (.pb r) 1), (6, .sl 1 0 a.length a.length), (7, .str s), (8, .int .i64 (k : Nat)), (16, .int .i64 (n : Nat)), (17, .int .i64 (a.length : Nat)), (45, .bool false)]) (H' := H)
          · generalize a.length = i at *
            (refine ⟨0, ?_⟩; simp (maxSteps := 2000000) -implicitDefEqProofs [-getElem?_pos, List.getElem?_cons_zero, List.getElem?_cons_succ, go_sem, eqV, plen, loadV, storeV, hlI])
          · exact condF (by simp [evalO, getF]) ⟨0, rfl⟩
        obtain ⟨H', hH', hlen, hc1⟩ := yt_val c n r s k a H ha hc hl1 hH
        exact Tells.of (piece hc1 _ rfl) (.inl ⟨rfl, r.drop k, _, rfl, by simp, fun j => by rw [hX, if_neg (by simp), if_neg hl], hH'⟩)
    · have heb : (e != 0) = true := by simpa using he
      refine Tells.of (o := ⟨.ret, [(4, .sl H.length 0 0 0), (5, .int .i64 e)], H ++ [some nilV]⟩) ?_ (.inr ⟨by simp, rfl, e, he, fun j => by rw [hX, if_pos he], H.length, 0, nilV, rfl, rfl, by simp, nilV_rw⟩)
      apply Run.seq_out (hne := by simp)
      generalize a.length = i at *
      refine ⟨0, ?_⟩
      simp (maxSteps := 2000000) -implicitDefEqProofs [-getElem?_pos, List.getElem?_cons_zero, List.getElem?_cons_succ, go_sem, eqV, plen, loadV, storeV, heb, assignV, emV]
  · rintro o ⟨h1, _⟩
    rw [h1]; simp

end

end Go.Proofs.YtafdnpcamepbmaaDoor

/- Walks: what a binary row's reading takes and looks up. -/
namespace Go.Proofs.YtafdnpcamepbmaaDoor
open Go.AM
set_option linter.unusedSimpArgs false
set_option linter.unusedVariables false

/-- how a slice's first part lies -/
def c2 (c : Nat) : Nat := if c = 0 then 0 else 2

section
variable (c : Nat) (b : List UInt8) (n i : Nat)

set_option maxRecDepth 100000 in
theorem take_code (hc : c = 0 → b = []) (hn : n ≤ b.length) (hb : b.length ≤ 90000000) : ∃ code, Tryd.f14.body = some code ∧
    Run X (evT X) 14 1 code [(0, .int .i64 (n : Nat)), (1, .ptr 0 0 0 0)] [some (roB c (.pb b) 3 3)] ⟨.ret, [(3, .ro (c2 c) (.pb (b.take n)) 3), (4, .int .i64 0)], [some (roB c (.pb (b.drop n)) 3 3), some nilB]⟩ := by
  refine ⟨_, rfl, ?_⟩
  have h1 : ¬ (b.length : Int) < (n : Int) := by omega
  have hs1 := fun H => slTo (t := 3) hc hn H
  have hs2 := fun H => slFrom (t := 3) hc hn H
  refine ⟨0, ?_⟩
  simp (maxSteps := 2000000) -implicitDefEqProofs [-getElem?_pos, List.getElem?_cons_zero, List.getElem?_cons_succ, go_sem, eqV, plen, loadV, storeV, roB, h1, hs1, hs2, assignV, emB, c2]

set_option maxRecDepth 100000 in
theorem take_few (hn : b.length < n) : ∃ code, Tryd.f14.body = some code ∧
    Run X (evT X) 14 1 code [(0, .int .i64 (n : Nat)), (1, .ptr 0 0 0 0)] [some (roB c (.pb b) 3 3)] ⟨.ret, [(3, .sl 2 0 0 0), (4, .int .i64 4)], [some (roB c (.pb b) 3 3), some nilB, some nilB]⟩ := by
  refine ⟨_, rfl, ?_⟩
  have h1 : (b.length : Int) < (n : Int) := by omega
  refine ⟨0, ?_⟩
  simp (maxSteps := 2000000) -implicitDefEqProofs [-getElem?_pos, List.getElem?_cons_zero, List.getElem?_cons_succ, go_sem, eqV, plen, loadV, storeV, roB, h1, assignV, emB]

set_option maxRecDepth 100000 in
theorem set_code (hi : i / 8 < b.length) (hi2 : i ≤ 9000000) : ∃ code, Tryd.f15.body = some code ∧
    Run X (evT X) 15 1 code [(0, .int .i64 (i : Nat)), (1, .ptr 0 0 0 0)] [some (roB c (.pb b) 3 3)] ⟨.ret, [(3, .bool (bitB b i))], [some (roB c (.pb b) 3 3)]⟩ := by
  refine ⟨_, rfl, ?_⟩
  obtain ⟨y, hy⟩ : ∃ y, b[i / 8]? = some y := ⟨_, List.getElem?_eq_getElem hi⟩
  have hbit : bitB b i = ((y.toNat / 2 ^ (i % 8)) % 2 == 1) := by unfold bitB; rw [List.getD, hy]; rfl
  rw [hbit]
  have e1 : Int.tdiv (i : Int) 8 = ((i / 8 : Nat) : Int) := by rw [Int.tdiv_eq_ediv_of_nonneg (by omega)]; omega
  have e2 : Int.tmod (i : Int) 8 = ((i % 8 : Nat) : Int) := by rw [Int.tmod_eq_emod_of_nonneg (by omega)]; omega
  have e3 : (i : Int) / 8 = ((i / 8 : Nat) : Int) := by omega
  have e4 : (i : Int) % 8 = ((i % 8 : Nat) : Int) := by omega
  have w1 : IntKind.i64.wrap ((i / 8 : Nat) : Int) = ((i / 8 : Nat) : Int) := wrap_i64 (by omega) (by omega)
  have hii : ((i / 8 : Nat) : Int) < (b.length : Int) := by omega
  have hr0 : ¬ ((i % 8 : Nat) : Int) < 0 := by omega
  have hsh := shr8 (y := y.toNat) (j := i % 8) (Nat.mod_lt _ (by omega))
  have han := and1 (y := y.toNat) (j := i % 8) y.toNat_lt
  have heq : ∀ z : Nat, ((z : Int) == 1) = (z == 1) := by
    intro z
    by_cases h : z = 1
    · subst h; rfl
    · have : (z == 1) = false := by simpa using h
      rw [this]; exact beq_eq_false_iff_ne.2 (by omega)
  generalize i / 8 = q at *
  generalize i % 8 = r at *
  generalize y.toNat / 2 ^ r = d at *
  have han2 := han
  simp only [go_sem] at han2
  simp only [BitVec.toNat_and] at han
  have hq := heq (d % 2)
  generalize d % 2 = dd at *
  refine ⟨0, ?_⟩
  simp (maxSteps := 2000000) -implicitDefEqProofs [-getElem?_pos, List.getElem?_cons_zero, List.getElem?_cons_succ, go_sem, eqV, plen, loadV, storeV, roB, e1, e2, e3, e4, w1, hi, hii, hy, hr0, hsh, han, han2, hq, show IntKind.u8.bits = 8 from rfl]

end

theorem set_ev {H : AM.Heap} {o c t tg i : Nat} {I : Int} {b : List UInt8} (hI : I = (i : Nat)) (h1 : H[o]? = some (some (roB c (.pb b) t tg))) (hi : i / 8 < b.length) (hi2 : i ≤ 9000000) :
    evT X 15 [.int .i64 I, .ptr o 0 0 0] H = some (.bool (bitB b i), upd H o (some (roB c (.pb b) t t))) := by
  subst hI
  obtain ⟨code, hcode, hr⟩ := set_code c b i hi hi2
  exact evT_eq (Ev1.fn1 (C := X) (f := 15) (H := H) (xs := [.int .i64 (i : Nat)]) (n := 3) (l := [.bool (bitB b i)]) (rest := []) (evT_below X) Tryd.func15 hcode (fun i => by rfl) h1 rfl rfl (by simp [gtag])
    (by rw [par15]; simpa [coerce, numbered] using hr) (.inr rfl) rfl rfl rfl rfl)

theorem take_ev {H : AM.Heap} {o c t tg n : Nat} {N : Int} {b : List UInt8} (hN : N = (n : Nat)) (h1 : H[o]? = some (some (roB c (.pb b) t tg))) (hc : c = 0 → b = []) (hn : n ≤ b.length) (hb : b.length ≤ 90000000) :
    evT X 14 [.int .i64 N, .ptr o 0 0 0] H = some (.tup [.ro (c2 c) (.pb (b.take n)) t, .int .i64 0], upd H o (some (roB c (.pb (b.drop n)) t t))) := by
  subst hN
  obtain ⟨code, hcode, hr⟩ := take_code c b n hc hn hb
  have := Ev1.boxL (C := X) (f := 14) (H := H) (o := o) (g := 0) (ob := roB c (.pb b) t tg) (ob1 := roB c (.pb (b.drop n)) 3 3) (xs := [.int .i64 (n : Nat)]) (n := 3) (t := t) (l := [.ro (c2 c) (.pb (b.take n)) 3, .int .i64 0]) (rest := [some nilB]) (evT_below X) Tryd.func14 hcode (fun i => by rfl) h1 rfl (by simp [roB, ids, idsL]) rfl rfl (by simp [gtag])
    (by simp [tagsOb, roB, tags, tagsL, joinTags_one])
    (by rw [par14]; simpa [coerce, numbered, roB, rt, ren, renL] using hr) (.inr rfl) rfl rfl rfl (by simp [roB, ids, idsL]) rfl (by simp [resultV, noTups, tags, tagsL, tagsOb, roB]) (.inr rfl)
  exact evT_eq (by simpa [resultV, noTups, roB, ren, renL, bk] using this)

theorem take_ev' {H : AM.Heap} {o c t tg n : Nat} {N : Int} {b : List UInt8} (hN : N = (n : Nat)) (h1 : H[o]? = some (some (roB c (.pb b) t tg))) (hn : b.length < n) :
    ∃ ob, evT X 14 [.int .i64 N, .ptr o 0 0 0] H = some (.tup [.sl H.length 0 0 0, .int .i64 4], upd H o (some (roB c (.pb b) t t)) ++ [some ob]) := by
  subst hN
  obtain ⟨code, hcode, hr⟩ := take_few c b n hn
  have := Ev1.boxLNew (C := X) (f := 14) (H := H) (o := o) (g := 0) (ob := roB c (.pb b) t tg) (ob1 := roB c (.pb b) 3 3) (xs := [.int .i64 (n : Nat)]) (n := 3) (t := t) (o1 := 2) (g1 := 0) (ob2 := nilB) (l := [.sl 2 0 0 0, .int .i64 4]) (rest := [some nilB, some nilB]) (evT_below X) Tryd.func14 hcode (fun i => by rfl) h1 rfl (by simp [roB, ids, idsL]) rfl rfl (by simp [gtag])
    (by simp [tagsOb, roB, tags, tagsL, joinTags_one])
    (by rw [par14]; simpa [coerce, numbered, roB, rt, ren, renL] using hr) (.inr rfl) rfl rfl rfl (by simp [roB, ids, idsL]) rfl rfl (by omega) rfl rfl rfl (by simp [resultV, noTups, tags, tagsL, tagsOb, roB]) (.inr rfl)
  exact ⟨_, evT_eq (by simpa [resultV, noTups, roB, ren, renL, bk] using this)⟩

end Go.Proofs.YtafdnpcamepbmaaDoor

/- Walks: a binary row read: the kinds of its types. -/
namespace Go.Proofs.YtafdnpcamepbmaaDoor
open Go.AM
set_option linter.unusedSimpArgs false
set_option linter.unusedVariables false

/-- a type of no kind -/
def noK (t : Ty) : Bool := decide (kindN t.t t.u < 0)

section
variable (e : Nat) (ts : List Ty)

/-- the types, as they came -/
def tyA : AV := .ro e (.pr 2 (ts.map Ty.pay)) 2
def kdFr (i : Nat) : AM.Frame := [(1, tyA e ts), (2, .ptr 0 0 0 0), (25, tyA e ts), (26, .int .i64 (ts.length : Nat)), (27, .int .i64 (i : Nat))]

set_option maxRecDepth 100000 in
set_option maxHeartbeats 4000000 in
theorem kd_loop (ob0 : AM.Obj) (H : AM.Heap) (h0 : H[0]? = some (some ob0)) (hn : ts.length ≤ 4096) (ht : ∀ t ∈ ts, t.t < 256) :
    ∃ code, ((Tryd.f5.body).bind (codeAt [1, 1, 0, 1])) = some code ∧
      Tells (Or2 (fun fr H => ts.any noK = false ∧ fr = kdFr e ts ts.length ++ [(28, .bool false)] ∧ H[0]? = some (some ob0)) (fun out => out.ex = .ret ∧ ts.any noK = true ∧ ytQ ([], 2) out.fr out.H))
       X (evT X) 5 0 code (kdFr e ts 0) H := by
  refine ⟨_, rfl, ?_⟩
  have hTl : (ts.map Ty.pay).length = ts.length := List.length_map _
  have hTat : ∀ (i : Nat) (v : Ty), ts[i]? = some v → (ts.map Ty.pay)[i]? = some v.pay := fun i p h => (by rw [List.getElem?_map, h]; rfl)
  unfold kdFr tyA
  generalize ts.map Ty.pay = T at *
  apply Tells.blockOr
  refine Tells.loopP (fun k fr H => ∃ i, k = ts.length - i ∧ i ≤ ts.length ∧ fr = [(1, .ro e (.pr 2 T) 2), (2, .ptr 0 0 0 0), (25, .ro e (.pr 2 T) 2), (26, .int .i64 (ts.length : Nat)), (27, .int .i64 (i : Nat))] ∧ H[0]? = some (some ob0) ∧ ∀ (j : Nat) (t : Ty), j < i → ts[j]? = some t → noK t = false) ?_ (k := ts.length) ⟨0, rfl, by omega, rfl, h0, by omega⟩
  rintro k fr H ⟨i, rfl, hi, rfl, h0, hall⟩
  by_cases hin : i = ts.length
  · subst hin
    refine Tells.of (o := ⟨.exit 0, [(1, .ro e (.pr 2 T) 2), (2, .ptr 0 0 0 0), (25, .ro e (.pr 2 T) 2), (26, .int .i64 (ts.length : Nat)), (27, .int .i64 (ts.length : Nat))] ++ [(28, .bool false)], H⟩) ⟨0, ?_⟩ (.inr ⟨by simp, .inl ⟨rfl, ?_, rfl, h0⟩⟩)
    · simp (maxSteps := 2000000) -implicitDefEqProofs [-getElem?_pos, List.getElem?_cons_zero, List.getElem?_cons_succ, go_sem, eqV, plen, loadV, storeV]
    · rw [List.any_eq_false]
      intro t ht
      obtain ⟨j, hj⟩ := List.mem_iff_getElem?.1 ht
      rw [hall j t (at_lt hj) hj]; simp
  have hlt : i < ts.length := by omega
  have hiI : (i : Int) < (ts.length : Int) := by omega
  obtain ⟨t, htt⟩ : ∃ p, ts[i]? = some p := ⟨_, List.getElem?_eq_getElem hlt⟩
  have hm := List.mem_of_getElem? htt
  have hrow := hTat i t htt
  have hK := kind_ev (ht t hm) (H ++ [some (tyO t)])
  have hnew : ∀ x : Option AM.Obj, (H ++ [x])[H.length]? = some x := fun x => by simp
  have w1 : IntKind.i64.wrap ((i : Int) + 1) = ((i + 1 : Nat) : Int) := by rw [wrap_i64 (by omega) (by omega)]; omega
  simp only [tyO, Ty.pay] at hK hrow
  by_cases hk : kindN t.t t.u < 0
  · have hnk : noK t = true := decide_eq_true hk
    refine Tells.of (o := ⟨.ret, [(4, .sl (H.length + 1) 0 0 0), (5, .int .i64 2)], H ++ [some (tyO t)] ++ [some nilV]⟩) ⟨0, ?_⟩ (.inr ⟨by simp, .inr ⟨rfl, rfl, List.any_eq_true.2 ⟨t, hm, hnk⟩, H.length + 1, 0, nilV, rfl, rfl, by simp, nilV_rw⟩⟩)
    generalize kindN t.t t.u = kk at *
    simp (maxSteps := 2000000) -implicitDefEqProofs [-getElem?_pos, List.getElem?_cons_zero, List.getElem?_cons_succ, go_sem, eqV, plen, loadV, storeV, hiI, hlt, hTl, hrow, tyO, Ty.pay, retagL, retag, retagP, flatCells, splice, scalars, scalar, hnew, mkTy, hK, hk, assignV, emV]
  · have hnk : noK t = false := decide_eq_false hk
    refine Tells.of (o := ⟨.normal, [(1, .ro e (.pr 2 T) 2), (2, .ptr 0 0 0 0), (25, .ro e (.pr 2 T) 2), (26, .int .i64 (ts.length : Nat)), (27, .int .i64 ((i + 1 : Nat) : Int))], H ++ [some (tyO t)]⟩) ⟨0, ?_⟩ (.inl ⟨rfl, ts.length - (i + 1), by omega, i + 1, rfl, by omega, rfl, at_cat h0, fun j q hj hq => ?_⟩)
    · generalize kindN t.t t.u = kk at *
      simp (maxSteps := 2000000) -implicitDefEqProofs [-getElem?_pos, List.getElem?_cons_zero, List.getElem?_cons_succ, go_sem, eqV, plen, loadV, storeV, hiI, hlt, hTl, hrow, tyO, Ty.pay, retagL, retag, retagP, flatCells, splice, scalars, scalar, hnew, mkTy, hK, hk, w1]
    · by_cases hji : j = i
      · subst hji; rw [htt] at hq; obtain rfl := Option.some.inj hq; exact hnk
      · exact hall j q (by omega) hq

end

section
variable (e : Nat) (ts : List Ty) (L : Nat) (b : List UInt8) (cb tb : Nat)

def t12 : AV := .fn 15 [.ptr L 0 0 0]
def zbFr (i : Nat) : AM.Frame := [(1, tyA e ts), (2, .ptr 0 0 0 0), (12, t12 L), (65, .int .i64 ((8 * b.length : Nat) : Int)), (66, .int .i64 (i : Nat))]
/-- the bits' variable, and another -/
def zbHp (ob0 : AM.Obj) (H : AM.Heap) : Prop := H[0]? = some (some ob0) ∧ 0 < L ∧ ∃ tg, H[L]? = some (some (roB cb (.pb b) tb tg))

set_option maxRecDepth 100000 in
set_option maxHeartbeats 4000000 in
/-- no bit that is none may be set -/
theorem zb_loop (ob0 : AM.Obj) (H : AM.Heap) (hn : ts.length ≤ 4096) (hb : b.length ≤ 1000) (hH : zbHp L b cb tb ob0 H) :
    ∃ code, ((Tryd.f5.body).bind (codeAt [1, 1, 1, 1, 1, 1, 1, 1, 1, 0, 1])) = some code ∧
      Tells (Or2 (fun fr H => (List.range (8 * b.length)).any (bzB b ts.length) = false ∧ fr = zbFr e ts L b (8 * b.length) ++ [(67, .bool false)] ∧ zbHp L b cb tb ob0 H) (fun out => out.ex = .ret ∧ (List.range (8 * b.length)).any (bzB b ts.length) = true ∧ ytQ ([], 5) out.fr out.H))
       X (evT X) 5 0 code (zbFr e ts L b 0) H := by
  refine ⟨_, rfl, ?_⟩
  have hTl : (ts.map Ty.pay).length = ts.length := List.length_map _
  unfold zbFr tyA t12
  generalize ts.map Ty.pay = T at *
  generalize hm8 : 8 * b.length = m8 at *
  apply Tells.blockOr
  refine Tells.loopP (fun k fr H => ∃ i, k = m8 - i ∧ i ≤ m8 ∧ fr = [(1, .ro e (.pr 2 T) 2), (2, .ptr 0 0 0 0), (12, .fn 15 [.ptr L 0 0 0]), (65, .int .i64 (m8 : Nat)), (66, .int .i64 (i : Nat))] ∧ zbHp L b cb tb ob0 H ∧ ∀ (j : Nat), j < i → bzB b ts.length j = false) ?_ (k := m8) ⟨0, rfl, by omega, rfl, hH, by omega⟩
  rintro k fr H ⟨i, rfl, hi, rfl, ⟨h0, hL, tg, h1⟩, hall⟩
  by_cases hin : i = m8
  · subst hin
    refine Tells.of (o := ⟨.exit 3, [(1, .ro e (.pr 2 T) 2), (2, .ptr 0 0 0 0), (12, .fn 15 [.ptr L 0 0 0]), (65, .int .i64 (i : Nat)), (66, .int .i64 (i : Nat))] ++ [(67, .bool false)], H⟩) ⟨0, ?_⟩ (.inr ⟨by simp, .inl ⟨rfl, ?_, rfl, h0, hL, tg, h1⟩⟩)
    · simp (maxSteps := 2000000) -implicitDefEqProofs [-getElem?_pos, List.getElem?_cons_zero, List.getElem?_cons_succ, go_sem, eqV, plen, loadV, storeV]
    · rw [List.any_eq_false]
      intro j hj
      rw [hall j (List.mem_range.1 hj)]; simp
  have hiI : (i : Int) < (m8 : Int) := by omega
  have w1 : IntKind.i64.wrap ((i : Int) + 1) = ((i + 1 : Nat) : Int) := by rw [wrap_i64 (by omega) (by omega)]; omega
  have w2 : IntKind.i64.wrap ((ts.length : Int) + 2) = ((ts.length + 2 : Nat) : Int) := by rw [wrap_i64 (by omega) (by omega)]; omega
  have hS := set_ev (I := (i : Nat)) rfl h1 (by omega) (by omega)
  have hbz : bzB b ts.length i = (bitB b i && (decide (i < 2) || decide (ts.length + 2 ≤ i))) := rfl
  have hL1 : (upd H L (some (roB cb (.pb b) tb tb)))[0]? = some (some ob0) := at_ne h0 (by omega)
  have hL2 : (upd H L (some (roB cb (.pb b) tb tb)))[L]? = some (some (roB cb (.pb b) tb tb)) := at_set h1
  have i2 : (i : Int) < 2 ↔ i < 2 := by omega
  have i3 : ((ts.length + 2 : Nat) : Int) ≤ (i : Int) ↔ ts.length + 2 ≤ i := by omega
  generalize hHu : upd H L (some (roB cb (.pb b) tb tb)) = HU at *
  cases hz : bzB b ts.length i with
  | true =>
    rw [hz] at hbz
    refine Tells.of (o := ⟨.ret, [(4, .sl HU.length 0 0 0), (5, .int .i64 5)], HU ++ [some nilV]⟩) ⟨0, ?_⟩ (.inr ⟨by simp, .inr ⟨rfl, rfl, List.any_eq_true.2 ⟨i, List.mem_range.2 (by omega), hz⟩, HU.length, 0, nilV, rfl, rfl, by simp, nilV_rw⟩⟩)
    have hbz := hbz.symm
    simp only [Bool.and_eq_true, Bool.or_eq_true, decide_eq_true_eq] at hbz
    rw [hbz.1] at hS
    generalize ts.length + 2 = n2 at *
    by_cases h2 : i < 2
    · have h2I : (i : Int) < 2 := by omega
      simp (maxSteps := 2000000) -implicitDefEqProofs [-getElem?_pos, List.getElem?_cons_zero, List.getElem?_cons_succ, go_sem, eqV, plen, loadV, storeV, hiI, hS, h2, h2I, hTl, assignV, emV]
    · have h2I : ¬ (i : Int) < 2 := by omega
      have h3 : n2 ≤ i := by omega
      have h3I : (n2 : Int) ≤ (i : Int) := by omega
      simp (maxSteps := 2000000) -implicitDefEqProofs [-getElem?_pos, List.getElem?_cons_zero, List.getElem?_cons_succ, go_sem, eqV, plen, loadV, storeV, hiI, hS, h2, h2I, h3, h3I, hTl, w2, assignV, emV]
  | false =>
    rw [hz] at hbz
    refine Tells.of (o := ⟨.normal, [(1, .ro e (.pr 2 T) 2), (2, .ptr 0 0 0 0), (12, .fn 15 [.ptr L 0 0 0]), (65, .int .i64 (m8 : Nat)), (66, .int .i64 ((i + 1 : Nat) : Int))], HU⟩) ⟨0, ?_⟩ (.inl ⟨rfl, m8 - (i + 1), by omega, i + 1, rfl, by omega, rfl, ⟨hL1, hL, tb, hL2⟩, fun j hj => ?_⟩)
    · have hbz := hbz.symm
      generalize ts.length + 2 = n2 at *
      cases hbit : bitB b i with
      | false =>
        rw [hbit] at hS
        simp (maxSteps := 2000000) -implicitDefEqProofs [-getElem?_pos, List.getElem?_cons_zero, List.getElem?_cons_succ, go_sem, eqV, plen, loadV, storeV, hiI, hS, w1]
      | true =>
        rw [hbit] at hS hbz
        have h2 : ¬ i < 2 ∧ ¬ n2 ≤ i := by simpa using hbz
        obtain ⟨h2, h3⟩ := h2
        have h2I : ¬ (i : Int) < 2 := by omega
        have h3I : ¬ (n2 : Int) ≤ (i : Int) := by omega
        simp (maxSteps := 2000000) -implicitDefEqProofs [-getElem?_pos, List.getElem?_cons_zero, List.getElem?_cons_succ, go_sem, eqV, plen, loadV, storeV, hiI, hS, h2, h2I, h3, h3I, hTl, w1, w2]
    · by_cases hji : j = i
      · subst hji; exact hz
      · exact hall j (by omega)

end

end Go.Proofs.YtafdnpcamepbmaaDoor
