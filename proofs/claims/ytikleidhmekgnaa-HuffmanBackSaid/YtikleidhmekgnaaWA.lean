/- Walks: what is told of the document's Put and Codes. -/
import Derived.Test.YtikleidhmekgnaaW9
namespace Go.Proofs.Ytikleidhmekgnaa
open Go.AM
set_option linter.unusedSimpArgs false
set_option linter.unusedVariables false

theorem putB_len2 (b : List UInt8) (k : Nat) (v : Int) : (putB b k v).length = b.length + (if k % 8 = 0 then 1 else 0) := by
  unfold putB
  split <;> simp_all

theorem reach_zero {H1 : AM.Heap} {ob : AM.Obj} (ho : H1[0]? = some (some ob)) (hob : ob.ids = false) : reach H1 reachFuel [0, 0] [] = [0] := by
  show reach H1 (99998 + 1 + 1) [0, 0] [] = [0]
  simp [reach, ho, hob]

set_option maxRecDepth 100000 in
theorem put_ev {H : AM.Heap} {o k : Nat} {b : List UInt8} {v : Int} (ho : H[o]? = some (obB b)) (hb : b.length = byB k) (hk : k ≤ 100000) :
    Ev1 X 23 [.sl o 0 b.length b.length, .int .i64 (k : Nat), .int .i64 v] H (.sl o 0 (putB b k v).length (putB b k v).length, H.set o (obB (putB b k v))) := by
  obtain ⟨code, hbody, hr⟩ := put_code (fun _ _ _ => .none) b (if b.length ≤ 1 then 0 else 1) k v hb hk
  have hlive : live H o b.length = some ⟨.pb b, b.length, .none, (if b.length ≤ 1 then 0 else 1), true, false, 0⟩ := by
    simp [live, ho, obB]
  have hat : obAt H o = some ⟨.pb b, b.length, .none, (if b.length ≤ 1 then 0 else 1), true, false, 0⟩ := by
    simp [obAt, ho, obB]
  have hreach : reach H reachFuel [o] [] = [o] := reach_one (ob := ⟨.pb b, b.length, .none, (if b.length ≤ 1 then 0 else 1), true, false, 0⟩) (by rw [ho]; rfl) rfl
  have hl : lendArgs X 23 H 0 [.sl o 0 b.length b.length, .int .i64 (k : Nat), .int .i64 v] = some ([.sl o 0 b.length b.length, .int .i64 (k : Nat), .int .i64 v], [⟨[], []⟩, ⟨[], []⟩, ⟨[], []⟩]) := by
    simp [lendArgs, lendV, lend1, tags]
  have hids : idsL [.sl o 0 b.length b.length, .int .i64 (k : Nat), .int .i64 v] = [o] := rfl
  have hinto : intoN H [o] o b.length = some (0, 0) := by simp [intoN, hlive, idxOf]
  have hz : (if k % 8 = 0 then (if b.length = 0 then (if b.length ≤ 1 then 0 else 1) else 1) else (if b.length ≤ 1 then 0 else 1)) = (if (putB b k v).length ≤ 1 then 0 else 1) := by
    rw [putB_len2]
    repeat' split
    all_goals omega
  have hg : b.length + (if k % 8 = 0 then 1 else 0) = (putB b k v).length := (putB_len2 b k v).symm
  rw [hz] at hr
  generalize putB b k v = B at hr hg ⊢
  refine Ev1.of (l := [.sl 0 0 B.length (if k % 8 = 0 then 1 else 0)]) Below.none Try.func23 hbody hl ?_ (by
    rw [hids, hreach]
    have hren : renL (intoN H [o]) (fun t => t) [.sl o 0 b.length b.length, .int .i64 (k : Nat), .int .i64 v] = [.sl 0 0 b.length 0, .int .i64 (k : Nat), .int .i64 v] := by
      simp [renL, ren, hinto]
    rw [hren]
    simp only [List.map_cons, List.map_nil, hat, Option.map_some]
    exact hr) (.inr rfl) rfl ?_
  · rw [hids, hreach]
    rfl
  · rw [hids, hreach]
    have h1 : live [hoB B (if k % 8 = 0 then 1 else 0) (if B.length ≤ 1 then 0 else 1), nilB] 0 (if k % 8 = 0 then 1 else 0) = some ⟨.pb B, (if k % 8 = 0 then 1 else 0), .none, (if B.length ≤ 1 then 0 else 1), true, false, 4⟩ := by
      simp [live, hoB]
    have hr0 := reach_zero (H1 := [hoB B (if k % 8 = 0 then 1 else 0) (if B.length ≤ 1 then 0 else 1), nilB]) (ob := ⟨.pb B, (if k % 8 = 0 then 1 else 0), .none, (if B.length ≤ 1 then 0 else 1), true, false, 4⟩) rfl rfl
    have hgen : (if (if k % 8 = 0 then 1 else 0) = 0 then 0 else 1) = (if k % 8 = 0 then 1 else 0) := by split <;> simp_all
    unfold wrap
    have hr1 : reach [hoB B (if k % 8 = 0 then 1 else 0) (if B.length ≤ 1 then 0 else 1), nilB] reachFuel (List.range [o].length ++ ids (resultV [.sl 0 0 B.length (if k % 8 = 0 then 1 else 0)])) [] = [0] := hr0
    simp only [hr1]
    generalize hδ : (if k % 8 = 0 then 1 else 0) = δ at *
    have ho' : H[o]? = some (some ⟨.pb b, b.length, .none, (if b.length ≤ 1 then 0 else 1), true, false, 0⟩) := ho
    have h2 : live [some ⟨.pb B, δ, .none, (if B.length ≤ 1 then 0 else 1), true, false, 4⟩, nilB] 0 δ = some ⟨.pb B, δ, .none, (if B.length ≤ 1 then 0 else 1), true, false, 4⟩ := h1
    simp [ho', h2, backT, resultV, tags, obAt, hoB, tagsObjs, tagsOb, backTag, joinTags, joinTag, goneOf, strike, putBack, ren, backN, h1, genBack, hat, renObj, upd, hgen, hg, obB]

theorem rcheck_320 {l : List Int} (he : (rcheckR l).2 = 0) : l.length ≤ 320 := by
  unfold rcheckR at he
  split at he
  · simp at he
  · omega

theorem rcodes_ev_ok (c : Nat) (l : List Int) (he : (rcheckR l).2 = 0) : Ev1 X 16 [.ro c (.pi .i64 l) 1] [] (okV l, [rowI l.length (rcodesR l)]) := by
  obtain ⟨code, hb, hr⟩ := rcodes_code c l he (rcheck_320 he)
  have := Ev1.fresh (args := [.ro c (.pi .i64 l) 1]) (l := [.sl 1 0 l.length 0, .int .i64 0]) (o := 1) (g := 0) (H := []) T4_below Try.func16 hb rfl rfl (by simp [gtag]) hr (.inr rfl) rfl rfl rfl rfl rfl rfl rfl
  exact this

theorem rcodes_ev_bad (c : Nat) (l : List Int) (h63 : l.length < 9223372036854775808) (he : (rcheckR l).2 ≠ 0) : Ev1 X 16 [.ro c (.pi .i64 l) 1] [] (badV (rcheckR l).2, [nilI]) := by
  obtain ⟨code, hb, hr⟩ := rcodes_bad c l h63 he
  have := Ev1.fresh (args := [.ro c (.pi .i64 l) 1]) (l := [.sl 1 0 0 0, .int .i64 (rcheckR l).2]) (o := 1) (g := 0) (H := []) T4_below Try.func16 hb rfl rfl (by simp [gtag]) hr (.inr rfl) rfl rfl rfl rfl rfl rfl rfl
  exact this

def S5 (f : Nat) (xs : List AV) : Option (AV × AM.Heap) :=
  match f, xs with
  | 16, [.ro _ (.pi .i64 l) 1] => if l.length < 9223372036854775808 then (if (rcheckR l).2 = 0 then some (okV l, [rowI l.length (rcodesR l)]) else some (badV (rcheckR l).2, [nilI])) else .none
  | f, xs => S4 f xs

theorem S5_ok : ∀ f xs v N, S5 f xs = some (v, N) → Ev1 X f xs [] (v, N) := by
  intro f xs v N h
  unfold S5 at h
  split at h
  · split at h
    · rename_i hl
      split at h
      · rename_i he
        simp only [Option.some.injEq, Prod.mk.injEq] at h
        obtain ⟨rfl, rfl⟩ := h
        exact rcodes_ev_ok _ _ he
      · rename_i he
        simp only [Option.some.injEq, Prod.mk.injEq] at h
        obtain ⟨rfl, rfl⟩ := h
        exact rcodes_ev_bad _ _ hl he
    · cases h
  · exact S4_ok _ _ _ _ h

/-- Put, on bytes that lie as they should -/
def TPut : Cf := fun f xs H => match f, xs with
  | 23, [.sl o 0 n g, .int .i64 k, .int .i64 v] => match H[o]? with
    | some (some ⟨.pb b, g', .none, z, true, false, 0⟩) =>
      if n = b.length ∧ g = b.length ∧ g' = b.length ∧ z = (if b.length ≤ 1 then 0 else 1) ∧ 0 ≤ k ∧ k ≤ 100000 ∧ b.length = byB k.toNat then
        some (.sl o 0 (putB b k.toNat v).length (putB b k.toNat v).length, H.set o (obB (putB b k.toNat v)))
      else .none
    | _ => .none
  | _, _ => .none

theorem TPut_below : Below X TPut := by
  intro f xs H r h
  unfold TPut at h
  split at h
  · rename_i o n g k v
    split at h
    · rename_i b g' z ho
      by_cases hc : n = b.length ∧ g = b.length ∧ g' = b.length ∧ z = (if b.length ≤ 1 then 0 else 1) ∧ 0 ≤ k ∧ k ≤ 100000 ∧ b.length = byB k.toNat
      · rw [if_pos hc] at h
        obtain ⟨rfl, rfl, rfl, rfl, h1, h2, h3⟩ := hc
        rw [← Option.some.inj h]
        have hk : k = ((k.toNat : Nat) : Int) := by omega
        have := put_ev (k := k.toNat) (v := v) (H := H) (o := o) (b := b) ho h3 (by omega)
        rw [← hk] at this
        exact this
      · rw [if_neg hc] at h
        cases h
    · cases h
  · cases h

noncomputable def T5 : Cf := orT (lentT X S5) TPut
theorem T5_below : Below X T5 := orT_below (lentT_below S5_ok) TPut_below

theorem T5_codes {H : AM.Heap} {a : AV} {l : List Int} (h : payOf H a = some (.pi .i64 l)) (hl : l.length < 9223372036854775808) (he : (rcheckR l).2 = 0) : T5 16 [a] H = some (.tup [.sl H.length 0 l.length 0, .int .i64 0], H ++ [rowI l.length (rcodesR l)]) := by
  obtain ⟨c, x, hx⟩ := args_pay (C := X) (f := 16) (i := 0) rfl h (args_nil 1)
  unfold T5 orT lentT
  rw [hx]
  simp [S5, hl, he, okV, rowI, idsL, ids, cleanV, cleanH, tags, tagsL, shiftV, shiftH, shiftN, ren, renL, renObj]

theorem T5_bad {H : AM.Heap} {a : AV} {l : List Int} (h : payOf H a = some (.pi .i64 l)) (hl : l.length < 9223372036854775808) (he : (rcheckR l).2 ≠ 0) : T5 16 [a] H = some (.tup [.sl H.length 0 0 0, .int .i64 (rcheckR l).2], H ++ [nilI]) := by
  obtain ⟨c, x, hx⟩ := args_pay (C := X) (f := 16) (i := 0) rfl h (args_nil 1)
  unfold T5 orT lentT
  rw [hx]
  simp [S5, hl, he, badV, nilI, idsL, ids, cleanV, cleanH, tags, tagsL, shiftV, shiftH, shiftN, ren, renL, renObj]

theorem T5_put {H : AM.Heap} {o k : Nat} {b : List UInt8} {v : Int} (ho : H[o]? = some (obB b)) (hb : b.length = byB k) (hk : k ≤ 100000) :
    T5 23 [.sl o 0 b.length b.length, .int .i64 (k : Nat), .int .i64 v] H = some (.sl o 0 (putB b k v).length (putB b k v).length, H.set o (obB (putB b k v))) := by
  have ho' : H[o]? = some (some ⟨.pb b, b.length, .none, (if b.length ≤ 1 then 0 else 1), true, false, 0⟩) := ho
  have h1 : lentT X S5 23 [.sl o 0 b.length b.length, .int .i64 (k : Nat), .int .i64 v] H = .none := by
    unfold lentT
    simp [lendArgs, lendV, lend1, tags, idsL, ids]
  have hkI : (k : Int) ≤ 100000 := by omega
  unfold T5 orT
  rw [h1]
  simp [TPut, ho', hb, hkI]

end Go.Proofs.Ytikleidhmekgnaa
