/- J7 to JA: texts of this claim, one behind the other; what each shows stands at its head. -/
import Derived.Test.YtdjjekeaeoajpaaMg6
/- Plain: what is told of a stream's blocks. -/
namespace Go.Proofs.Ytdjjekeaeoajpaa
open Go.AM
set_option linter.unusedSimpArgs false
set_option linter.unusedVariables false

section
variable {b : List UInt8} {mo : Int} {F : Nat}

theorem blk_more {k k1 : Nat} {x : Blk} {o o1 : List UInt8} (h : blkP b mo F k o = .ok x k1 o1) (hk : k ≤ 8 * b.length) : x.k = k ∧ 0 ≤ x.kind ∧ x.kind ≤ 2 ∧ k < k1 ∧ k1 ≤ 8 * b.length ∧ o1.length = o.length + x.n := by
  have h3 := blk_ok h hk
  have hu := (loc_blk F).up b mo _ _ _ _ _ h hk
  unfold blkP at h
  obtain ⟨l, k2, o2, h1, h2⟩ := pbnd_ok h
  obtain ⟨t, k3, o3, h4, h5⟩ := pbnd_ok h2
  obtain ⟨u, k4, o4, h6, h7⟩ := pbnd_ok h5
  have u1 := (loc_fld 1).up b mo _ _ _ _ _ h1 hk
  have u2 := (loc_fld 2).up b mo _ _ _ _ _ h4 u1.2.1
  injection h7 with e1 e2 e3
  subst e1 e2 e3
  have hkind : 0 ≤ t ∧ t ≤ 2 := by
    unfold kndP at h6
    split at h6
    · omega
    · split at h6
      · omega
      · split at h6
        · omega
        · cases h6
  obtain ⟨y, hy⟩ := hu.2.2.1
  refine ⟨rfl, hkind.1, hkind.2, by omega, hu.2.1, ?_⟩
  simp only
  rw [hy]
  simp

theorem bls_ne {k k1 : Nat} {L : List Blk} {o o1 : List UInt8} : ∀ {f : Nat}, blsP b mo F f k o = .ok L k1 o1 → L ≠ []
  | 0, h => by cases h
  | f + 1, h => by
    unfold blsP at h
    obtain ⟨x, k2, o2, h1, h2⟩ := pbnd_ok h
    split at h2
    · obtain ⟨rfl, _⟩ := res_ok h2
      simp
    · obtain ⟨r, k3, o3, h3, h4⟩ := pbnd_ok h2
      obtain ⟨rfl, _⟩ := res_ok h4
      simp

def sumB (L : List Blk) : Nat := (L.map fun x => x.n).foldr (· + ·) 0

theorem bls_at : ∀ {f : Nat} {k k1 : Nat} {L : List Blk} {o o1 : List UInt8}, blsP b mo F f k o = .ok L k1 o1 → k ≤ 8 * b.length → k1 ≤ 8 * b.length ∧ o1.length = o.length + sumB L ∧
    ∀ (i : Nat) (x : Blk), L[i]? = some x → x.last = decide (i + 1 = L.length) ∧ 0 ≤ x.kind ∧ x.kind ≤ 2 ∧ (i = 0 → x.k = k) ∧ (∀ y, 0 < i → L[i - 1]? = some y → y.k < x.k) ∧ x.k < k1
  | 0, _, _, _, _, _, h, _ => by cases h
  | f + 1, k, k1, L, o, o1, h, hk => by
    unfold blsP at h
    obtain ⟨x, k2, o2, h1, h2⟩ := pbnd_ok h
    obtain ⟨a1, a2, a3, a4, a5, a6⟩ := blk_more h1 hk
    split at h2
    · rename_i hl
      obtain ⟨rfl, rfl, rfl⟩ := res_ok h2
      refine ⟨a5, by simp [sumB, a6], ?_⟩
      intro i y hy
      cases i with
      | zero =>
        simp at hy
        subst hy
        exact ⟨by simp [hl], a2, a3, fun _ => a1, fun _ h => by omega, by omega⟩
      | succ i => simp at hy
    · rename_i hl
      obtain ⟨r, k3, o3, h3, h4⟩ := pbnd_ok h2
      obtain ⟨rfl, rfl, rfl⟩ := res_ok h4
      have hne := bls_ne h3
      obtain ⟨b1, b2, b3⟩ := bls_at h3 a5
      have hmono : k2 ≤ k3 := by
        cases r with
        | nil => exact absurd rfl hne
        | cons y r' =>
          have := b3 0 y rfl
          have h4 := this.2.2.2.1 rfl
          omega
      refine ⟨b1, by simp only [sumB, List.map_cons, List.foldr_cons] at b2 ⊢; omega, ?_⟩
      intro i y hy
      cases i with
      | zero =>
        simp at hy
        subst hy
        refine ⟨?_, a2, a3, fun _ => a1, fun _ h => by omega, by omega⟩
        cases r with
        | nil => exact absurd rfl hne
        | cons y r' => simpa using hl
      | succ i =>
        rw [List.getElem?_cons_succ] at hy
        obtain ⟨c1, c2, c3, c4, c5, c6⟩ := b3 i y hy
        refine ⟨by rw [c1]; simp, c2, c3, fun h => by omega, ?_, c6⟩
        intro z _ hz
        cases i with
        | zero =>
          simp at hz
          subst hz
          have := c4 rfl
          omega
        | succ i => exact c5 z (by omega) (by simpa using hz)

theorem bls_nz (hb : b.length ≤ 100000) (hm : mo ≤ 1000000) (hm0 : 0 ≤ mo) (hF : 8 * b.length < F) (hF2 : F ≤ 1000000) {e : Int} (h : blsP b mo F F 0 [] = .err e) : e ≠ 0 := by
  have hV : IrV 1 b mo 0 [some (irBx 1 b mo ⟨0, [], 0⟩ (.ro 0 .pn 0) 0 0)] 0 none ⟨0, [], 0⟩ := ⟨⟨_, 0, 0, .inl rfl, .inl rfl, rfl, rfl, 0, .inl rfl, rfl⟩, fun a h => by cases h⟩
  obtain ⟨_, _, s1, _, _, _, _, _, _, _, _, hrun, _⟩ := blocks_ev (F := F) hV ⟨by simp, by simpa using hm0⟩ hb hm rfl hF hF2
  have h2 := hrun.2
  simp only [if_true] at h2
  rw [h] at h2
  exact h2.2

end

end Go.Proofs.Ytdjjekeaeoajpaa

/- Walks: the law InflateBlocks. -/
namespace Go.Proofs.Ytdjjekeaeoajpaa
open Go.AM
set_option linter.unusedSimpArgs false
set_option linter.unusedVariables false

/-- assigned, bytes of one's own stay so -/
theorem BytV.asg {H : AM.Heap} {v : AV} {l : List UInt8} (h : BytV H v l) : ∃ v' H', assignV X H 22 v = (v', H') ∧ BytV H' v' l ∧ H.length ≤ H'.length ∧ ∀ j, j < H.length → H'[j]? = H[j]? := by
  rcases h with ⟨o, g, τ, ob, rfl, ho, hw⟩ | ⟨rfl, τ, rfl⟩
  · exact ⟨_, H, rfl, .inl ⟨o, g, τ, ob, rfl, ho, hw⟩, Nat.le_refl _, fun _ _ => rfl⟩
  · by_cases h0 : τ = 0
    · subst h0
      refine ⟨.sl H.length 0 0 0, H ++ [some (⟨.pb [], 0, none, 0, true, false, 0⟩ : AM.Obj)], ?_, .inl ⟨H.length, 0, 0, ⟨.pb [], 0, none, 0, true, false, 0⟩, rfl, by simp, ⟨rfl, rfl, rfl, rfl, rfl⟩⟩, by simp, fun j hj => List.getElem?_append_left hj⟩
      simp [assignV, rowOf, emB]
    · refine ⟨.ro 0 .pn τ, H, ?_, .inr ⟨rfl, τ, rfl⟩, Nat.le_refl _, fun _ _ => rfl⟩
      simp [assignV, h0]

theorem BytV.keep {H H' : AM.Heap} {v : AV} {l : List UInt8} (h : BytV H v l) (hk : ∀ j, j < H.length → H'[j]? = H[j]?) : BytV H' v l := by
  rcases h with ⟨o, g, τ, ob, rfl, ho, hw⟩ | h
  · exact .inl ⟨o, g, τ, ob, rfl, by rw [hk o (ltAt ho)]; exact ho, hw⟩
  · exact .inr h

theorem asgI (H : AM.Heap) (t : Nat) (k : IntKind) (n : Int) : assignV X H t (.int k n) = (.int k n, H) := rfl
theorem asgS (H : AM.Heap) (t o i l g : Nat) : assignV X H t (.sl o i l g) = (.sl o i l g, H) := rfl
theorem asgB (H : AM.Heap) (t : Nat) (d : Bool) : assignV X H t (.bool d) = (.bool d, H) := rfl

theorem sumB_app : ∀ (L M : List Blk), sumB (L ++ M) = sumB L + sumB M
  | [], M => by simp [sumB]
  | x :: L, M => by
    have := sumB_app L M
    simp only [sumB, List.cons_append, List.map_cons, List.foldr_cons] at this ⊢
    omega
theorem sumB_take {L : List Blk} {i : Nat} {x : Blk} (h : L[i]? = some x) : sumB (L.take (i + 1)) = sumB (L.take i) + x.n := by
  rw [List.take_add_one, h, sumB_app]
  simp [sumB]
theorem sumB_le (L : List Blk) (i : Nat) : sumB (L.take i) ≤ sumB L := by
  have h1 := sumB_app (L.take i) (L.drop i)
  rw [List.take_append_drop] at h1
  omega

def ibFr (v : AV) (n : Int) (o N s i : Nat) : AM.Frame := [(3, v), (4, .int .i64 n), (6, .sl o 0 N 0), (8, .int .i64 (s : Nat)), (9, .int .i64 (i : Nat))]

section
variable {v : AV} {o6 τ : Nat} {ob : AM.Obj} {L : List Blk} {H : AM.Heap} {n : Int}

end

section
variable (c : Nat) (b : List UInt8)

end

end Go.Proofs.Ytdjjekeaeoajpaa

/- Plain: a stream's end: what stands behind it is not read; a byte less, or one that may not be told. -/
namespace Go.Proofs.Ytdjjekeaeoajpaa
open Go.AM
set_option linter.unusedSimpArgs false
set_option linter.unusedVariables false

theorem rbit_app {b c : List UInt8} {n i : Nat} (hn : n ≤ b.length) (hi : i < 8 * n) : rbit (b.take n ++ c) i = rbit b i := by
  unfold rbit
  have h1 : i / 8 < n := by omega
  rw [List.getD_eq_getElem?_getD, List.getD_eq_getElem?_getD, List.getElem?_append_left (by rw [List.length_take]; omega), List.getElem?_take, if_pos h1]
theorem rbit_take {b : List UInt8} {n i : Nat} (hn : n ≤ b.length) (hi : i < 8 * n) : rbit (b.take n) i = rbit b i := by
  have := rbit_app (c := []) hn hi
  rwa [List.append_nil] at this

section
variable {b : List UInt8} {F : Nat} {out : List UInt8} {n e : Int}

/-- what the law asks of a reading -/
theorem ends_plain {mo : Int} (hb : b.length ≤ 3000) (hm : mo ≤ 1000000) (hm0 : 0 ≤ mo) (hF : 8 * b.length < F) (hF2 : F ≤ 1000000) (h : infR F b mo = (out, n, e)) (beh : List UInt8) :
    (e ≠ 0 → out = [] ∧ n = 0) ∧ (e = 0 → ∃ N : Nat, n = (N : Nat) ∧ 1 ≤ N ∧ N ≤ b.length ∧ (out.length : Int) ≤ mo ∧ infR F (b.take N ++ beh) out.length = (out, n, 0) ∧ infR F (b.take (N - 1)) mo = ([], 0, 4) ∧ (out ≠ [] → infR F b ((out.length : Int) - 1) = ([], 0, 3))) := by
  unfold infR at h
  rw [if_neg (by omega)] at h
  cases hbl : blsP b mo F F 0 [] with
  | err x =>
    rw [hbl] at h
    simp only [Prod.mk.injEq] at h
    obtain ⟨rfl, rfl, rfl⟩ := h
    exact ⟨fun _ => ⟨rfl, rfl⟩, fun h0 => absurd h0 (bls_nz (by omega) hm hm0 hF hF2 hbl)⟩
  | ok L k o =>
    rw [hbl] at h
    simp only [Prod.mk.injEq] at h
    obtain ⟨rfl, rfl, rfl⟩ := h
    refine ⟨fun h => absurd rfl h, fun _ => ?_⟩
    have hl := loc_bls F F
    obtain ⟨u1, u2, _, u4⟩ := hl.up b mo _ _ _ _ _ hbl (by omega)
    have u4 := u4 (by simpa using hm0)
    obtain ⟨m1, m2, m3⟩ := bls_at hbl (by omega)
    have hne := bls_ne hbl
    have hk3 : 0 < k := by
      cases L with
      | nil => exact absurd rfl hne
      | cons x r =>
        have := (m3 0 x rfl).2.2.2.2.2
        omega
    refine ⟨(k + 7) / 8, rfl, by omega, by omega, u4, ?_, ?_, ?_⟩
    · have := hl.same b (b.take ((k + 7) / 8) ++ beh) mo o.length _ _ _ _ _ hbl (by omega) (fun i hi => rbit_app (by omega) (by omega)) (by rw [List.length_append, List.length_take]; omega) (by omega)
      unfold infR
      rw [if_neg (by omega), this]
    · have := hl.cut b (b.take ((k + 7) / 8 - 1)) mo _ _ _ _ _ hbl (by omega) (fun i hi => rbit_take (by omega) (by rw [List.length_take] at hi; omega)) (by omega) (by rw [List.length_take]; omega) (by simpa using hm0)
      unfold infR
      rw [if_neg (by omega), this]
    · intro ho
      have hop : 0 < o.length := List.length_pos_iff.2 ho
      have := hl.few b mo ((o.length : Int) - 1) _ _ _ _ _ hbl (by omega) (by simp; omega) (by omega)
      unfold infR
      rw [if_neg (by omega), this]

end

end Go.Proofs.Ytdjjekeaeoajpaa

/- Walks: the law InflateEnds. -/
namespace Go.Proofs.Ytdjjekeaeoajpaa
open Go.AM
set_option linter.unusedSimpArgs false
set_option linter.unusedVariables false

theorem pay_whole {H : AM.Heap} {o g τ : Nat} {ob : AM.Obj} {l : List UInt8} (ho : H[o]? = some (some ob)) (hw : RwT (.pb l) g τ ob) : payOf H (.sl o 0 l.length g) = some (.pb l) := by
  simp only [payOf, live, ho, hw.g, if_true, hw.ids, hw.p, psub]
  simp

theorem bs_0 (H : AM.Heap) : buildSliceV X H 22 0 [] = some (.ro 1 (.pb []) 0, H) := by kernel_rfl

/-- the bytes taken, and others behind them -/
theorem app_two {H : AM.Heap} {c c1 t t1 : Nat} {l m : List UInt8} (hl : l.length ≤ 10000) (hm : m.length ≤ 10000) : ∃ v1 H1 ob g, appendV X H 22 (.ro 1 (.pb []) 0) (.ro c (.pb l) t) = some (v1, H1) ∧ appendV X H1 22 v1 (.ro c1 (.pb m) t1) = some (.sl H.length 0 (l ++ m).length g, H ++ [some ob]) ∧ RwT (.pb (l ++ m)) g 0 ob := by
  have h1 : appendV X H 22 (.ro 1 (.pb []) 0) (.ro c (.pb l) t) = some (.sl H.length 0 l.length 0, H ++ [some ⟨.pb l, 0, none, 1, true, false, 0⟩]) := by
    have hr : roomOk X 5 l.length = true := by simp [roomOk]; omega
    simp only [appendV, und22, size5, zok5]
    simp [srcV, payB, plen, ptag, hr, papp, emB, pesz]
  obtain ⟨ob', w1, w2⟩ := app_rwt (C := X) (T := 22) (e := 5) (src := .ro c1 (.pb m) t1) (H := H ++ [some ⟨.pb l, 0, none, 1, true, false, 0⟩]) (o := H.length) (ob := ⟨.pb l, 0, none, 1, true, false, 0⟩) (l := l) (m := m) und22 und5 size5 bytes5 zok5 (by simp) ⟨rfl, rfl, rfl, rfl, rfl⟩ (.inl (by simp [srcV, payB, ptag])) (by omega)
  refine ⟨_, _, ob', _, h1, ?_, w1⟩
  rw [w2]
  simp [AM.upd]

section
variable (c : Nat) (b : List UInt8) (c1 : Nat) (beh : List UInt8)

set_option maxRecDepth 100000 in
theorem ends_law : ∃ code, Try.f4.body = some code ∧
    Tells (Rets fun fr H => getF fr 4 = .bool true) X (evT X) 4 0 code [(0, .ro c (.pb b) 1), (1, .ro c1 (.pb beh) 2)] [] := by
  refine ⟨_, rfl, ?_⟩
  have hL := lives_ev []
  apply Tells.seq (fr' := [(0, .ro c (.pb b) 1), (1, .ro c1 (.pb beh) 2)]) (H' := [])
  · (refine ⟨0, ?_⟩; simp (maxSteps := 2000000) -implicitDefEqProofs [-getElem?_pos, List.getElem?_cons_zero, List.getElem?_cons_succ, go_sem, eqV, plen, loadV, storeV])
  apply Tells.assoc
  apply Tells.seq (fr' := [(0, .ro c (.pb b) 1), (1, .ro c1 (.pb beh) 2), (18, .bool false)]) (H' := [])
  · (refine ⟨0, ?_⟩; simp (maxSteps := 2000000) -implicitDefEqProofs [-getElem?_pos, List.getElem?_cons_zero, List.getElem?_cons_succ, go_sem, eqV, plen, loadV, storeV, hL])
  apply Tells.seq (fr' := [(0, .ro c (.pb b) 1), (1, .ro c1 (.pb beh) 2), (18, .bool false)]) (H' := [])
  · refine ⟨0, ?_⟩
    simp (maxSteps := 2000000) -implicitDefEqProofs [-getElem?_pos, List.getElem?_cons_zero, List.getElem?_cons_succ, go_sem, eqV, plen, loadV, storeV]
  apply Tells.assoc
  by_cases hbig : (3000 : Int) < (b.length : Int) ∨ (3000 : Int) < (beh.length : Int)
  · apply Tells.seq (fr' := [(0, .ro c (.pb b) 1), (1, .ro c1 (.pb beh) 2), (26, .bool true)]) (H' := [])
    · by_cases h1 : (3000 : Int) < (b.length : Int)
      · (refine ⟨0, ?_⟩; simp (maxSteps := 2000000) -implicitDefEqProofs [-getElem?_pos, List.getElem?_cons_zero, List.getElem?_cons_succ, go_sem, eqV, plen, loadV, storeV, h1])
      · have h2 := hbig.resolve_left h1
        (refine ⟨0, ?_⟩; simp (maxSteps := 2000000) -implicitDefEqProofs [-getElem?_pos, List.getElem?_cons_zero, List.getElem?_cons_succ, go_sem, eqV, plen, loadV, storeV, h1, h2])
    refine Tells.of (o := ⟨.ret, [(4, .bool true)], []⟩) ⟨0, ?_⟩ ⟨rfl, rfl⟩
    simp (maxSteps := 2000000) -implicitDefEqProofs [-getElem?_pos, List.getElem?_cons_zero, List.getElem?_cons_succ, go_sem, eqV, plen, loadV, storeV]
  have hb : ¬ (3000 : Int) < (b.length : Int) := fun h => hbig (.inl h)
  have hb2 : ¬ (3000 : Int) < (beh.length : Int) := fun h => hbig (.inr h)
  have hbl : b.length ≤ 3000 := by omega
  have hbl2 : beh.length ≤ 3000 := by omega
  apply Tells.seq (fr' := [(0, .ro c (.pb b) 1), (1, .ro c1 (.pb beh) 2), (26, .bool false)]) (H' := [])
  · (refine ⟨0, ?_⟩; simp (maxSteps := 2000000) -implicitDefEqProofs [-getElem?_pos, List.getElem?_cons_zero, List.getElem?_cons_succ, go_sem, eqV, plen, loadV, storeV, hb, hb2])
  apply Tells.seq (fr' := [(0, .ro c (.pb b) 1), (1, .ro c1 (.pb beh) 2), (26, .bool false)]) (H' := [])
  · refine ⟨0, ?_⟩
    simp (maxSteps := 2000000) -implicitDefEqProofs [-getElem?_pos, List.getElem?_cons_zero, List.getElem?_cons_succ, go_sem, eqV, plen, loadV, storeV]
  -- what is told
  obtain ⟨H1, out, n, e, v0, hI, q2, q3, q4, q5⟩ := inflate_ev (F := 60000) (H := []) (a := .ro c (.pb b) 1) (mo := 20000) rfl (by omega) (by omega) (by omega) (by omega) (by omega)
  obtain ⟨v, H2, hA, hv, hle, hkp⟩ := q3.asg
  obtain ⟨hne, hok⟩ := ends_plain hbl (by omega) (by omega) (by omega) (by omega) hI beh
  apply Tells.seq (fr' := [(0, .ro c (.pb b) 1), (1, .ro c1 (.pb beh) 2), (5, v), (6, .int .i64 n), (7, .int .i64 e)]) (H' := H2)
  · have hA' := hA
    simp only [assignV, und22] at hA'
    (refine ⟨0, ?_⟩; simp (maxSteps := 2000000) -implicitDefEqProofs [-getElem?_pos, List.getElem?_cons_zero, List.getElem?_cons_succ, go_sem, eqV, plen, loadV, storeV, q2, hA', asgI])
  clear hA q2 q3 hL
  apply Tells.assoc
  by_cases he : ¬ e = 0
  · have heb : (e != 0) = true := by simpa using he
    obtain ⟨rfl, rfl⟩ := hne he
    apply Tells.seq (fr' := [(0, .ro c (.pb b) 1), (1, .ro c1 (.pb beh) 2), (5, v), (6, .int .i64 0), (34, .bool true)]) (H' := H2)
    · (refine ⟨0, ?_⟩; simp (maxSteps := 2000000) -implicitDefEqProofs [-getElem?_pos, List.getElem?_cons_zero, List.getElem?_cons_succ, go_sem, eqV, plen, loadV, storeV, he, heb])
    refine Tells.seqOut ?_ (fun o ho => by rw [ho.1]; simp)
    refine Tells.condT (by simp [evalO, getF]) ?_
    apply Tells.seq (fr' := [(4, .bool true)]) (H' := H2)
    · rcases hv with ⟨o, g, τ, ob, rfl, ho, hw⟩ | ⟨_, τ, rfl⟩
      · have hg := hw.g
        (refine ⟨0, ?_⟩; simp (maxSteps := 2000000) -implicitDefEqProofs [-getElem?_pos, List.getElem?_cons_zero, List.getElem?_cons_succ, go_sem, eqV, plen, loadV, storeV, ho, hg, asgB])
      · (refine ⟨0, ?_⟩; simp (maxSteps := 2000000) -implicitDefEqProofs [-getElem?_pos, List.getElem?_cons_zero, List.getElem?_cons_succ, go_sem, eqV, plen, loadV, storeV, asgB])
    exact Tells.of (o := ⟨.ret, [(4, .bool true)], H2⟩) ⟨0, rfl⟩ ⟨rfl, rfl⟩
  have he : e = 0 := Classical.not_not.1 he
  subst he
  obtain ⟨N, rfl, n1, n2, m1, r1, r2, r3⟩ := hok rfl
  apply Tells.seq (fr' := [(0, .ro c (.pb b) 1), (1, .ro c1 (.pb beh) 2), (5, v), (6, .int .i64 (N : Nat)), (34, .bool false)]) (H' := H2)
  · (refine ⟨0, ?_⟩; simp (maxSteps := 2000000) -implicitDefEqProofs [-getElem?_pos, List.getElem?_cons_zero, List.getElem?_cons_succ, go_sem, eqV, plen, loadV, storeV])
  apply Tells.seq (fr' := [(0, .ro c (.pb b) 1), (1, .ro c1 (.pb beh) 2), (5, v), (6, .int .i64 (N : Nat)), (34, .bool false)]) (H' := H2)
  · refine ⟨0, ?_⟩
    simp (maxSteps := 2000000) -implicitDefEqProofs [-getElem?_pos, List.getElem?_cons_zero, List.getElem?_cons_succ, go_sem, eqV, plen, loadV, storeV]
  apply Tells.assoc
  apply Tells.seq (fr' := [(0, .ro c (.pb b) 1), (1, .ro c1 (.pb beh) 2), (5, v), (6, .int .i64 (N : Nat)), (54, .bool false)]) (H' := H2)
  · have f1 : ¬ (N : Int) < 1 := by omega
    have f2 : ¬ (b.length : Int) < (N : Int) := by omega
    have f3 : ¬ (20000 : Int) < (out.length : Int) := by omega
    rcases hv with ⟨o, g, τ, ob, rfl, ho, hw⟩ | ⟨rfl, τ, rfl⟩
    · have hg := hw.g
      generalize out.length = M at *
      (refine ⟨0, ?_⟩; simp (maxSteps := 2000000) -implicitDefEqProofs [-getElem?_pos, List.getElem?_cons_zero, List.getElem?_cons_succ, go_sem, eqV, plen, loadV, storeV, ho, hg, f1, f2, f3])
    · (refine ⟨0, ?_⟩; simp (maxSteps := 2000000) -implicitDefEqProofs [-getElem?_pos, List.getElem?_cons_zero, List.getElem?_cons_succ, go_sem, eqV, plen, loadV, storeV, f1, f2])
  apply Tells.seq (fr' := [(0, .ro c (.pb b) 1), (1, .ro c1 (.pb beh) 2), (5, v), (6, .int .i64 (N : Nat)), (54, .bool false)]) (H' := H2)
  · refine ⟨0, ?_⟩
    simp (maxSteps := 2000000) -implicitDefEqProofs [-getElem?_pos, List.getElem?_cons_zero, List.getElem?_cons_succ, go_sem, eqV, plen, loadV, storeV]
  -- with others behind
  obtain ⟨va, Ha, obA, gA, a1, a2, a3⟩ := app_two (H := H2) (c := if c = 0 then 0 else 2) (c1 := c1) (t := 1) (t1 := 2) (l := b.take N) (m := beh) (by rw [List.length_take]; omega) (by omega)
  obtain ⟨H3, out2, e2, e3, v1, hI2, k2, k3, k4, k5⟩ := inflate_ev (F := 60000) (H := H2 ++ [some obA]) (a := .sl H2.length 0 (b.take N ++ beh).length gA) (b := b.take N ++ beh) (mo := (out.length : Nat)) (pay_whole (by simp) a3) (by rw [List.length_append, List.length_take]; omega) (by omega) (by omega) (by rw [List.length_append, List.length_take]; omega) (by omega)
  rw [r1] at hI2
  obtain ⟨rfl, rfl, rfl⟩ : out = out2 ∧ (N : Int) = e2 ∧ 0 = e3 := by simpa using hI2
  obtain ⟨v2, H4, hA2, hv4, hle4, hkp4⟩ := k3.asg
  have hk24 : ∀ j, j < H2.length → H4[j]? = H2[j]? := fun j hj => by
    have h1 := k5 j (by simp; omega) (by simp [slO]; omega)
    rw [hkp4 j (by simp at k4; omega), h1, List.getElem?_append_left hj]
  have hv2 : BytV H4 v out := hv.keep hk24
  have hl24 : H2.length ≤ H4.length := by simp at k4; omega
  apply Tells.seq (fr' := [(0, .ro c (.pb b) 1), (5, v), (6, .int .i64 (N : Nat)), (8, v2), (9, .int .i64 (N : Nat)), (10, .int .i64 0)]) (H' := H4)
  · have hA' := hA2
    simp only [assignV, und22] at hA'
    have f2 : (N : Int) ≤ (b.length : Int) := by omega
    generalize (b.take N ++ beh).length = M2 at *
    rcases hv with ⟨o, g, τ, ob, rfl, ho, hw⟩ | ⟨rfl, τ, rfl⟩
    · have hg := hw.g
      have ho2 : (H2 ++ [some obA])[o]? = some (some ob) := by rw [List.getElem?_append_left (ltAt ho)]; exact ho
      generalize out.length = M at *
      generalize H2 ++ [some obA] = HA at *
      (refine ⟨0, ?_⟩; simp (maxSteps := 2000000) -implicitDefEqProofs [-getElem?_pos, List.getElem?_cons_zero, List.getElem?_cons_succ, go_sem, eqV, plen, loadV, storeV, ho2, hg, bs_0, sliceV, bound, psub, a1, a2, k2, hA', asgI, f2, n2])
    · rw [show (([] : List UInt8).length : Int) = 0 from rfl] at k2
      (refine ⟨0, ?_⟩; simp (maxSteps := 2000000) -implicitDefEqProofs [-getElem?_pos, List.getElem?_cons_zero, List.getElem?_cons_succ, go_sem, eqV, plen, loadV, storeV, bs_0, sliceV, bound, psub, a1, a2, k2, hA', asgI, f2, n2])
  -- a byte less
  obtain ⟨H5, out5, e5, x5, v5, hI5, j2, j3, j4, j5⟩ := inflate_ev (F := 60000) (H := H4) (a := .ro (if c = 0 then 0 else 2) (.pb (b.take (N - 1))) 1) (b := b.take (N - 1)) (mo := 20000) rfl (by rw [List.length_take]; omega) (by omega) (by omega) (by rw [List.length_take]; omega) (by omega)
  rw [r2] at hI5
  obtain ⟨rfl, rfl, rfl⟩ : [] = out5 ∧ 0 = e5 ∧ 4 = x5 := by simpa using hI5
  obtain ⟨v6, H6, hA6, hv6, hle6, hkp6⟩ := j3.asg
  have hk46 : ∀ j, j < H4.length → H6[j]? = H4[j]? := fun j hj => by
    rw [hkp6 j (by omega), j5 j hj (by simp [slO])]
  apply Tells.seq (fr' := [(0, .ro c (.pb b) 1), (5, v), (6, .int .i64 (N : Nat)), (8, v2), (9, .int .i64 (N : Nat)), (10, .int .i64 0), (13, .int .i64 4)]) (H' := H6)
  · have hA' := hA6
    simp only [assignV, und22] at hA'
    have f2 : ((N - 1 : Nat) : Int) ≤ (b.length : Int) := by omega
    have n3 : N - 1 ≤ b.length := by omega
    have w1 : IntKind.i64.wrap ((N : Int) - 1) = ((N - 1 : Nat) : Int) := by rw [wrap_i64 (by omega) (by omega)]; omega
    generalize N - 1 = N1 at *
    (refine ⟨0, ?_⟩; simp (maxSteps := 2000000) -implicitDefEqProofs [-getElem?_pos, List.getElem?_cons_zero, List.getElem?_cons_succ, go_sem, eqV, plen, loadV, storeV, sliceV, bound, psub, j2, hA', asgI, f2, n3, w1])
  have hva : BytV H6 v out := hv2.keep hk46
  have hvb : BytV H6 v2 out := hv4.keep hk46
  have hS := sameB_ev hva.byt hvb.byt
  rw [beq_self_eq_true] at hS
  apply Tells.assoc
  apply Tells.seq (fr' := [(0, .ro c (.pb b) 1), (5, v), (94, .bool false)]) (H' := H6)
  · (refine ⟨0, ?_⟩; simp (maxSteps := 2000000) -implicitDefEqProofs [-getElem?_pos, List.getElem?_cons_zero, List.getElem?_cons_succ, go_sem, eqV, plen, loadV, storeV, hS])
  apply Tells.seq (fr' := [(0, .ro c (.pb b) 1), (5, v), (94, .bool false)]) (H' := H6)
  · refine ⟨0, ?_⟩
    simp (maxSteps := 2000000) -implicitDefEqProofs [-getElem?_pos, List.getElem?_cons_zero, List.getElem?_cons_succ, go_sem, eqV, plen, loadV, storeV]
  apply Tells.assoc
  by_cases ho0 : out = []
  · subst ho0
    apply Tells.seq (fr' := [(0, .ro c (.pb b) 1), (5, v), (97, .bool true)]) (H' := H6)
    · rcases hva with ⟨o, g, τ, ob, rfl, ho, hw⟩ | ⟨_, τ, rfl⟩
      · have hg := hw.g
        (refine ⟨0, ?_⟩; simp (maxSteps := 2000000) -implicitDefEqProofs [-getElem?_pos, List.getElem?_cons_zero, List.getElem?_cons_succ, go_sem, eqV, plen, loadV, storeV, ho, hg])
      · (refine ⟨0, ?_⟩; simp (maxSteps := 2000000) -implicitDefEqProofs [-getElem?_pos, List.getElem?_cons_zero, List.getElem?_cons_succ, go_sem, eqV, plen, loadV, storeV])
    refine Tells.seqOut ?_ (fun o ho => by rw [ho.1]; simp)
    refine Tells.condT (by simp [evalO, getF]) ?_
    apply Tells.seq (fr' := [(4, .bool true)]) (H' := H6)
    · (refine ⟨0, ?_⟩; simp (maxSteps := 2000000) -implicitDefEqProofs [-getElem?_pos, List.getElem?_cons_zero, List.getElem?_cons_succ, go_sem, eqV, plen, loadV, storeV, asgB])
    exact Tells.of (o := ⟨.ret, [(4, .bool true)], H6⟩) ⟨0, rfl⟩ ⟨rfl, rfl⟩
  -- one that may not be told
  have hop : 0 < out.length := List.length_pos_iff.2 ho0
  obtain ⟨o, g, τ, ob, rfl, ho, hw⟩ := hva.sl ho0
  have hg := hw.g
  apply Tells.seq (fr' := [(0, .ro c (.pb b) 1), (5, .sl o 0 out.length g), (97, .bool false)]) (H' := H6)
  · have f1 : ¬ (out.length : Int) = 0 := by omega
    have f1N : ¬ out.length = 0 := by omega
    have f2 : ((out.length : Int) == 0) = false := by simpa using f1
    generalize out.length = M at *
    (refine ⟨0, ?_⟩; simp (maxSteps := 2000000) -implicitDefEqProofs [-getElem?_pos, List.getElem?_cons_zero, List.getElem?_cons_succ, go_sem, eqV, plen, loadV, storeV, ho, hg, f1, f2, f1N])
  apply Tells.seq (fr' := [(0, .ro c (.pb b) 1), (5, .sl o 0 out.length g), (97, .bool false)]) (H' := H6)
  · refine ⟨0, ?_⟩
    simp (maxSteps := 2000000) -implicitDefEqProofs [-getElem?_pos, List.getElem?_cons_zero, List.getElem?_cons_succ, go_sem, eqV, plen, loadV, storeV]
  obtain ⟨H7, out7, e7, x7, v7, hI7, l2, l3, l4, l5⟩ := inflate_ev (F := 60000) (H := H6) (a := .ro c (.pb b) 1) (b := b) (mo := (out.length : Int) - 1) rfl (by omega) (by omega) (by omega) (by omega) (by omega)
  rw [r3 ho0] at hI7
  obtain ⟨rfl, rfl, rfl⟩ : [] = out7 ∧ 0 = e7 ∧ 3 = x7 := by simpa using hI7
  obtain ⟨v8, H8, hA8, hv8, hle8, hkp8⟩ := l3.asg
  apply Tells.seq (fr' := [(16, .int .i64 3)]) (H' := H8)
  · have hA' := hA8
    simp only [assignV, und22] at hA'
    have w1 : IntKind.i64.wrap ((out.length : Int) - 1) = (out.length : Int) - 1 := by rw [wrap_i64 (by omega) (by omega)]
    generalize out.length = M at *
    (refine ⟨0, ?_⟩; simp (maxSteps := 2000000) -implicitDefEqProofs [-getElem?_pos, List.getElem?_cons_zero, List.getElem?_cons_succ, go_sem, eqV, plen, loadV, storeV, ho, hg, l2, hA', asgI, w1])
  apply Tells.seq (fr' := [(4, .bool true)]) (H' := H8)
  · (refine ⟨0, ?_⟩; simp (maxSteps := 2000000) -implicitDefEqProofs [-getElem?_pos, List.getElem?_cons_zero, List.getElem?_cons_succ, go_sem, eqV, plen, loadV, storeV, asgB])
  exact Tells.of (o := ⟨.ret, [(4, .bool true)], H8⟩) ⟨0, rfl⟩ ⟨rfl, rfl⟩

end

end Go.Proofs.Ytdjjekeaeoajpaa
