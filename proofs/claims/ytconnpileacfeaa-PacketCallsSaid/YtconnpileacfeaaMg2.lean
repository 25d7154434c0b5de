/- QA to RB: texts of this claim, one behind the other; what each shows stands at its head. -/
import Derived.Test.YtconnpileacfeaaMg1
/- Walks: a reader fed: a frame. -/
namespace Go.Proofs.Ytconnpileacfeaa
open Go.AM
set_option linter.unusedSimpArgs false
set_option linter.unusedVariables false

/-- a payload begun -/
def fdS1 (s : Rd) : Rd := if s.wi then s else { s with wi := true, sq := s.nx }
/-- a frame taken -/
def fdS2 (s : Rd) (n : Nat) : Rd := { fdS1 s with body := s.body ++ (s.rest.drop 4).take n, rest := s.rest.drop (4 + n), nx := (s.nx + 1) % 256 }
theorem fdS1_rest (s : Rd) : (fdS1 s).rest = s.rest := by unfold fdS1; split <;> rfl
theorem fdS1_body (s : Rd) : (fdS1 s).body = s.body := by unfold fdS1; split <;> rfl
theorem fdS1_nx (s : Rd) : (fdS1 s).nx = s.nx := by unfold fdS1; split <;> rfl
theorem fdS1_m (s : Rd) : (fdS1 s).m = s.m := by unfold fdS1; split <;> rfl
theorem fdS1_wi (s : Rd) : (fdS1 s).wi = true := by
  unfold fdS1
  split
  · assumption
  · rfl
theorem fdS2_eq (s : Rd) (n : Nat) : { fdS1 s with body := (fdS1 s).body ++ ((fdS1 s).rest.drop 4).take n, rest := (fdS1 s).rest.drop (4 + n), nx := ((fdS1 s).nx + 1) % 256 } = fdS2 s n := by
  unfold fdS2; rw [fdS1_rest, fdS1_body, fdS1_nx]
/-- frames read; fuel -/
def fdL : Nat → Rd → List Pk → Rd × List Pk × Int
  | 0, s, out => (s, out, 0)
  | f + 1, s, out =>
    if s.rest.length < 4 then (s, out, 0) else
    if ckE s ≠ 0 then ({ s with st := ckE s }, out, ckE s) else
    if s.rest.length < 4 + leV (s.rest.take 3) then (s, out, 0) else
    if leV (s.rest.take 3) < s.m then fdL f { fdS2 s (leV (s.rest.take 3)) with body := [], wi := false } (out ++ [⟨(fdS2 s (leV (s.rest.take 3))).sq, (fdS2 s (leV (s.rest.take 3))).nx, (fdS2 s (leV (s.rest.take 3))).body⟩])
    else fdL f (fdS2 s (leV (s.rest.take 3))) out

/-- nothing of the reader lies where the payloads lie -/
def Off (O a : Nat) (oc : Option Nat) : Prop := 0 < O ∧ O ≠ a ∧ ∀ c, oc = some c → c ≠ O

theorem PkR.keep {t : Nat} {H H' : AM.Heap} {O n g : Nat} {out : List Pk} (h : PkR t H O n g out) (hk : H'[O]? = H[O]?) : PkR t H' O n g out := by
  obtain ⟨l, ob, τ, h1, h2, h3, h4, h5⟩ := h
  exact ⟨l, ob, τ, h1, h2, h3, by rw [hk]; exact h4, h5⟩
theorem PkR.lt {t : Nat} {H : AM.Heap} {O n g : Nat} {out : List Pk} (h : PkR t H O n g out) : O < H.length := by
  obtain ⟨l, ob, τ, h1, h2, h3, h4, h5⟩ := h
  exact at_lt h4

section
variable {H : AM.Heap} {s : Rd} {a : Nat} {oc : Option Nat}

set_option maxRecDepth 100000 in
set_option maxHeartbeats 8000000 in
/-- a frame's bytes taken -/
theorem fd_take (O N g n : Nat) (tl : AM.Frame) (htl : tl = [] ∨ tl = [(58, .bool false)]) (out : List Pk) (h : RdI 3 H s a oc) (hout : PkR 3 H O N g out) (hoff : Off O a oc) (hn : 4 + n ≤ s.rest.length) (hrl : s.rest.length ≤ 1000000) (hbl : s.body.length ≤ 1000000) (hnx : s.nx < 256) (wi : s.wi = true) :
    ∃ H' c, RdI 3 H' { s with body := s.body ++ (s.rest.drop 4).take n, rest := s.rest.drop (4 + n), nx := (s.nx + 1) % 256 } a (some c) ∧ PkR 3 H' O N g out ∧ Off O a (some c) ∧ H.length ≤ H'.length ∧
      ∀ (cd15 cd16 cd17 : Code), ((Try.f18.body).bind (codeAt [1, 1, 1, 1, 0, 0, 0, 1, 0, 1, 1, 1, 1, 0])) = some cd15 → ((Try.f18.body).bind (codeAt [1, 1, 1, 1, 0, 0, 0, 1, 0, 1, 1, 1, 1, 1, 0])) = some cd16 → ((Try.f18.body).bind (codeAt [1, 1, 1, 1, 0, 0, 0, 1, 0, 1, 1, 1, 1, 1, 1, 0])) = some cd17 → ∀ Q rest, Tells Q X (evT X) 18 1 rest (fdFr O N g [(7, .int .i64 (n : Nat))]) H' → Tells Q X (evT X) 18 1 (.seq cd15 (.seq cd16 (.seq cd17 rest))) (fdFr O N g ((7, .int .i64 (n : Nat)) :: tl)) H := by
  obtain ⟨⟨vr, vb, τ, hτ, h0, ⟨off, ga, τ1, oa, L, hτ1, rfl, ha, hwa, hl, hle, hLle⟩, hb⟩, a0⟩ := h
  have hrlen : s.rest.length = (L.drop off).length := by rw [hl]
  have hL : off + s.rest.length = L.length := by rw [hrlen, List.length_drop]; omega
  obtain ⟨O0, Oa, Oc⟩ := hoff
  have hOl := hout.lt
  have hpc : ((L.drop off).drop 4).take n = (s.rest.drop 4).take n := by rw [hl]
  have hdr : L.drop (off + (4 + n)) = s.rest.drop (4 + n) := by rw [← hl, List.drop_drop]
  have hrl2 : (s.rest.drop (4 + n)).length = s.rest.length - (4 + n) := by rw [List.length_drop]
  cases oc with
  | none =>
    obtain ⟨τ2, hτ2, rfl, hbody⟩ := hb
    have r15 := fd_r15n (s := s) (τ := τ) O N g n tl htl a off s.rest.length ga τ2 oa L h0 ha hwa.p hwa.g hwa.ids hn hL (by omega)
    rw [hpc] at r15
    have hHl : 0 < H.length := at_lt h0
    have hal := at_lt ha
    have k0 : (upd (H ++ [some (⟨.pb ((s.rest.drop 4).take n), 0, .none, 0, true, false, 0⟩ : AM.Obj)]) 0 (some (rdBx s (.sl a off s.rest.length ga) (.sl H.length 0 n 0) τ)))[0]? = some (some (rdBx s (.sl a off s.rest.length ga) (.sl H.length 0 n 0) τ)) := at_set (at_cat h0)
    have ka : (upd (H ++ [some (⟨.pb ((s.rest.drop 4).take n), 0, .none, 0, true, false, 0⟩ : AM.Obj)]) 0 (some (rdBx s (.sl a off s.rest.length ga) (.sl H.length 0 n 0) τ)))[a]? = some (some oa) := at_ne (at_cat ha) (by omega)
    have kc : (upd (H ++ [some (⟨.pb ((s.rest.drop 4).take n), 0, .none, 0, true, false, 0⟩ : AM.Obj)]) 0 (some (rdBx s (.sl a off s.rest.length ga) (.sl H.length 0 n 0) τ)))[H.length]? = some (some ⟨.pb ((s.rest.drop 4).take n), 0, .none, 0, true, false, 0⟩) := at_ne (by simp) (by omega)
    have kO : (upd (H ++ [some (⟨.pb ((s.rest.drop 4).take n), 0, .none, 0, true, false, 0⟩ : AM.Obj)]) 0 (some (rdBx s (.sl a off s.rest.length ga) (.sl H.length 0 n 0) τ)))[O]? = H[O]? := by
      unfold upd
      rw [List.getElem?_set_ne (by omega), List.getElem?_append_left hOl]
    have kl : (upd (H ++ [some (⟨.pb ((s.rest.drop 4).take n), 0, .none, 0, true, false, 0⟩ : AM.Obj)]) 0 (some (rdBx s (.sl a off s.rest.length ga) (.sl H.length 0 n 0) τ))).length = H.length + 1 := by simp [upd]
    generalize upd (H ++ [some (⟨.pb ((s.rest.drop 4).take n), 0, .none, 0, true, false, 0⟩ : AM.Obj)]) 0 (some (rdBx s (.sl a off s.rest.length ga) (.sl H.length 0 n 0) τ)) = H1 at *
    have r16 := fd_r16 (s := s) (vb := .sl H.length 0 n 0) (τ := τ) O N g n a off s.rest.length ga oa L k0 ka hwa.p hwa.g hn hL (by omega)
    have m0 : (upd H1 0 (some (rdBx s (.sl a (off + (4 + n)) (s.rest.length - (4 + n)) ga) (.sl H.length 0 n 0) τ)))[0]? = _ := at_set k0
    have r17 := fd_r17 (s := s) (τ := τ) O N g n hnx m0
    have hup : upd (upd H1 0 (some (rdBx s (.sl a (off + (4 + n)) (s.rest.length - (4 + n)) ga) (.sl H.length 0 n 0) τ))) 0 (some (rdBx { s with nx := (s.nx + 1) % 256 } (.sl a (off + (4 + n)) (s.rest.length - (4 + n)) ga) (.sl H.length 0 n 0) τ)) = upd H1 0 (some (rdBx { s with nx := (s.nx + 1) % 256 } (.sl a (off + (4 + n)) (s.rest.length - (4 + n)) ga) (.sl H.length 0 n 0) τ)) := by unfold upd; simp
    rw [hup] at r17
    have hpl : ((s.rest.drop 4).take n).length = n := by rw [List.length_take, List.length_drop]; omega
    refine ⟨upd H1 0 (some (rdBx { s with nx := (s.nx + 1) % 256 } (.sl a (off + (4 + n)) (s.rest.length - (4 + n)) ga) (.sl H.length 0 n 0) τ)), H.length, ⟨⟨.sl a (off + (4 + n)) (s.rest.length - (4 + n)) ga, .sl H.length 0 n 0, τ, hτ, at_set k0, ⟨off + (4 + n), ga, τ1, oa, L, hτ1, by rw [hrl2], at_ne ka (by omega), hwa, hdr, by omega, hLle⟩, ⟨0, 0, 0, _, (s.rest.drop 4).take n, .inl rfl, by rw [hbody, List.nil_append, hpl], at_ne kc (by omega), ⟨rfl, rfl, rfl, rfl, rfl⟩, by rw [hbody]; simp, by omega, by rw [hpl]; omega⟩, by omega, by omega⟩, a0⟩, hout.keep (by unfold upd; rw [List.getElem?_set_ne (by omega), kO]), ⟨O0, Oa, fun c hc => by cases hc; omega⟩, by simp [upd, kl], ?_⟩
    intro cd15 cd16 cd17 e15 e16 e17 Q rest ht
    apply Tells.seq (piece r15 _ e15)
    apply Tells.seq (piece r16 _ e16)
    apply Tells.seq (piece r17 _ e17)
    exact ht
  | some c =>
    obtain ⟨⟨off2, gc, τ2, ob, L2, hτ2, rfl, hc, hwc, hl2, hle2, hLle2⟩, c0, ca⟩ := hb
    have hOc := Oc c rfl
    obtain ⟨ob', hw', r15⟩ := fd_r15s (s := s) (τ := τ) O N g n tl htl a off s.rest.length ga c off2 s.body.length gc τ2 oa ob L L2 h0 ha hwa.p hwa.g hwa.ids hn hL (by omega) hc hwc (by rw [hl2]) hle2 (by omega) c0
    rw [hpc, hl2] at hw'
    have k0 : (upd (upd H c (some ob')) 0 (some (rdBx s (.sl a off s.rest.length ga) (.sl c 0 (s.body.length + n) (gc + 1)) τ)))[0]? = some (some (rdBx s (.sl a off s.rest.length ga) (.sl c 0 (s.body.length + n) (gc + 1)) τ)) := at_set (at_ne h0 (by omega))
    have ka : (upd (upd H c (some ob')) 0 (some (rdBx s (.sl a off s.rest.length ga) (.sl c 0 (s.body.length + n) (gc + 1)) τ)))[a]? = some (some oa) := at_ne (at_ne ha ca) (by omega)
    have kc : (upd (upd H c (some ob')) 0 (some (rdBx s (.sl a off s.rest.length ga) (.sl c 0 (s.body.length + n) (gc + 1)) τ)))[c]? = some (some ob') := at_ne (at_set hc) (by omega)
    have kO : (upd (upd H c (some ob')) 0 (some (rdBx s (.sl a off s.rest.length ga) (.sl c 0 (s.body.length + n) (gc + 1)) τ)))[O]? = H[O]? := by
      unfold upd
      rw [List.getElem?_set_ne (by omega), List.getElem?_set_ne hOc]
    have kl : (upd (upd H c (some ob')) 0 (some (rdBx s (.sl a off s.rest.length ga) (.sl c 0 (s.body.length + n) (gc + 1)) τ))).length = H.length := by simp [upd]
    generalize upd (upd H c (some ob')) 0 (some (rdBx s (.sl a off s.rest.length ga) (.sl c 0 (s.body.length + n) (gc + 1)) τ)) = H1 at *
    have r16 := fd_r16 (s := s) (vb := .sl c 0 (s.body.length + n) (gc + 1)) (τ := τ) O N g n a off s.rest.length ga oa L k0 ka hwa.p hwa.g hn hL (by omega)
    have m0 : (upd H1 0 (some (rdBx s (.sl a (off + (4 + n)) (s.rest.length - (4 + n)) ga) (.sl c 0 (s.body.length + n) (gc + 1)) τ)))[0]? = _ := at_set k0
    have r17 := fd_r17 (s := s) (τ := τ) O N g n hnx m0
    have hup : upd (upd H1 0 (some (rdBx s (.sl a (off + (4 + n)) (s.rest.length - (4 + n)) ga) (.sl c 0 (s.body.length + n) (gc + 1)) τ))) 0 (some (rdBx { s with nx := (s.nx + 1) % 256 } (.sl a (off + (4 + n)) (s.rest.length - (4 + n)) ga) (.sl c 0 (s.body.length + n) (gc + 1)) τ)) = upd H1 0 (some (rdBx { s with nx := (s.nx + 1) % 256 } (.sl a (off + (4 + n)) (s.rest.length - (4 + n)) ga) (.sl c 0 (s.body.length + n) (gc + 1)) τ)) := by unfold upd; simp
    rw [hup] at r17
    have hpl : (s.body ++ (s.rest.drop 4).take n).length = s.body.length + n := by rw [List.length_append, List.length_take, List.length_drop]; omega
    refine ⟨upd H1 0 (some (rdBx { s with nx := (s.nx + 1) % 256 } (.sl a (off + (4 + n)) (s.rest.length - (4 + n)) ga) (.sl c 0 (s.body.length + n) (gc + 1)) τ)), c, ⟨⟨.sl a (off + (4 + n)) (s.rest.length - (4 + n)) ga, .sl c 0 (s.body.length + n) (gc + 1), τ, hτ, at_set k0, ⟨off + (4 + n), ga, τ1, oa, L, hτ1, by rw [hrl2], at_ne ka (by omega), hwa, hdr, by omega, hLle⟩, ⟨0, gc + 1, τ2, ob', s.body ++ (s.rest.drop 4).take n, hτ2, by rw [hpl], at_ne kc (by omega), hw', by simp, by omega, by rw [hpl]; omega⟩, c0, ca⟩, a0⟩, hout.keep (by unfold upd; rw [List.getElem?_set_ne (by omega), kO]), ⟨O0, Oa, Oc⟩, by simp [upd, kl], ?_⟩
    intro cd15 cd16 cd17 e15 e16 e17 Q rest ht
    apply Tells.seq (piece r15 _ e15)
    apply Tells.seq (piece r16 _ e16)
    apply Tells.seq (piece r17 _ e17)
    exact ht

end

end Go.Proofs.Ytconnpileacfeaa

/- Walks: a reader fed: frames, one behind the other. -/
namespace Go.Proofs.Ytconnpileacfeaa
open Go.AM
set_option linter.unusedSimpArgs false
set_option linter.unusedVariables false

theorem RdI.box {t : Nat} {H : AM.Heap} {s s' : Rd} {a : Nat} {oc : Option Nat} (h : RdI t H s a oc) (hr : s'.rest = s.rest) (hb : s'.body = s.body) :
    ∃ vr vb τ, H[0]? = some (some (rdBx s vr vb τ)) ∧ RdI t (upd H 0 (some (rdBx s' vr vb τ))) s' a oc := by
  obtain ⟨⟨vr, vb, τ, hτ, h0, hvr, hvb⟩, a0⟩ := h
  refine ⟨vr, vb, τ, h0, ⟨vr, vb, τ, hτ, at_set h0, by rw [hr]; exact hvr.ne (by omega), ?_⟩, a0⟩
  cases oc with
  | none => simp only at hvb ⊢; rw [hb]; exact hvb
  | some c =>
    simp only at hvb ⊢
    exact ⟨by rw [hb]; exact hvb.1.ne (by have := hvb.2.1; omega), hvb.2⟩

theorem Off.keep {H H' : AM.Heap} {O a N g : Nat} {oc : Option Nat} {out : List Pk} (h : Off O a oc) (hout : PkR 3 H O N g out) (hk : ∀ j, j ≠ 0 → j ≠ a → (∀ c, oc = some c → j ≠ c) → H'[j]? = H[j]?) : PkR 3 H' O N g out :=
  hout.keep (hk O (by have := h.1; omega) h.2.1 (fun c hc => Ne.symm (h.2.2 c hc)))
theorem Off.upd0 {H : AM.Heap} {O a N g : Nat} {oc : Option Nat} {out : List Pk} {x : Option AM.Obj} (h : Off O a oc) (hout : PkR 3 H O N g out) : PkR 3 (upd H 0 x) O N g out :=
  hout.keep (by unfold upd; rw [List.getElem?_set_ne (by have := h.1; omega)])

/-- how far a reader may have come -/
structure FdB (s : Rd) (out : List Pk) : Prop where
  nx : s.nx < 256
  sz : s.rest.length + s.body.length + out.length ≤ 900000

theorem lenSl {H : AM.Heap} {s : Rd} {a : Nat} {vr : AV} (h : SlO 3 H a vr s.rest) : lenV X H 22 vr = some ((s.rest.length : Nat) : Int) := by
  obtain ⟨off, ga, τ1, oa, L, hτ1, rfl, ha, hwa, hl, hle, hLb⟩ := h
  simp [lenV, live, ha, hwa.g]

section
variable {H : AM.Heap} {s : Rd} {a : Nat} {oc : Option Nat}

set_option maxRecDepth 100000 in
set_option maxHeartbeats 4000000 in
theorem fd_r7 (O N g : Nat) (tl : AM.Frame) (htl : tl = [] ∨ tl = [(106, .bool false)]) (h : RdI 3 H s a oc) :
    ∃ code, ((Try.f18.body).bind (codeAt [1, 1, 1, 1, 0, 0, 0, 0, 0])) = some code ∧ Run X (evT X) 18 1 code (fdFr O N g tl) H ⟨.normal, fdFr O N g [(32, .bool (decide (4 ≤ s.rest.length)))], H⟩ := by
  refine ⟨_, rfl, ?_⟩
  obtain ⟨⟨vr, vb, τ, hτ, h0, ⟨off, ga, τ1, oa, L, hτ1, rfl, ha, hwa, hl, hle, hLb⟩, hvb⟩, a0⟩ := h
  have hg := hwa.g
  have hd : decide ((4 : Int) ≤ (s.rest.length : Int)) = decide (4 ≤ s.rest.length) := by
    rw [decide_eq_decide]; omega
  unfold fdFr
  simp only [rdBx, Rd.pay] at h0
  generalize s.rest.length = rl at *
  rcases htl with rfl | rfl
  · by_cases h4 : 4 ≤ rl
    · have h4I : (4 : Int) ≤ (rl : Int) := by omega
      (refine ⟨0, ?_⟩; simp (maxSteps := 2000000) -implicitDefEqProofs [-getElem?_pos, List.getElem?_cons_zero, List.getElem?_cons_succ, go_sem, eqV, plen, loadV, storeV, h0, ha, hg, h4, h4I])
    · have h4I : ¬ (4 : Int) ≤ (rl : Int) := by omega
      (refine ⟨0, ?_⟩; simp (maxSteps := 2000000) -implicitDefEqProofs [-getElem?_pos, List.getElem?_cons_zero, List.getElem?_cons_succ, go_sem, eqV, plen, loadV, storeV, h0, ha, hg, h4, h4I])
  · by_cases h4 : 4 ≤ rl
    · have h4I : (4 : Int) ≤ (rl : Int) := by omega
      (refine ⟨0, ?_⟩; simp (maxSteps := 2000000) -implicitDefEqProofs [-getElem?_pos, List.getElem?_cons_zero, List.getElem?_cons_succ, go_sem, eqV, plen, loadV, storeV, h0, ha, hg, h4, h4I])
    · have h4I : ¬ (4 : Int) ≤ (rl : Int) := by omega
      (refine ⟨0, ?_⟩; simp (maxSteps := 2000000) -implicitDefEqProofs [-getElem?_pos, List.getElem?_cons_zero, List.getElem?_cons_succ, go_sem, eqV, plen, loadV, storeV, h0, ha, hg, h4, h4I])

set_option maxRecDepth 100000 in
set_option maxHeartbeats 4000000 in
theorem fd_r12 (O N g n : Nat) (h : RdI 3 H s a oc) (hn : n ≤ 16777216) :
    ∃ code, ((Try.f18.body).bind (codeAt [1, 1, 1, 1, 0, 0, 0, 1, 0, 1, 1, 0, 0])) = some code ∧ Run X (evT X) 18 1 code (fdFr O N g [(7, .int .i64 (n : Nat)), (8, .int .i64 0), (39, .bool false)]) H ⟨.normal, fdFr O N g [(7, .int .i64 (n : Nat)), (53, .bool (decide (s.rest.length < 4 + n)))], H⟩ := by
  refine ⟨_, rfl, ?_⟩
  obtain ⟨⟨vr, vb, τ, hτ, h0, ⟨off, ga, τ1, oa, L, hτ1, rfl, ha, hwa, hl, hle, hLb⟩, hvb⟩, a0⟩ := h
  have hg := hwa.g
  have w4 : IntKind.i64.wrap (4 + (n : Int)) = ((4 + n : Nat) : Int) := by rw [wrap_i64 (by omega) (by omega)]; omega
  unfold fdFr
  simp only [rdBx, Rd.pay] at h0
  generalize s.rest.length = rl at *
  generalize 4 + n = n4 at *
  by_cases h4 : rl < n4
  · have h4I : (rl : Int) < (n4 : Int) := by omega
    (refine ⟨0, ?_⟩; simp (maxSteps := 2000000) -implicitDefEqProofs [-getElem?_pos, List.getElem?_cons_zero, List.getElem?_cons_succ, go_sem, eqV, plen, loadV, storeV, h0, ha, hg, h4, h4I, w4])
  · have h4I : ¬ (rl : Int) < (n4 : Int) := by omega
    (refine ⟨0, ?_⟩; simp (maxSteps := 2000000) -implicitDefEqProofs [-getElem?_pos, List.getElem?_cons_zero, List.getElem?_cons_succ, go_sem, eqV, plen, loadV, storeV, h0, ha, hg, h4, h4I, w4])

set_option maxRecDepth 100000 in
set_option maxHeartbeats 4000000 in
theorem fd_r13 (O N g n : Nat) (h : RdI 3 H s a oc) :
    ∃ code, ((Try.f18.body).bind (codeAt [1, 1, 1, 1, 0, 0, 0, 1, 0, 1, 1, 1, 0, 0])) = some code ∧ Run X (evT X) 18 1 code (fdFr O N g [(7, .int .i64 (n : Nat)), (53, .bool false)]) H ⟨.normal, fdFr O N g [(7, .int .i64 (n : Nat)), (58, .bool (!s.wi))], H⟩ := by
  refine ⟨_, rfl, ?_⟩
  obtain ⟨⟨vr, vb, τ, hτ, h0, hvr, hvb⟩, a0⟩ := h
  unfold fdFr
  simp only [rdBx, Rd.pay] at h0
  cases hw : s.wi
  · rw [hw] at h0
    (refine ⟨0, ?_⟩; simp (maxSteps := 2000000) -implicitDefEqProofs [-getElem?_pos, List.getElem?_cons_zero, List.getElem?_cons_succ, go_sem, eqV, plen, loadV, storeV, h0, unV])
  · rw [hw] at h0
    (refine ⟨0, ?_⟩; simp (maxSteps := 2000000) -implicitDefEqProofs [-getElem?_pos, List.getElem?_cons_zero, List.getElem?_cons_succ, go_sem, eqV, plen, loadV, storeV, h0, unV])

set_option maxRecDepth 100000 in
set_option maxHeartbeats 4000000 in
theorem fd_r18 (O N g n : Nat) (h : RdI 3 H s a oc) :
    ∃ code, ((Try.f18.body).bind (codeAt [1, 1, 1, 1, 0, 0, 0, 1, 0, 1, 1, 1, 1, 1, 1, 1, 0])) = some code ∧ Run X (evT X) 18 1 code (fdFr O N g [(7, .int .i64 (n : Nat))]) H ⟨.normal, fdFr O N g [(106, .bool (decide (n < s.m)))], H⟩ := by
  refine ⟨_, rfl, ?_⟩
  obtain ⟨⟨vr, vb, τ, hτ, h0, hvr, hvb⟩, a0⟩ := h
  unfold fdFr
  simp only [rdBx, Rd.pay] at h0
  by_cases h4 : n < s.m
  · have h4I : (n : Int) < (s.m : Int) := by omega
    (refine ⟨0, ?_⟩; simp (maxSteps := 2000000) -implicitDefEqProofs [-getElem?_pos, List.getElem?_cons_zero, List.getElem?_cons_succ, go_sem, eqV, plen, loadV, storeV, h0, h4, h4I])
  · have h4I : ¬ (n : Int) < (s.m : Int) := by omega
    (refine ⟨0, ?_⟩; simp (maxSteps := 2000000) -implicitDefEqProofs [-getElem?_pos, List.getElem?_cons_zero, List.getElem?_cons_succ, go_sem, eqV, plen, loadV, storeV, h0, h4, h4I])

set_option maxRecDepth 100000 in
set_option maxHeartbeats 4000000 in
theorem fd_r10 (O N g : Nat) (e : Int) (vr vb : AV) (τ : Nat) (tl : AM.Frame) (x : AV) (h0 : H[0]? = some (some (rdBx s vr vb τ))) :
    ∃ code, ((Try.f18.body).bind (codeAt [1, 1, 1, 1, 0, 0, 0, 1, 0, 1, 0, 1, 0, 0])) = some code ∧ Run X (evT X) 18 1 code (fdFr O N g [(7, x), (8, .int .i64 e), (39, .bool true)]) H ⟨.normal, [(6, .sl O 0 N g), (8, .int .i64 e)], upd H 0 (some (rdBx { s with st := e } vr vb τ))⟩ := by
  refine ⟨_, rfl, ?_⟩
  unfold fdFr
  simp only [rdBx, Rd.pay] at h0
  (refine ⟨0, ?_⟩; simp (maxSteps := 2000000) -implicitDefEqProofs [-getElem?_pos, List.getElem?_cons_zero, List.getElem?_cons_succ, go_sem, eqV, plen, loadV, storeV, h0, rdBx, Rd.pay])

end

end Go.Proofs.Ytconnpileacfeaa

/- Walks: a reader fed: the rounds. -/
namespace Go.Proofs.Ytconnpileacfeaa
open Go.AM
set_option linter.unusedSimpArgs false
set_option linter.unusedVariables false

section
variable {H : AM.Heap} {s : Rd} {a : Nat} {oc : Option Nat}

set_option maxRecDepth 100000 in
set_option maxHeartbeats 4000000 in
/-- a payload told -/
theorem fd_tell (O N g c : Nat) (out : List Pk) (h : RdI 3 H s a (some c)) (hout : PkR 3 H O N g out) (hoff : Off O a (some c)) (hN : N ≤ 1000000) :
    ∃ H', RdI 3 H' { s with body := [], wi := false } a none ∧ PkR 3 H' O (N + 1) (g + 1) (out ++ [⟨s.sq, s.nx, s.body⟩]) ∧ Off O a none ∧ H'.length = H.length ∧
      ∀ (cd19 cd20 : Code), ((Try.f18.body).bind (codeAt [1, 1, 1, 1, 0, 0, 0, 1, 0, 1, 1, 1, 1, 1, 1, 1, 1, 0, 0])) = some cd19 → ((Try.f18.body).bind (codeAt [1, 1, 1, 1, 0, 0, 0, 1, 0, 1, 1, 1, 1, 1, 1, 1, 1, 0, 1])) = some cd20 → Run X (evT X) 18 1 (.seq cd19 cd20) (fdFr O N g [(106, .bool true)]) H ⟨.normal, fdFr O (N + 1) (g + 1) [], H'⟩ := by
  obtain ⟨⟨vr, vb, τ, hτ, h0, hvr, ⟨⟨off2, gc, τ2, ob, L2, hτ2, rfl, hc, hwc, hl2, hle2, hLb2⟩, c0, ca⟩⟩, a0⟩ := h
  obtain ⟨O0, Oa, Oc⟩ := hoff
  have hcO := Oc c rfl
  have hbl : s.body.length + off2 = L2.length := by rw [← hl2, List.length_drop]; omega
  have htk : (L2.drop off2).take s.body.length = s.body := by rw [hl2, List.take_length]
  obtain ⟨H', q1, q2, q3, r19⟩ := fd_r19 (s := s) (vr := vr) (τ := τ) O N g out c off2 s.body.length gc τ2 ob L2 h0 hc hwc hτ2 (by omega) (by rw [htk]) hout hN c0 hcO O0
  rw [htk] at q1
  have k0 : H'[0]? = some (some (rdBx s vr (.sl c off2 s.body.length gc) τ)) := by rw [q2 0 (by omega) (by omega)]; exact h0
  have r20 := fd_r20 (s := s) (vr := vr) (τ := τ) (.sl c off2 s.body.length gc) O (N + 1) (g + 1) k0
  refine ⟨upd H' 0 (some (rdBx { s with wi := false } vr (.ro 0 .pn 0) τ)), ⟨⟨vr, .ro 0 .pn 0, τ, hτ, at_set k0, ?_, 0, .inl rfl, rfl, rfl⟩, a0⟩, q1.keep (by unfold upd; rw [List.getElem?_set_ne (by omega)]), ⟨O0, Oa, fun c hc => by cases hc⟩, by simp [upd, q3], ?_⟩
  · obtain ⟨off, ga, τ1, oa, L, hτ1, e1, ha, hr⟩ := hvr
    exact ⟨off, ga, τ1, oa, L, hτ1, e1, at_ne (by rw [q2 a (Ne.symm Oa) (Ne.symm ca)]; exact ha) (by omega), hr⟩
  · intro cd19 cd20 e19 e20
    exact Run.seq (piece r19 _ e19) (piece r20 _ e20)

set_option maxRecDepth 100000 in
set_option maxHeartbeats 4000000 in
theorem fd_r8 {H1 : AM.Heap} (O N g n : Nat) (e : Int) (hc : evT X 29 [.ptr 0 0 0 0] H = some (.tup [.int .i64 (n : Nat), .int .i64 e], H1)) :
    ∃ code, ((Try.f18.body).bind (codeAt [1, 1, 1, 1, 0, 0, 0, 1, 0, 0])) = some code ∧ Run X (evT X) 18 1 code (fdFr O N g [(32, .bool true)]) H ⟨.normal, fdFr O N g [(7, .int .i64 (n : Nat)), (8, .int .i64 e)], H1⟩ := by
  refine ⟨_, rfl, ?_⟩
  unfold fdFr
  (refine ⟨0, ?_⟩; simp (maxSteps := 2000000) -implicitDefEqProofs [-getElem?_pos, List.getElem?_cons_zero, List.getElem?_cons_succ, go_sem, eqV, plen, loadV, storeV, hc, assignV])

set_option maxRecDepth 100000 in
set_option maxHeartbeats 4000000 in
theorem fd_r9 (O N g n : Nat) (e : Int) :
    ∃ code, ((Try.f18.body).bind (codeAt [1, 1, 1, 1, 0, 0, 0, 1, 0, 1, 0, 0])) = some code ∧ Run X (evT X) 18 1 code (fdFr O N g [(7, .int .i64 (n : Nat)), (8, .int .i64 e)]) H ⟨.normal, fdFr O N g [(7, .int .i64 (n : Nat)), (8, .int .i64 e), (39, .bool (e != 0))], H⟩ := by
  refine ⟨_, rfl, ?_⟩
  unfold fdFr
  by_cases he : e = 0
  · have h1 : (e == 0) = true := by simp [he]
    (refine ⟨0, ?_⟩; simp (maxSteps := 2000000) -implicitDefEqProofs [-getElem?_pos, List.getElem?_cons_zero, List.getElem?_cons_succ, go_sem, eqV, plen, loadV, storeV, h1])
  · have h1 : (e == 0) = false := by simp [he]
    (refine ⟨0, ?_⟩; simp (maxSteps := 2000000) -implicitDefEqProofs [-getElem?_pos, List.getElem?_cons_zero, List.getElem?_cons_succ, go_sem, eqV, plen, loadV, storeV, h1])

end

/-- how Feed tells -/
def fdQ (x : Rd × List Pk × Int) (fr : AM.Frame) (H : AM.Heap) : Prop := ∃ O g a oc, getF fr 4 = .sl O 0 x.2.1.length g ∧ getF fr 5 = .int .i64 x.2.2 ∧ RdI 3 H x.1 a oc ∧ PkR 3 H O x.2.1.length g x.2.1 ∧ Off O a oc
/-- how the rounds end -/
def fdP (x : Rd × List Pk × Int) (fr : AM.Frame) (H : AM.Heap) : Prop := ∃ O g a oc tl, fr = fdFr O x.2.1.length g tl ∧ (tl = [(32, .bool false)] ∨ ∃ v, tl = [(7, v), (53, .bool true)]) ∧ x.2.2 = 0 ∧ RdI 3 H x.1 a oc ∧ PkR 3 H O x.2.1.length g x.2.1 ∧ Off O a oc

set_option maxRecDepth 100000 in
set_option maxHeartbeats 8000000 in
theorem fd_loop {H0 : AM.Heap} (s0 : Rd) (a0 O0 g0 : Nat) (oc0 : Option Nat) (out0 : List Pk) (f0 : Nat) (h0 : RdI 3 H0 s0 a0 oc0) (hout0 : PkR 3 H0 O0 out0.length g0 out0) (hoff0 : Off O0 a0 oc0) (hB0 : FdB s0 out0) (hf0 : s0.rest.length < f0) :
    ∃ code, ((Try.f18.body).bind (codeAt [1, 1, 1, 1, 0])) = some code ∧
      Tells (Or2 (fdP (fdL f0 s0 out0)) (fun o => o.ex = .ret ∧ fdQ (fdL f0 s0 out0) o.fr o.H)) X (evT X) 18 1 code (fdFr O0 out0.length g0 []) H0 := by
  refine ⟨_, rfl, ?_⟩
  refine (Tells.blockOr (Q := fun o => o.ex = .ret ∧ fdQ (fdL f0 s0 out0) o.fr o.H) (P := fdP (fdL f0 s0 out0)) ?_)
  refine Tells.loopP (fun k fr H => ∃ s O g a oc out f tl, k = s.rest.length ∧ fr = fdFr O out.length g tl ∧ (tl = [] ∨ tl = [(106, .bool false)]) ∧ RdI 3 H s a oc ∧ PkR 3 H O out.length g out ∧ Off O a oc ∧ FdB s out ∧ s.rest.length < f ∧ fdL f0 s0 out0 = fdL f s out) ?_ (k := s0.rest.length) ⟨s0, O0, g0, a0, oc0, out0, f0, [], rfl, rfl, .inl rfl, h0, hout0, hoff0, hB0, hf0, rfl⟩
  rintro k fr H ⟨s, O, g, a, oc, out, f, tl, rfl, rfl, htl, h, hout, hoff, hB, hf, hX⟩
  rw [hX]
  obtain ⟨f, rfl⟩ : ∃ f', f = f' + 1 := ⟨f - 1, by omega⟩
  obtain ⟨hBn, hBs⟩ := hB
  apply Tells.assoc
  apply Tells.seq (piece (fd_r7 O out.length g tl htl h) _ rfl)
  by_cases h4 : 4 ≤ s.rest.length
  · rw [show decide (4 ≤ s.rest.length) = true from decide_eq_true h4]
    apply Tells.seq (fr' := fdFr O out.length g [(32, .bool true)]) (H' := H)
    · exact Run.cond (d := true) rfl ⟨0, rfl⟩
    refine Tells.blk ?_ (by
      rintro o (⟨h, _⟩ | ⟨_, ⟨h, _⟩ | ⟨h, _⟩⟩)
      · rw [h]; simp
      · rw [h]; simp
      · rw [h]; simp)
    obtain ⟨H1, hev, h1, hlen1, hk1⟩ := ck_ev h h4 (by omega) (by omega) hBn
    have hout1 := hoff.keep hout hk1
    apply Tells.seq (piece (fd_r8 O out.length g _ _ hev) _ rfl)
    apply Tells.assoc
    apply Tells.seq (piece (fd_r9 O out.length g (ckN s) (ckE s)) _ rfl)
    by_cases he : ckE s = 0
    · have hn : ckN s = leV (s.rest.take 3) := by unfold ckN; rw [if_pos he]
      have hlv : leV (s.rest.take 3) < 16777216 := by
        have := leV_lt (s.rest.take 3)
        rw [List.length_take, Nat.min_eq_left (by omega)] at this
        simpa using this
      rw [hn, he]
      obtain ⟨n, hnn⟩ : ∃ n, n = leV (s.rest.take 3) := ⟨_, rfl⟩
      rw [← hnn] at hlv ⊢
      apply Tells.seq (fr' := fdFr O out.length g [(7, .int .i64 (n : Nat)), (8, .int .i64 0), (39, .bool false)]) (H' := H1)
      · exact Run.cond (d := false) rfl ⟨0, rfl⟩
      apply Tells.assoc
      apply Tells.seq (piece (fd_r12 O out.length g n h1 (by omega)) _ rfl)
      by_cases hsh : s.rest.length < 4 + n
      · rw [show decide (s.rest.length < 4 + n) = true from decide_eq_true hsh]
        have hR : fdL (f + 1) s out = (s, out, 0) := by
          rw [fdL, if_neg (by omega), if_neg (by simpa using he), ← hnn, if_pos hsh]
        rw [hR]
        refine Tells.of (o := ⟨.exit 1, fdFr O out.length g [(7, .int .i64 (n : Nat)), (53, .bool true)], H1⟩) (Run.seq_out (Run.cond (d := true) rfl ⟨0, rfl⟩) (by simp)) (.inr ⟨by simp, .inl ⟨rfl, O, g, a, oc, _, rfl, .inr ⟨_, rfl⟩, rfl, h1, hout1, hoff⟩⟩)
      rw [show decide (s.rest.length < 4 + n) = false from decide_eq_false hsh]
      apply Tells.seq (fr' := fdFr O out.length g [(7, .int .i64 (n : Nat)), (53, .bool false)]) (H' := H1)
      · exact Run.cond (d := false) rfl ⟨0, rfl⟩
      apply Tells.assoc
      apply Tells.seq (piece (fd_r13 O out.length g n h1) _ rfl)
      obtain ⟨H2, tl2, htl2, h2, hout2, hr2⟩ : ∃ H2 tl2, (tl2 = [] ∨ tl2 = [(58, .bool false)]) ∧ RdI 3 H2 (fdS1 s) a oc ∧ PkR 3 H2 O out.length g out ∧ ∀ cd14, ((Try.f18.body).bind (codeAt [1, 1, 1, 1, 0, 0, 0, 1, 0, 1, 1, 1, 0, 1, 0])) = some cd14 → Run X (evT X) 18 1 (.cond (.tmp 58) cd14 .skip) (fdFr O out.length g [(7, .int .i64 (n : Nat)), (58, .bool (!s.wi))]) H1 ⟨.normal, fdFr O out.length g ((7, .int .i64 (n : Nat)) :: tl2), H2⟩ := by
        cases hw : s.wi with
        | true =>
          have e1 : fdS1 s = s := by unfold fdS1; rw [if_pos hw]
          refine ⟨H1, [(58, .bool false)], .inr rfl, by rw [e1]; exact h1, hout1, fun cd14 e14 => Run.cond (d := false) rfl ⟨0, rfl⟩⟩
        | false =>
          have e1 : fdS1 s = { s with wi := true, sq := s.nx } := by unfold fdS1; rw [if_neg (by simp [hw])]
          obtain ⟨vr, vb, τ, k0, hb⟩ := h1.box (s' := { s with wi := true, sq := s.nx }) rfl rfl
          refine ⟨_, [], .inl rfl, by rw [e1]; exact hb, hoff.upd0 hout1, fun cd14 e14 => Run.cond (d := true) rfl (piece (fd_r14 O out.length g n k0) _ e14)⟩
      apply Tells.seq (hr2 _ rfl)
      obtain ⟨H3, c, h3, hout3, hoff3, hlen3, hr3⟩ := fd_take O out.length g n tl2 htl2 out h2 hout2 hoff (by rw [fdS1_rest]; omega) (by rw [fdS1_rest]; omega) (by rw [fdS1_body]; omega) (by rw [fdS1_nx]; exact hBn) (fdS1_wi s)
      rw [fdS2_eq] at h3
      refine hr3 _ _ _ rfl rfl rfl _ _ ?_
      apply Tells.seq (piece (fd_r18 O out.length g n h3) _ rfl)
      have hm2 : (fdS2 s n).m = s.m := fdS1_m s
      rw [hm2]
      have hb2 : (fdS2 s n).body = s.body ++ (s.rest.drop 4).take n := rfl
      have hrr : (fdS2 s n).rest = s.rest.drop (4 + n) := rfl
      have hrl : (fdS2 s n).rest.length = s.rest.length - (4 + n) := by rw [hrr, List.length_drop]
      have hbl : (fdS2 s n).body.length = s.body.length + n := by rw [hb2, List.length_append, List.length_take, List.length_drop]; omega
      have hnx2 : (fdS2 s n).nx < 256 := Nat.mod_lt _ (by omega)
      by_cases hm : n < s.m
      · rw [show decide (n < s.m) = true from decide_eq_true hm]
        obtain ⟨H4, h4, hout4, hoff4, hlen4, hr4⟩ := fd_tell O out.length g c out h3 hout3 hoff3 (by omega)
        have hR : fdL (f + 1) s out = fdL f { fdS2 s n with body := [], wi := false } (out ++ [⟨(fdS2 s n).sq, (fdS2 s n).nx, (fdS2 s n).body⟩]) := by
          rw [fdL, if_neg (by omega), if_neg (by simpa using he), ← hnn, if_neg hsh, if_pos hm]
        rw [hR]
        have hol : (out ++ [(⟨(fdS2 s n).sq, (fdS2 s n).nx, (fdS2 s n).body⟩ : Pk)]).length = out.length + 1 := by simp
        refine Tells.of (Run.cond (d := true) rfl (hr4 _ _ rfl rfl)) (.inl ⟨rfl, (fdS2 s n).rest.length, by rw [hrl]; omega, { fdS2 s n with body := [], wi := false }, O, g + 1, a, none, _, f, [], rfl, by rw [hol], .inl rfl, h4, by rw [hol]; exact hout4, hoff4, ⟨hnx2, ?_⟩, ?_, rfl⟩)
        · rw [hol]
          simp only [List.length_nil]
          rw [hrl]; omega
        · show (fdS2 s n).rest.length < f
          rw [hrl]; omega
      · rw [show decide (n < s.m) = false from decide_eq_false hm]
        have hR : fdL (f + 1) s out = fdL f (fdS2 s n) out := by
          rw [fdL, if_neg (by omega), if_neg (by simpa using he), ← hnn, if_neg hsh, if_neg hm]
        rw [hR]
        refine Tells.of (o := ⟨.normal, fdFr O out.length g [(106, .bool false)], H3⟩) (Run.cond (d := false) rfl ⟨0, rfl⟩) (.inl ⟨rfl, (fdS2 s n).rest.length, by rw [hrl]; omega, fdS2 s n, O, g, a, some c, out, f, _, rfl, rfl, .inr rfl, h3, hout3, hoff3, ⟨hnx2, by rw [hrl, hbl]; omega⟩, by rw [hrl]; omega, rfl⟩)
    · have hR : fdL (f + 1) s out = ({ s with st := ckE s }, out, ckE s) := by
        rw [fdL, if_neg (by omega), if_pos (by simpa using he)]
      rw [hR]
      rw [show (ckE s != 0) = true by simpa using he]
      obtain ⟨vr, vb, τ, k0, hb⟩ := h1.box (s' := { s with st := ckE s }) rfl rfl
      have r10 := fd_r10 (s := s) O out.length g (ckE s) vr vb τ [] (.int .i64 (ckN s : Nat)) k0
      generalize hHU : upd H1 0 (some (rdBx { s with st := ckE s } vr vb τ)) = HU at *
      have houtU : PkR 3 HU O out.length g out := by rw [← hHU]; exact hoff.upd0 hout1
      refine Tells.of (o := ⟨.ret, [(4, .sl O 0 out.length g), (5, .int .i64 (ckE s))], HU⟩) (Run.seq_out (Run.cond (d := true) rfl ?_) (by simp)) (.inr ⟨by simp, .inr ⟨rfl, rfl, O, g, a, oc, rfl, rfl, hb, houtU, hoff⟩⟩)
      refine Run.seq (piece r10 _ rfl) ⟨0, ?_⟩
      generalize ckE s = e at *
      simp (maxSteps := 2000000) -implicitDefEqProofs [-getElem?_pos, List.getElem?_cons_zero, List.getElem?_cons_succ, go_sem, eqV, plen, loadV, storeV, assignV]
  · rw [show decide (4 ≤ s.rest.length) = false from decide_eq_false h4]
    have hR : fdL (f + 1) s out = (s, out, 0) := by rw [fdL, if_pos (by omega)]
    rw [hR]
    refine Tells.of (o := ⟨.exit 1, fdFr O out.length g [(32, .bool false)], H⟩) (Run.seq_out (Run.cond (d := false) rfl ⟨0, rfl⟩) (by simp)) (.inr ⟨by simp, .inl ⟨rfl, O, g, a, oc, _, rfl, .inl rfl, rfl, h, hout, hoff⟩⟩)

end Go.Proofs.Ytconnpileacfeaa

/- Walks: a new reader fed. -/
namespace Go.Proofs.Ytconnpileacfeaa
open Go.AM
set_option linter.unusedSimpArgs false
set_option linter.unusedVariables false

section
variable {s : Rd} {m : Nat}

set_option maxRecDepth 100000 in
/-- a reader that there is -/
theorem none_code (vr vb : AV) (E : AM.Heap) (τ : Nat) (h0 : E[0]? = some (some (rdBx s vr vb τ))) (hm : 0 < s.m) : ∃ code, Try.f28.body = some code ∧
    Run X (evT X) 28 m code [(0, .ptr 0 0 0 0)] E ⟨.ret, [(2, .bool false)], E⟩ := by
  refine ⟨_, rfl, 0, ?_⟩
  have h1 : ((s.m : Int) == 0) = false := by simp; omega
  have h2 : s.m ≠ 0 := by omega
  simp (maxSteps := 2000000) -implicitDefEqProofs [-getElem?_pos, List.getElem?_cons_zero, List.getElem?_cons_succ, go_sem, eqV, plen, loadV, storeV, h0, rdBx, Rd.pay, h1, h2, assignV, isNil, nilFor]

end

theorem none_ev {H : AM.Heap} {s : Rd} (h0 : H[0]? = some (some (rdBx s (.ro 0 .pn 3) (.ro 0 .pn 3) 3))) (hm : 0 < s.m) :
    evT X 28 [.ptr 0 0 0 0] H = some (.bool false, H) := by
  have hπ : reach H reachFuel [0] [] = [0] := reach_box h0 (by simp [rdBx, Rd.pay, ids, idsL])
  have hl0 : live H 0 0 = some (rdBx s (.ro 0 .pn 3) (.ro 0 .pn 3) 3) := by simp [live, h0, rdBx]
  have hin0 : intoN H [0] 0 0 = some (0, 0) := by simp [intoN, hl0, idxOf]
  have hat0 : obAt H 0 = some (rdBx s (.ro 0 .pn 3) (.ro 0 .pn 3) 3) := by simp [obAt, h0]
  have hent : ([0].map fun o => (obAt H o).map (renObj (intoN H [0]) (fun _ => 2) 0)) = [some (rdBx s (.ro 0 .pn 2) (.ro 0 .pn 2) 2)] := by
    simp [hat0, renObj, rdBx, Rd.pay, ren, renL]
  generalize hE : [some (rdBx s (.ro 0 .pn 2) (.ro 0 .pn 2) 2)] = E at *
  have hE0 : E[0]? = some (some (rdBx s (.ro 0 .pn 2) (.ro 0 .pn 2) 2)) := by rw [← hE]; rfl
  obtain ⟨code, hcode, hrun⟩ := none_code (s := s) (m := 1) (.ro 0 .pn 2) (.ro 0 .pn 2) E 2 hE0 hm
  have hoE0 : obAt E 0 = some (rdBx s (.ro 0 .pn 2) (.ro 0 .pn 2) 2) := by simp [obAt, hE0]
  have hEv := Ev1.grp (C := X) (f := 28) (H := H) (o := 0) (n := 2) (t := 3) (π := [0]) (new := []) (xs := []) (ys := []) (lents := []) (l := [.bool false]) (evT_below X) Try.func28 hcode rfl hπ hin0 (by rfl) rfl rfl rfl (by simp [gtag])
    (by simp only [List.map_cons, List.map_nil, hat0, tagsObjs, tagsOb, rdBx, tagsRd]; simp [tags, joinTags, joinTag])
    (by rw [hent, par28]; exact hrun) (.inr rfl) rfl
    (by
      have : reach E reachFuel [0] [] = [0] := reach_box hE0 (by simp [rdBx, Rd.pay, ids, idsL])
      show (reach E reachFuel ([0] ++ ids (resultV _)) []).filter _ = []
      rw [show ids (resultV [AV.bool false]) = [] by simp [resultV, noTups, ids, idsL], List.append_nil, this]
      rfl)
    (by simp [resultV, noTups, tags, tagsL])
    (by
      intro k hk ob hob
      rcases hk with hk | hk
      · simp only [List.length_cons, List.length_nil] at hk
        have : k = 0 := by omega
        subst this
        rw [hoE0] at hob; obtain rfl := Option.some.inj hob
        exact ⟨⟨by simp [rdBx, Rd.pay, tags, tagsL], .inr rfl⟩, by simp [rdBx, Rd.pay]⟩
      · cases hk)
  have hbk : bk 2 3 2 = 3 := by simp [bk]
  have hg0 : genBack H [0] 0 0 = 0 := by simp [genBack, hat0, rdBx]
  have hp : putBack (backN H [0] [] E) (bk 2 3) H [0] E 0 [0] H = H := by
    simp only [putBack, hoE0, Option.map_some, renObj, rdBx, Rd.pay, ren, renL, hbk, hg0]
    apply List.ext_getElem?
    intro j
    by_cases hj : j = 0
    · subst hj
      rw [h0]
      unfold upd
      rw [List.getElem?_set_self (at_lt h0)]
      simp [rdBx, Rd.pay]
    · unfold upd
      rw [List.getElem?_set_ne (by omega)]
  have := evT_eq hEv
  rw [hp] at this
  simpa [resultV, noTups, ren, renL] using this

section
variable {s : Rd} (c : Nat) (b : List UInt8)

set_option maxRecDepth 100000 in
set_option maxHeartbeats 4000000 in
/-- a new reader fed -/
theorem feed_code (hs : s.rest = [] ∧ s.body = [] ∧ s.st = 0) (hm : 0 < s.m) (hnx : s.nx < 256) (hc : c = 0 → b = []) (hb : b.length ≤ 900000) : ∃ code, Try.f18.body = some code ∧
    Tells (Rets (fdQ (fdL (b.length + 1) { s with rest := b } []))) X (evT X) 18 1 code [(0, .ptr 0 0 0 0), (1, .ro c (.pb b) 2)] [some (rdBx s (.ro 0 .pn 3) (.ro 0 .pn 3) 3)] := by
  refine ⟨_, rfl, ?_⟩
  obtain ⟨hs1, hs2, hs3⟩ := hs
  have hn := none_ev (H := [some (rdBx s (.ro 0 .pn 3) (.ro 0 .pn 3) 3), some nilK]) (s := s) rfl hm
  apply Tells.seq (fr' := [(0, .ptr 0 0 0 0), (1, .ro c (.pb b) 2)]) (H' := [some (rdBx s (.ro 0 .pn 3) (.ro 0 .pn 3) 3), some nilK])
  · (refine ⟨0, ?_⟩; simp (maxSteps := 2000000) -implicitDefEqProofs [-getElem?_pos, List.getElem?_cons_zero, List.getElem?_cons_succ, go_sem, eqV, plen, loadV, storeV, assignV, emK])
  apply Tells.seq (fr' := [(0, .ptr 0 0 0 0), (1, .ro c (.pb b) 2), (12, .bool false)]) (H' := [some (rdBx s (.ro 0 .pn 3) (.ro 0 .pn 3) 3), some nilK])
  · refine ⟨0, ?_⟩
    simp only [rdBx, Rd.pay, hs3] at hn ⊢
    simp (maxSteps := 2000000) -implicitDefEqProofs [-getElem?_pos, List.getElem?_cons_zero, List.getElem?_cons_succ, go_sem, eqV, plen, loadV, storeV, hn]
  have hA : appendV X [some (rdBx s (.ro 0 .pn 3) (.ro 0 .pn 3) 3), some nilK] 22 (.ro 0 .pn 3) (.ro c (.pb b) 2) = some (.sl 2 0 b.length 0, [some (rdBx s (.ro 0 .pn 3) (.ro 0 .pn 3) 3), some nilK, some ⟨.pb b, 0, .none, 0, true, false, 0⟩]) := by
    have hroom : roomOk X 5 b.length = true := by simp [roomOk]; omega
    have hsrc : srcV [some (rdBx s (.ro 0 .pn 3) (.ro 0 .pn 3) 3), some nilK] (.ro c (.pb b) 2) = some (.pb b, 0) := by simp [srcV, payB, ptag]
    simp only [appendV, und22, size5, zok5, hsrc]
    simp [payB, plen, hroom, papp, emptyRow, pesz]
  apply Tells.seq (fr' := [(0, .ptr 0 0 0 0)]) (H' := [some (rdBx s (.sl 2 0 b.length 0) (.ro 0 .pn 3) 3), some nilK, some ⟨.pb b, 0, .none, 0, true, false, 0⟩])
  · simp only [rdBx, Rd.pay] at hA ⊢
    (refine ⟨0, ?_⟩; simp (maxSteps := 2000000) -implicitDefEqProofs [-getElem?_pos, List.getElem?_cons_zero, List.getElem?_cons_succ, go_sem, eqV, plen, loadV, storeV, hA])
  apply Tells.seq (fr' := fdFr 3 ([] : List Pk).length 0 []) (H' := [some (rdBx s (.sl 2 0 b.length 0) (.ro 0 .pn 3) 3), some nilK, some ⟨.pb b, 0, .none, 0, true, false, 0⟩, some nilK])
  · unfold fdFr
    (refine ⟨0, ?_⟩; simp (maxSteps := 2000000) -implicitDefEqProofs [-getElem?_pos, List.getElem?_cons_zero, List.getElem?_cons_succ, go_sem, eqV, plen, loadV, storeV, assignV, emK])
  apply Tells.or (P := fdP (fdL (b.length + 1) { s with rest := b } []))
  · refine (piece (fd_loop (H0 := [some (rdBx s (.sl 2 0 b.length 0) (.ro 0 .pn 3) 3), some nilK, some ⟨.pb b, 0, .none, 0, true, false, 0⟩, some nilK]) { s with rest := b } 2 3 0 none [] (b.length + 1) ⟨⟨_, _, 3, .inr rfl, rfl, ⟨0, 0, 0, _, b, .inl rfl, rfl, rfl, ⟨rfl, rfl, rfl, rfl, rfl⟩, rfl, by omega, by omega⟩, 3, .inr rfl, rfl, hs2⟩, by omega⟩ ⟨[], nilK, 0, .inl rfl, trivial, rfl, rfl, ⟨rfl, rfl, rfl, rfl, rfl⟩⟩ ⟨by omega, by omega, fun c hc => by cases hc⟩ ⟨hnx, by simp [hs2]; omega⟩ (by simp)) _ rfl).mono ?_
    rintro o (h | ⟨h1, h2⟩)
    · exact .inl h
    · exact .inr ⟨by rw [h2.1]; simp, h2.1, h2.2⟩
  rintro fr H ⟨O, g, a, oc, tl, rfl, htl, he, h1, h2, h3⟩
  refine Tells.of (o := ⟨.ret, [(4, .sl O 0 (fdL (b.length + 1) { s with rest := b } []).2.1.length g), (5, .int .i64 0)], H⟩) ⟨0, ?_⟩ ⟨rfl, O, g, a, oc, rfl, by rw [he]; rfl, h1, h2, h3⟩
  generalize (fdL (b.length + 1) { s with rest := b } []).2.1.length = N
  unfold fdFr
  rcases htl with rfl | ⟨v, rfl⟩
  · simp (maxSteps := 2000000) -implicitDefEqProofs [-getElem?_pos, List.getElem?_cons_zero, List.getElem?_cons_succ, go_sem, eqV, plen, loadV, storeV, assignV]
  · simp (maxSteps := 2000000) -implicitDefEqProofs [-getElem?_pos, List.getElem?_cons_zero, List.getElem?_cons_succ, go_sem, eqV, plen, loadV, storeV, assignV]

end

end Go.Proofs.Ytconnpileacfeaa

/- Events: a new reader fed. -/
namespace Go.Proofs.Ytconnpileacfeaa
open Go.AM
set_option linter.unusedSimpArgs false
set_option linter.unusedVariables false

theorem pkL_ids {t : Nat} : ∀ {l : List Pk} {m : List AV}, PkL t l m → idsL m = []
  | [], [], _ => rfl
  | p :: r, v :: l, h => by
    obtain ⟨⟨cb, τ, _, _, _, rfl⟩, h⟩ := h
    simp [idsL, ids, pkL_ids h]
  | [], _ :: _, h => h.elim
  | _ :: _, [], h => h.elim
theorem pkL_tags {t : Nat} : ∀ {l : List Pk} {m : List AV}, PkL t l m → ∀ k ∈ tagsL m, k = 0 ∨ k = t
  | [], [], _, k, hk => by simp [tagsL] at hk
  | p :: r, v :: l, h, k, hk => by
    obtain ⟨⟨cb, τ, hτ, _, _, rfl⟩, h⟩ := h
    simp only [tagsL, tags, List.append_nil, List.nil_append, List.mem_append, List.mem_cons, List.not_mem_nil, or_false] at hk
    rcases hk with hk | hk
    · rw [hk]; exact hτ
    · exact pkL_tags h k hk
  | [], _ :: _, h, _, _ => h.elim
  | _ :: _, [], h, _, _ => h.elim
theorem pkL_ren {t t2 : Nat} {ρ : Nat → Nat → Option (Nat × Nat)} {τ : Nat → Nat} (h0 : τ 0 = 0 ∨ τ 0 = t2) (ht : τ t = 0 ∨ τ t = t2) : ∀ {l : List Pk} {m : List AV}, PkL t l m → PkL t2 l (renL ρ τ m)
  | [], [], _ => trivial
  | p :: r, v :: l, h => by
    obtain ⟨⟨cb, τ1, hτ, h1, h2, rfl⟩, h⟩ := h
    refine ⟨⟨cb, τ τ1, ?_, h1, h2, ?_⟩, pkL_ren h0 ht h⟩
    · rcases hτ with rfl | rfl
      · exact h0
      · exact ht
    · simp [ren, renL]
  | [], _ :: _, h => h.elim
  | _ :: _, [], h => h.elim

theorem reachF1 {E : AM.Heap} {O a : Nat} {ob oa oo : AM.Obj} (h0 : E[0]? = some (some ob)) (hi : ob.ids = true) (hid : ids ob.p = [a]) (ha : E[a]? = some (some oa)) (hai : oa.ids = false) (hO : E[O]? = some (some oo)) (hOi : oo.ids = false) (a0 : 0 < a) (O0 : 0 < O) (Oa : O ≠ a) : reach E reachFuel [0, O] [] = [0, a, O] := by
  show reach E (99995 + 1 + 1 + 1 + 1 + 1) [0, O] [] = [0, a, O]
  have e1 : a ≠ 0 := by omega
  have e2 : O ≠ 0 := by omega
  simp [reach, h0, hi, hid, ha, hai, hO, hOi, e1, e2, Oa]
theorem reachF2 {E : AM.Heap} {O a c : Nat} {ob oa oc oo : AM.Obj} (h0 : E[0]? = some (some ob)) (hi : ob.ids = true) (hid : ids ob.p = [a, c]) (ha : E[a]? = some (some oa)) (hai : oa.ids = false) (hc : E[c]? = some (some oc)) (hci : oc.ids = false) (hO : E[O]? = some (some oo)) (hOi : oo.ids = false) (a0 : 0 < a) (c0 : 0 < c) (ca : c ≠ a) (O0 : 0 < O) (Oa : O ≠ a) (Oc : c ≠ O) : reach E reachFuel [0, O] [] = [0, a, c, O] := by
  show reach E (99994 + 1 + 1 + 1 + 1 + 1 + 1) [0, O] [] = [0, a, c, O]
  have e1 : a ≠ 0 := by omega
  have e2 : O ≠ 0 := by omega
  have e3 : c ≠ 0 := by omega
  simp [reach, h0, hi, hid, ha, hai, hc, hci, hO, hOi, e1, e2, e3, ca, Oa, Ne.symm Oc]

theorem SlO.ob {t : Nat} {H : AM.Heap} {a : Nat} {v : AV} {l : List UInt8} (h : SlO t H a v l) : ∃ ob L, H[a]? = some (some ob) ∧ ob.ids = false ∧ ob.p = .pb L ∧ (ob.tg = 0 ∨ ob.tg = t) ∧ ids v = [a] ∧ tags v = [] := by
  obtain ⟨off, g, τ, ob, L, hτ, rfl, ho, hw, _⟩ := h
  exact ⟨ob, L, ho, hw.ids, hw.p, by rw [hw.tg]; exact hτ, by simp [ids], by simp [tags]⟩

/-- what lies behind a reader, and payloads, can be brought back -/
def NewOk (E : AM.Heap) (O : Nat) : Prop := ∃ new, (reach E reachFuel [0, O] []).filter (fun o => decide (1 ≤ o)) = new ∧ (∃ i, ∀ k, idxOf new O k = some (k + i) ∧ new[i]? = some O) ∧ ∀ k, (k < 1 ∨ k ∈ new) → ∀ ob, obAt E k = some ob → okTags 3 ob ∧ ∀ l, ob.p ≠ .pm l
/-- payloads told, an error told -/
def rfQ (x : List Pk × Int) (fr : AM.Frame) (E : AM.Heap) : Prop := ∃ O g, getF fr 4 = .sl O 0 x.1.length g ∧ getF fr 5 = .int .i64 x.2 ∧ PkR 3 E O x.1.length g x.1 ∧ 0 < O ∧ NewOk E O

/-- what lies behind a reader that told payloads -/
theorem RdI.new {E : AM.Heap} {s : Rd} {a O N g : Nat} {oc : Option Nat} {out : List Pk} (h : RdI 3 E s a oc) (hout : PkR 3 E O N g out) (hoff : Off O a oc) :
    NewOk E O := by
  show ∃ new, (reach E reachFuel [0, O] []).filter (fun o => decide (1 ≤ o)) = new ∧ (∃ i, ∀ k, idxOf new O k = some (k + i) ∧ new[i]? = some O) ∧ ∀ k, (k < 1 ∨ k ∈ new) → ∀ ob, obAt E k = some ob → okTags 3 ob ∧ ∀ l, ob.p ≠ .pm l
  obtain ⟨⟨vr, vb, τ, hτ, h0, hr, hb⟩, a0⟩ := h
  obtain ⟨oa, L, ha, hai, hap, hat, hvi, hvt⟩ := hr.ob
  obtain ⟨l, oo, τo, hτo, hf, hN, ho, hw⟩ := hout
  obtain ⟨O0, Oa, Oc⟩ := hoff
  have okO : okTags 3 oo ∧ ∀ l, oo.p ≠ .pm l := ⟨⟨by rw [hw.p]; exact pkL_tags hf, by rw [hw.tg]; exact hτo⟩, by rw [hw.p]; simp⟩
  have oka : okTags 3 oa ∧ ∀ l, oa.p ≠ .pm l := ⟨⟨by rw [hap]; simp [tags], hat⟩, by rw [hap]; simp⟩
  cases oc with
  | none =>
    obtain ⟨τb, hτb, rfl, _⟩ := hb
    have hR := reachF1 (O := O) h0 rfl (by show ids (s.pay _ _) = _; rw [idsRd, hvi]; simp [ids]) ha hai ho hw.ids a0 O0 Oa
    refine ⟨[a, O], ?_, ⟨1, fun k => ⟨?_, rfl⟩⟩, ?_⟩
    · rw [hR]
      simp [show 1 ≤ a from a0, show 1 ≤ O from O0]
    · simp [idxOf, Ne.symm Oa]
    · intro k hk ob hob
      rcases hk with hk | hk
      · have : k = 0 := by omega
        subst this
        simp only [obAt, h0, Option.join_some, Option.some.injEq] at hob
        have hob : rdBx s vr (.ro 0 .pn τb) τ = ob := by simpa using hob
        subst hob
        exact ⟨⟨by show ∀ t ∈ tags (s.pay _ _), _; rw [tagsRd, hvt]; simp [tags]; exact hτb, hτ⟩, by simp [rdBx, Rd.pay]⟩
      · simp only [List.mem_cons, List.not_mem_nil, or_false] at hk
        rcases hk with rfl | rfl
        · have hob : oa = ob := by simpa [obAt, ha] using hob
          rw [← hob]; exact oka
        · have hob : oo = ob := by simpa [obAt, ho] using hob
          rw [← hob]; exact okO
  | some c =>
    obtain ⟨hbo, c0, ca⟩ := hb
    obtain ⟨ob2, L2, hc, hci, hcp, hct, hci2, hct2⟩ := hbo.ob
    have okc : okTags 3 ob2 ∧ ∀ l, ob2.p ≠ .pm l := ⟨⟨by rw [hcp]; simp [tags], hct⟩, by rw [hcp]; simp⟩
    have hcO := Oc c rfl
    have hR := reachF2 (O := O) h0 rfl (by show ids (s.pay _ _) = _; rw [idsRd, hvi, hci2]; rfl) ha hai hc hci ho hw.ids a0 c0 ca O0 Oa hcO
    refine ⟨[a, c, O], ?_, ⟨2, fun k => ⟨?_, rfl⟩⟩, ?_⟩
    · rw [hR]
      simp [show 1 ≤ a from a0, show 1 ≤ O from O0, show 1 ≤ c from c0]
    · simp [idxOf, Ne.symm Oa, hcO]
    · intro k hk ob hob
      rcases hk with hk | hk
      · have : k = 0 := by omega
        subst this
        have hob : rdBx s vr vb τ = ob := by simpa [obAt, h0] using hob
        subst hob
        exact ⟨⟨by show ∀ t ∈ tags (s.pay _ _), _; rw [tagsRd, hvt, hct2]; simp, hτ⟩, by simp [rdBx, Rd.pay]⟩
      · simp only [List.mem_cons, List.not_mem_nil, or_false] at hk
        rcases hk with rfl | rfl | rfl
        · have hob : oa = ob := by simpa [obAt, ha] using hob
          rw [← hob]; exact oka
        · have hob : ob2 = ob := by simpa [obAt, hc] using hob
          rw [← hob]; exact okc
        · have hob : oo = ob := by simpa [obAt, ho] using hob
          rw [← hob]; exact okO

/-- a reader emptied, behind it payloads -/
theorem emptyNew {E : AM.Heap} {s : Rd} {O N g τ : Nat} {out : List Pk} (hτ : τ = 0 ∨ τ = 3) (h0 : E[0]? = some (some (rdBx s (.ro 0 .pn 0) (.ro 0 .pn 0) τ))) (hout : PkR 3 E O N g out) (O0 : 0 < O) : NewOk E O := by
  obtain ⟨l, oo, τo, hτo, hf, hN, ho, hw⟩ := hout
  have hR : reach E reachFuel [0, O] [] = [0, O] := reach_box2 h0 (by simp [rdBx, Rd.pay, ids, idsL]) ho (by rw [hw.p]; show idsL l = []; exact pkL_ids hf) (by omega)
  refine ⟨[O], ?_, ⟨0, fun k => ⟨by simp [idxOf], rfl⟩⟩, ?_⟩
  · rw [hR]
    simp [show 1 ≤ O from O0]
  · intro k hk ob hob
    rcases hk with hk | hk
    · have : k = 0 := by omega
      subst this
      have hob : rdBx s (.ro 0 .pn 0) (.ro 0 .pn 0) τ = ob := by simpa [obAt, h0] using hob
      subst hob
      exact ⟨⟨by show ∀ t ∈ tags (s.pay _ _), _; rw [tagsRd]; simp [tags], hτ⟩, by simp [rdBx, Rd.pay]⟩
    · simp only [List.mem_cons, List.not_mem_nil, or_false] at hk
      subst hk
      have hob : oo = ob := by simpa [obAt, ho] using hob
      subst hob
      exact ⟨⟨by rw [hw.p]; exact pkL_tags hf, by rw [hw.tg]; exact hτo⟩, by rw [hw.p]; simp⟩

set_option maxHeartbeats 4000000 in
/-- a new reader fed, from outside -/
theorem fresh_ev {f : Nat} {fn : Func} {code : Code} {H : AM.Heap} {o c t : Nat} {b : List UInt8} {s : Rd} {x : List Pk × Int} (hF : X.P.funcs[f]? = some fn) (hcode : fn.body = some code) (hrw : X.rw f 0 = false)
    (hl : lendArgs X f H 1 [.ro c (.pb b) t] = some ([.ro c (.pb b) 2], [⟨[], [t]⟩]))
    (hpar : numbered 0 (coerce X [.ptr 0 0 0 0, .ro c (.pb b) 2] (paramsOf X f)) = [(0, .ptr 0 0 0 0), (1, .ro c (.pb b) 2)])
    (hres : ∀ fr H, resultsV X fr H fn.results.toList = some [getF fr 4, getF fr 5])
    (hrun : Tells (Rets (rfQ x)) X (evT X) f 1 code [(0, .ptr 0 0 0 0), (1, .ro c (.pb b) 2)] [some (rdBx s (.ro 0 .pn 3) (.ro 0 .pn 3) 3)])
    (ho : H[o]? = some (some (rdBx s (.ro 0 .pn 0) (.ro 0 .pn 0) 0))) :
    ∃ O H', evT X f [.ptr o 0 0 0, .ro c (.pb b) t] H = some (.tup [.sl O 0 x.1.length 0, .int .i64 x.2], H') ∧ PkR 0 H' O x.1.length 0 x.1 ∧ H.length ≤ O ∧ H.length ≤ H'.length ∧ ∀ j, j < H.length → j ≠ o → H'[j]? = H[j]? := by
  have hπ : reach H reachFuel [o] [] = [o] := reach_box ho (by simp [rdBx, Rd.pay, ids, idsL])
  have hl0 : live H o 0 = some (rdBx s (.ro 0 .pn 0) (.ro 0 .pn 0) 0) := by simp [live, ho, rdBx]
  have hin0 : intoN H [o] o 0 = some (0, 0) := by simp [intoN, hl0, idxOf]
  have hat0 : obAt H o = some (rdBx s (.ro 0 .pn 0) (.ro 0 .pn 0) 0) := by simp [obAt, ho]
  have hent : ([o].map fun o' => (obAt H o').map (renObj (intoN H [o]) (fun _ => 3) 0)) = [some (rdBx s (.ro 0 .pn 3) (.ro 0 .pn 3) 3)] := by
    simp [hat0, renObj, rdBx, Rd.pay, ren, renL]
  obtain ⟨⟨ex, fr, E⟩, ⟨he, O, g, q4, q5, hout, hoffO, new, hnew, ⟨i, hidx⟩, hu2⟩, hr⟩ := hrun
  simp only at he q4 q5 hout hnew hidx hu2
  subst he
  obtain ⟨l, oo, τo, hτo, hf, hN, hO, hw⟩ := hout
  have hEv := Ev1.grp (C := X) (f := f) (H := H) (o := o) (n := 3) (t := 0) (π := [o]) (new := new) (xs := [.ro c (.pb b) t]) (ys := [.ro c (.pb b) 2]) (lents := [⟨[], [t]⟩]) (l := [.sl O 0 x.1.length g, .int .i64 x.2]) (evT_below X) hF hcode hrw hπ hin0 hl (by simp [idsL, ids]) (by simp [disjoint]) rfl (by simp [gtag])
    (by simp only [List.map_cons, List.map_nil, hat0, tagsObjs, tagsOb, rdBx, tagsRd]; simp [tags, joinTags, joinTag])
    (by rw [hent, hpar]; exact hr) (.inr rfl) (by rw [hres, q4, q5])
    (by
      show (reach E reachFuel ([0] ++ ids (resultV _)) []).filter _ = new
      rw [show ids (resultV [AV.sl O 0 x.1.length g, .int .i64 x.2]) = [O] by simp [resultV, noTups, ids, idsL]]
      exact hnew)
    (by simp [resultV, noTups, tags, tagsL])
    (by
      intro k hk ob hob
      exact hu2 k (by simpa using hk) ob hob)
  have hlO : live E O g = some oo := by simp [live, hO, hw.g]
  have hbO : backN H [o] new E O g = some (H.length + i, 0) := by
    unfold backN; rw [hlO]
    simp only [List.length_cons, List.length_nil]
    rw [if_neg (by omega), (hidx H.length).1]; rfl
  have hobO : obAt E O = some oo := by simp [obAt, hO]
  refine ⟨H.length + i, _, evT_eq (by simpa [resultV, noTups, ren, renL, hbO] using hEv), ?_, by omega, by rw [List.length_append, putBack_length]; omega, ?_⟩
  · refine ⟨renL (backN H [o] new E) (bk 3 0) l, renObj (backN H [o] new E) (bk 3 0) 0 oo, 0, .inl rfl, pkL_ren (.inl (by simp [bk])) (.inl (by simp [bk])) hf, rfl, ?_, ?_⟩
    · rw [List.getElem?_append_right (by rw [putBack_length]; omega), putBack_length, Nat.add_sub_cancel_left, List.getElem?_map, (hidx 0).2]
      simp [hobO]
    · exact ⟨by simp [renObj, hw.p, ren], rfl, hw.row, hw.ids, by simp [renObj, bk]⟩
  · intro j hj hjo
    rw [List.getElem?_append_left (by rw [putBack_length]; exact hj), putBack_ne _ _ _ (by simp [hjo])]

theorem feed_ev {H : AM.Heap} {o c t : Nat} {b : List UInt8} {s : Rd} (hs : s.rest = [] ∧ s.body = [] ∧ s.st = 0) (hm : 0 < s.m) (hnx : s.nx < 256) (hc : c = 0 → b = []) (hb : b.length ≤ 900000) (ho : H[o]? = some (some (rdBx s (.ro 0 .pn 0) (.ro 0 .pn 0) 0))) :
    ∃ O H', evT X 18 [.ptr o 0 0 0, .ro c (.pb b) t] H = some (.tup [.sl O 0 (fdL (b.length + 1) { s with rest := b } []).2.1.length 0, .int .i64 (fdL (b.length + 1) { s with rest := b } []).2.2], H') ∧ PkR 0 H' O (fdL (b.length + 1) { s with rest := b } []).2.1.length 0 (fdL (b.length + 1) { s with rest := b } []).2.1 ∧ H.length ≤ O ∧ H.length ≤ H'.length ∧ ∀ j, j < H.length → j ≠ o → H'[j]? = H[j]? := by
  obtain ⟨code, hcode, hr⟩ := feed_code c b hs hm hnx hc hb
  exact fresh_ev Try.func18 hcode rfl rfl (by rw [par18]; rfl) (fun _ _ => rfl) (hr.mono (by
    rintro o ⟨he, O, g, a, oc, q4, q5, hI, hout, hoff⟩
    exact ⟨he, O, g, q4, q5, hout, hoff.1, hI.new hout hoff⟩)) ho

end Go.Proofs.Ytconnpileacfeaa

/- Walks: the document's reader: what is wrong with a head. -/
namespace Go.Proofs.Ytconnpileacfeaa
open Go.AM
set_option linter.unusedSimpArgs false
set_option linter.unusedVariables false

theorem bitsN {v : Nat} (h : v < 9223372036854775808) : (AM.bits .i64 (v : Int)).toNat = v := by
  unfold AM.bits
  simp [IntKind.bits]
  omega
theorem orN {x y i : Nat} (hx : x < 2 ^ i) : x ||| (y * 2 ^ i) = x + y * 2 ^ i := by
  rw [← Nat.shiftLeft_eq, Nat.or_comm, ← Nat.shiftLeft_add_eq_or_of_lt hx, Nat.add_comm]

theorem orB2 {a b : Nat} (ha : a < 9223372036854775808) (hb : b < 9223372036854775808) : (AM.bits .i64 (a : Int) ||| AM.bits .i64 (b : Int)).toNat = a ||| b := by
  rw [show (AM.bits .i64 (a : Int) ||| AM.bits .i64 (b : Int)).toNat = (AM.bits .i64 (a : Int)).toNat ||| (AM.bits .i64 (b : Int)).toNat by simp]
  rw [bitsN ha, bitsN hb]
/-- three bytes, as the document puts them together -/
structure Le3 (b : List UInt8) (y0 y1 y2 : UInt8) (z1 z2 z3 : Nat) : Prop where
  h0 : b[0]? = some y0
  h1 : b[1]? = some y1
  h2 : b[2]? = some y2
  w0 : IntKind.i64.wrap (y0.toNat : Int) = (y0.toNat : Int)
  w1 : IntKind.i64.wrap (y1.toNat : Int) = (y1.toNat : Int)
  w2 : IntKind.i64.wrap (y2.toNat : Int) = (y2.toNat : Int)
  s1 : IntKind.i64.wrap ((y1.toNat : Int) * 256) = (z1 : Int)
  s2 : IntKind.i64.wrap ((y2.toNat : Int) * 65536) = (z3 : Int)
  b0 : (AM.bits .i64 (y0.toNat : Int)).toNat = y0.toNat
  b1 : (AM.bits .i64 (z1 : Int)).toNat = z1
  b2 : (AM.bits .i64 (z2 : Int)).toNat = z2
  b3 : (AM.bits .i64 (z3 : Int)).toNat = z3
  o1 : IntKind.i64.wrap ((AM.bits .i64 (y0.toNat : Int) ||| AM.bits .i64 (z1 : Int)).toNat : Nat) = (z2 : Int)
  o2 : IntKind.i64.wrap ((AM.bits .i64 (z2 : Int) ||| AM.bits .i64 (z3 : Int)).toNat : Nat) = ((leV (b.take 3) : Nat) : Int)
theorem le3 {b : List UInt8} (h : 3 ≤ b.length) : ∃ y0 y1 y2 z1 z2 z3, Le3 b y0 y1 y2 z1 z2 z3 := by
  obtain ⟨y0, y1, y2, r, rfl⟩ : ∃ y0 y1 y2 r, b = y0 :: y1 :: y2 :: r := by
    match b, h with
    | y0 :: y1 :: y2 :: r, _ => exact ⟨y0, y1, y2, r, rfl⟩
  have t0 := y0.toNat_lt
  have t1 := y1.toNat_lt
  have t2 := y2.toNat_lt
  refine ⟨y0, y1, y2, y1.toNat * 2 ^ 8, y0.toNat + y1.toNat * 2 ^ 8, y2.toNat * 2 ^ 16, rfl, rfl, rfl, wrap_i64 (by omega) (by omega), wrap_i64 (by omega) (by omega), wrap_i64 (by omega) (by omega), ?_, ?_, bitsN (by omega), bitsN (by omega), bitsN (by omega), bitsN (by omega), ?_, ?_⟩
  · rw [wrap_i64 (by omega) (by omega)]; simp
  · rw [wrap_i64 (by omega) (by omega)]; simp
  · rw [orB2 (by omega) (by omega), orN (by omega), wrap_i64 (by omega) (by omega)]
  · rw [orB2 (by omega) (by omega), orN (by omega), wrap_i64 (by omega) (by omega)]
    simp only [List.take_succ_cons, List.take_zero, leV]
    omega

section
variable {s : Rd}

set_option maxRecDepth 100000 in
set_option maxHeartbeats 4000000 in
/-- the head looked at, within -/
theorem wr_code (vr vb : AV) (E : AM.Heap) (m : Nat) (h0 : E[0]? = some (some (rdBx s vr vb 2))) (hr : SlO 2 E 1 vr s.rest) (hb : (∃ τ, vb = .ro 0 .pn τ ∧ s.body = []) ∨ SlO 2 E 2 vb s.body) (h4 : 4 ≤ s.rest.length) (hrl : s.rest.length ≤ 1000000) (hbl : s.body.length ≤ 1000000000) (hnx : s.nx < 256) :
    ∃ code, Try.f32.body = some code ∧
    Run X (evT X) 32 m code [(0, .ptr 0 0 0 0)] E ⟨.ret, [(2, .int .i64 (ckE s))], E⟩ := by
  refine ⟨_, rfl, ?_⟩
  obtain ⟨y0, y1, y2, z1, z2, z3, L3⟩ := le3 (b := s.rest) (by omega)
  have o2 := L3.o2
  have hlv : leV (s.rest.take 3) < 16777216 := by
    have := leV_lt (s.rest.take 3)
    rw [List.length_take, Nat.min_eq_left (by omega)] at this
    simpa using this
  have hE : ckE s = if s.m < leV (s.rest.take 3) then 5 else if (s.rest.getD 3 0).toNat ≠ s.nx then 6 else if s.lim < s.body.length + leV (s.rest.take 3) then 3 else 0 := rfl
  obtain ⟨y, hy⟩ : ∃ y, s.rest[3]? = some y := ⟨_, List.getElem?_eq_getElem (by omega)⟩
  rw [show s.rest.getD 3 0 = y by rw [List.getD, hy]; rfl] at hE
  generalize hx : leV (s.rest.take 3) = x at *
  have w64 : IntKind.i64.wrap (x : Int) = (x : Int) := wrap_i64 (by omega) (by omega)
  obtain ⟨off, g, τ, ob, L, hτ, rfl, ho, hw, hl, hle, hLb⟩ := hr
  have hyL : L[off + 3]? = some y := by rw [← hl, List.getElem?_drop] at hy; exact hy
  have hblen : ∀ n, (∃ τ, vb = .ro 0 .pn τ ∧ s.body = []) ∨ SlO 2 E 2 vb s.body → n = s.body.length → lenV X E 22 vb = some (n : Nat) := by
    rintro n (⟨τ, rfl, hb2⟩ | ⟨off, g, τ, ob, L, hτ, rfl, ho, hw, hl, hle, hLb⟩) rfl
    · rw [hb2]; simp [lenV, AM.plen]
    · simp [lenV, live, ho, hw.g]
  have hbL := hblen _ hb rfl
  apply Run.seq (fr' := [(0, .ptr 0 0 0 0)]) (H' := E)
  · (refine ⟨0, ?_⟩; simp (maxSteps := 2000000) -implicitDefEqProofs [-getElem?_pos, List.getElem?_cons_zero, List.getElem?_cons_succ, go_sem, eqV, plen, loadV, storeV, assignV])
  have hlen : s.rest.length = L.length - off := by rw [← hl, List.length_drop]
  have h3i : off + 3 < L.length := by omega
  have h3I : (3 : Int) < (s.rest.length : Int) := by omega
  have h3n : 3 < s.rest.length := by omega
  obtain ⟨p, gg, cap, zz, row, ids', tg⟩ := ob
  obtain ⟨q1, q2, q3, q4, q5⟩ := hw
  simp only at q1 q2 q3 q4 q5
  subst q1 q2 q3 q4 q5
  have h0L : L[off]? = some y0 := by have := L3.h0; rw [← hl, List.getElem?_drop] at this; exact this
  have h1L : L[off + 1]? = some y1 := by have := L3.h1; rw [← hl, List.getElem?_drop] at this; exact this
  have h2L : L[off + 2]? = some y2 := by have := L3.h2; rw [← hl, List.getElem?_drop] at this; exact this
  have h0i : off < L.length := by omega
  have h1i : off + 1 < L.length := by omega
  have h2i : off + 2 < L.length := by omega
  have h0I : (0 : Int) < (s.rest.length : Int) := by omega
  have h1I : (1 : Int) < (s.rest.length : Int) := by omega
  have h2I : (2 : Int) < (s.rest.length : Int) := by omega
  have h0n : 0 < s.rest.length := by omega
  have h1n : 1 < s.rest.length := by omega
  have h2n : 2 < s.rest.length := by omega
  apply Run.seq (fr' := [(0, .ptr 0 0 0 0), (3, .int .i64 (x : Nat))]) (H' := E)
  · have w0 := L3.w0
    have w1 := L3.w1
    have w2 := L3.w2
    have s1 := L3.s1
    have s2 := L3.s2
    have b0 := L3.b0
    have b1 := L3.b1
    have b2 := L3.b2
    have b3 := L3.b3
    have o1 := L3.o1
    have cc : IntKind.i64.wrap ((AM.bits .i64 (IntKind.i64.wrap ((AM.bits .i64 (y0.toNat : Int) ||| AM.bits .i64 (z1 : Int)).toNat : Nat)) ||| AM.bits .i64 (z3 : Int)).toNat : Nat) = (x : Int) := by rw [o1]; exact o2
    clear hE hx hblen hbL hb hl L3 hlen
    simp only [rdBx, Rd.pay] at h0
    generalize s.rest.length = N at *
    (refine ⟨0, ?_⟩; simp (maxSteps := 2000000) -implicitDefEqProofs [-getElem?_pos, List.getElem?_cons_zero, List.getElem?_cons_succ, go_sem, eqV, plen, loadV, storeV, h0, ho, h0L, h1L, h2L, h0i, h1i, h2i, h0I, h1I, h2I, h0n, h1n, h2n, w0, w1, w2, s1, s2, assignV])
    exact cc
  have wb : IntKind.i64.wrap ((s.body.length : Int) + (x : Int)) = ((s.body.length + x : Nat) : Int) := by rw [wrap_i64 (by omega) (by omega)]; omega
  by_cases c1 : s.m < x
  · have e5 : ckE s = 5 := by rw [hE, if_pos c1]
    rw [e5]
    have c1I : (s.m : Int) < (x : Int) := by omega
    refine ⟨0, ?_⟩
    simp (maxSteps := 2000000) -implicitDefEqProofs [-getElem?_pos, List.getElem?_cons_zero, List.getElem?_cons_succ, go_sem, eqV, plen, loadV, storeV, h0, rdBx, Rd.pay, c1, c1I, assignV]
  have c1I : ¬ (s.m : Int) < (x : Int) := by omega
  by_cases c2 : y.toNat ≠ s.nx
  · have e6 : ckE s = 6 := by rw [hE, if_neg c1, if_pos c2]
    rw [e6]
    have c2b : ((y.toNat : Int) != (s.nx : Int)) = true := by simp; omega
    refine ⟨0, ?_⟩
    simp (maxSteps := 2000000) -implicitDefEqProofs [-getElem?_pos, List.getElem?_cons_zero, List.getElem?_cons_succ, go_sem, eqV, plen, loadV, storeV, h0, ho, rdBx, Rd.pay, c1, c1I, h3i, h3I, h3n, hyL, c2b, assignV]
  have c2b : ((y.toNat : Int) != (s.nx : Int)) = false := by simp; omega
  by_cases c3 : s.lim < s.body.length + x
  · have e3 : ckE s = 3 := by rw [hE, if_neg c1, if_neg c2, if_pos c3]
    rw [e3]
    have c3I : (s.lim : Int) < ((s.body.length + x : Nat) : Int) := by omega
    clear hbL hblen
    rcases hb with ⟨τ, rfl, hb2⟩ | ⟨off2, g2, τ2, ob2, L2, hτ2, rfl, ho2, hw2, hl2, hle2, hLb2⟩
    · rw [hb2] at wb c3 c3I
      simp only [List.length_nil, Nat.zero_add, Int.natCast_zero, Int.zero_add] at wb c3 c3I
      refine ⟨0, ?_⟩
      simp (maxSteps := 2000000) -implicitDefEqProofs [-getElem?_pos, List.getElem?_cons_zero, List.getElem?_cons_succ, go_sem, eqV, plen, loadV, storeV, h0, ho, rdBx, Rd.pay, c1, c1I, h3i, h3I, h3n, hyL, c2b, wb, c3, c3I, assignV]
    · have g2 := hw2.g
      generalize s.body.length + x = bx at *
      refine ⟨0, ?_⟩
      simp (maxSteps := 2000000) -implicitDefEqProofs [-getElem?_pos, List.getElem?_cons_zero, List.getElem?_cons_succ, go_sem, eqV, plen, loadV, storeV, h0, ho, ho2, g2, rdBx, Rd.pay, c1, c1I, h3i, h3I, h3n, hyL, c2b, wb, c3, c3I, assignV]
  have c3I : ¬ (s.lim : Int) < ((s.body.length + x : Nat) : Int) := by omega
  have e0 : ckE s = 0 := by rw [hE, if_neg c1, if_neg c2, if_neg c3]
  rw [e0]
  clear hbL hblen
  rcases hb with ⟨τ, rfl, hb2⟩ | ⟨off2, g2, τ2, ob2, L2, hτ2, rfl, ho2, hw2, hl2, hle2, hLb2⟩
  · rw [hb2] at wb c3 c3I
    simp only [List.length_nil, Nat.zero_add, Int.natCast_zero, Int.zero_add] at wb c3 c3I
    refine ⟨0, ?_⟩
    simp (maxSteps := 2000000) -implicitDefEqProofs [-getElem?_pos, List.getElem?_cons_zero, List.getElem?_cons_succ, go_sem, eqV, plen, loadV, storeV, h0, ho, rdBx, Rd.pay, c1, c1I, h3i, h3I, h3n, hyL, c2b, wb, c3, c3I, assignV]
  · have g2 := hw2.g
    generalize s.body.length + x = bx at *
    refine ⟨0, ?_⟩
    simp (maxSteps := 2000000) -implicitDefEqProofs [-getElem?_pos, List.getElem?_cons_zero, List.getElem?_cons_succ, go_sem, eqV, plen, loadV, storeV, h0, ho, ho2, g2, rdBx, Rd.pay, c1, c1I, h3i, h3I, h3n, hyL, c2b, wb, c3, c3I, assignV]

end

end Go.Proofs.Ytconnpileacfeaa

/- Events: the document's reader: what is wrong. -/
namespace Go.Proofs.Ytconnpileacfeaa
open Go.AM
set_option linter.unusedSimpArgs false
set_option linter.unusedVariables false

section
variable {H : AM.Heap} {s : Rd} {a : Nat}

set_option maxRecDepth 100000 in
set_option maxHeartbeats 4000000 in
/-- the head looked at; no body -/
theorem wr_ev1 (h : RdI 3 H s a none) (h4 : 4 ≤ s.rest.length) (hrl : s.rest.length ≤ 1000000) (hnx : s.nx < 256) :
    ∃ H', evT X 32 [.ptr 0 0 0 0] H = some (.int .i64 (ckE s), H') ∧ RdI 3 H' s a none ∧ H'.length = H.length ∧ ∀ j, j ≠ 0 → j ≠ a → H'[j]? = H[j]? := by
  obtain ⟨⟨vr, vb, τ, hτ, h0, hr, hb⟩, a0⟩ := h
  obtain ⟨off, g, τ1, ob, L, hτ1, rfl, ho, hw, hl, hle, hLb⟩ := hr
  obtain ⟨τ2, hτ2, rfl, hbody⟩ := hb
  obtain ⟨p, gg, cap, zz, row, ids', tg⟩ := ob
  obtain ⟨q1, q2, q3, q4, q5⟩ := hw
  simp only at q1 q2 q3 q4 q5
  subst q1 q2 q3 q4 q5
  have hπ : reach H reachFuel [0] [] = [0, a] := reach2 h0 rfl (by simp [rdBx, Rd.pay, ids, idsL]) ho rfl (by omega)
  have hl0 : live H 0 0 = some (rdBx s (.sl a off s.rest.length gg) (.ro 0 .pn τ2) τ) := by simp [live, h0, rdBx]
  have hla : live H a gg = some ⟨.pb L, gg, cap, zz, true, false, tg⟩ := by simp [live, ho]
  have ha0 : a ≠ 0 := by omega
  have hin0 : intoN H [0, a] 0 0 = some (0, 0) := by simp [intoN, hl0, idxOf]
  have hina : intoN H [0, a] a gg = some (1, 0) := by simp [intoN, hla, idxOf, Ne.symm ha0]
  have hat0 : obAt H 0 = some (rdBx s (.sl a off s.rest.length gg) (.ro 0 .pn τ2) τ) := by simp [obAt, h0]
  have hata : obAt H a = some ⟨.pb L, gg, cap, zz, true, false, tg⟩ := by simp [obAt, ho]
  obtain ⟨t', ht', hj⟩ := join2 hτ2 hτ1
  have hent : ([0, a].map fun o => (obAt H o).map (renObj (intoN H [0, a]) (fun _ => 2) 0)) = [some (rdBx s (.sl 1 off s.rest.length 0) (.ro 0 .pn 2) 2), some ⟨.pb L, 0, cap, zz, true, false, 2⟩] := by
    simp [hat0, hata, renObj, rdBx, Rd.pay, ren, renL, hina]
  generalize hE : [some (rdBx s (.sl 1 off s.rest.length 0) (.ro 0 .pn 2) 2), some (⟨.pb L, 0, cap, zz, true, false, 2⟩ : AM.Obj)] = E at *
  have hE0 : E[0]? = some (some (rdBx s (.sl 1 off s.rest.length 0) (.ro 0 .pn 2) 2)) := by rw [← hE]; rfl
  have hE1 : E[1]? = some (some ⟨.pb L, 0, cap, zz, true, false, 2⟩) := by rw [← hE]; rfl
  obtain ⟨code, hcode, hrun⟩ := wr_code (s := s) (.sl 1 off s.rest.length 0) (.ro 0 .pn 2) E 2 hE0 ⟨off, 0, 2, _, L, .inr rfl, rfl, hE1, ⟨rfl, rfl, rfl, rfl, rfl⟩, hl, hle, hLb⟩ (.inl ⟨2, rfl, hbody⟩) h4 hrl (by rw [hbody]; simp) hnx
  have hoE0 : obAt E 0 = some (rdBx s (.sl 1 off s.rest.length 0) (.ro 0 .pn 2) 2) := by simp [obAt, hE0]
  have hoE1 : obAt E 1 = some ⟨.pb L, 0, cap, zz, true, false, 2⟩ := by simp [obAt, hE1]
  have hEv := Ev1.grp (C := X) (f := 32) (H := H) (o := 0) (n := 2) (t := t') (π := [0, a]) (new := []) (xs := []) (ys := []) (lents := []) (l := [.int .i64 (ckE s)]) (evT_below X) Try.func32 hcode rfl hπ hin0 (by rfl) rfl rfl rfl (by simp [gtag])
    (by simp only [List.map_cons, List.map_nil, hat0, hata, tagsObjs, tagsOb, rdBx, tagsRd]; simpa [tags] using hj)
    (by rw [hent, par32]; exact hrun) (.inr rfl) rfl
    (by
      have : reach E reachFuel [0, 1] [] = [0, 1] := by
        show reach E (99996 + 1 + 1 + 1 + 1) [0, 1] [] = [0, 1]
        simp [reach, hE0, hE1, rdBx, Rd.pay, ids, idsL]
      show (reach E reachFuel ([0, 1] ++ ids (resultV _)) []).filter _ = []
      rw [show ids (resultV [AV.int .i64 (ckE s)]) = [] by simp [resultV, noTups, ids, idsL], List.append_nil, this]
      rfl)
    (by simp [resultV, noTups, tags, tagsL])
    (by
      intro k hk ob hob
      rcases hk with hk | hk
      · simp only [List.length_cons, List.length_nil] at hk
        have : k = 0 ∨ k = 1 := by omega
        rcases this with rfl | rfl
        · rw [hoE0] at hob; obtain rfl := Option.some.inj hob
          exact ⟨⟨by simp [rdBx, Rd.pay, tags, tagsL], .inr rfl⟩, by simp [rdBx, Rd.pay]⟩
        · rw [hoE1] at hob; obtain rfl := Option.some.inj hob
          exact ⟨⟨by simp [tags], .inr rfl⟩, by simp⟩
      · cases hk)
  refine ⟨_, evT_eq (by simpa [resultV, noTups, ren, renL] using hEv), ?_, by rw [putBack_length], ?_⟩
  · have hlE1 : live E 1 0 = some ⟨.pb L, 0, cap, zz, true, false, 2⟩ := by simp [live, hE1]
    have hg1 : genBack H [0, a] 1 0 = gg := by simp [genBack, hata]
    have hg0 : genBack H [0, a] 0 0 = 0 := by simp [genBack, hat0, rdBx]
    have hb1 : backN H [0, a] [] E 1 0 = some (a, gg) := by unfold backN; rw [hlE1]; simp [hg1]
    have hbk : bk 2 t' 2 = t' := by simp [bk]
    have hp0 := putBack_at (ρ := backN H [0, a] [] E) (τ := bk 2 t') (H := H) (π := [0, a]) (H1 := E) [0, a] 0 0 0 H (by simp [Ne.symm ha0]) rfl (at_lt h0)
    have hp1 := putBack_at (ρ := backN H [0, a] [] E) (τ := bk 2 t') (H := H) (π := [0, a]) (H1 := E) [0, a] 0 1 a H (by simp [Ne.symm ha0]) rfl (at_lt ho)
    rw [Nat.zero_add, hoE0] at hp0
    rw [Nat.zero_add, hoE1] at hp1
    simp only [Option.map_some, renObj, rdBx, Rd.pay, ren, renL, hb1, hbk, hg0, hg1] at hp0 hp1
    exact ⟨⟨.sl a off s.rest.length gg, .ro 0 .pn t', t', ht', by simpa [rdBx, Rd.pay] using hp0, ⟨off, gg, t', _, L, ht', rfl, hp1, ⟨rfl, rfl, rfl, rfl, rfl⟩, hl, hle, hLb⟩, ⟨t', ht', rfl, hbody⟩⟩, a0⟩
  · intro j hj0 hja
    rw [putBack_ne _ _ _ (by simp [hj0, hja])]

set_option maxRecDepth 100000 in
set_option maxHeartbeats 4000000 in
/-- the head looked at; a body -/
theorem wr_ev2 {c : Nat} (h : RdI 3 H s a (some c)) (h4 : 4 ≤ s.rest.length) (hrl : s.rest.length ≤ 1000000) (hbl : s.body.length ≤ 1000000000) (hnx : s.nx < 256) :
    ∃ H', evT X 32 [.ptr 0 0 0 0] H = some (.int .i64 (ckE s), H') ∧ RdI 3 H' s a (some c) ∧ H'.length = H.length ∧ ∀ j, j ≠ 0 → j ≠ a → j ≠ c → H'[j]? = H[j]? := by
  obtain ⟨⟨vr, vb, τ, hτ, h0, hr, hb⟩, a0⟩ := h
  obtain ⟨off, g, τ1, ob, L, hτ1, rfl, ho, hw, hl, hle, hLb⟩ := hr
  obtain ⟨⟨off2, g2, τ2, ob2, L2, hτ2, rfl, ho2, hw2, hl2, hle2, hLb2⟩, hc0, hca⟩ := hb
  obtain ⟨p, gg, cap, zz, row, ids', tg⟩ := ob
  obtain ⟨q1, q2, q3, q4, q5⟩ := hw
  simp only at q1 q2 q3 q4 q5
  subst q1 q2 q3 q4 q5
  obtain ⟨p2, gg2, cap2, zz2, row2, ids2, tg2⟩ := ob2
  obtain ⟨q1, q2, q3, q4, q5⟩ := hw2
  simp only at q1 q2 q3 q4 q5
  subst q1 q2 q3 q4 q5
  have hπ : reach H reachFuel [0] [] = [0, a, c] := reach3 h0 rfl (by simp [rdBx, Rd.pay, ids, idsL]) ho rfl ho2 rfl (by omega) (by omega) hca
  have hl0 : live H 0 0 = some (rdBx s (.sl a off s.rest.length gg) (.sl c off2 s.body.length gg2) τ) := by simp [live, h0, rdBx]
  have hla : live H a gg = some ⟨.pb L, gg, cap, zz, true, false, tg⟩ := by simp [live, ho]
  have hlc : live H c gg2 = some ⟨.pb L2, gg2, cap2, zz2, true, false, tg2⟩ := by simp [live, ho2]
  have ha0 : a ≠ 0 := by omega
  have hc0' : c ≠ 0 := by omega
  have hin0 : intoN H [0, a, c] 0 0 = some (0, 0) := by simp [intoN, hl0, idxOf]
  have hina : intoN H [0, a, c] a gg = some (1, 0) := by simp [intoN, hla, idxOf, Ne.symm ha0]
  have hinc : intoN H [0, a, c] c gg2 = some (2, 0) := by simp [intoN, hlc, idxOf, Ne.symm hc0', Ne.symm hca]
  have hatc : obAt H c = some ⟨.pb L2, gg2, cap2, zz2, true, false, tg2⟩ := by simp [obAt, ho2]
  have hat0 : obAt H 0 = some (rdBx s (.sl a off s.rest.length gg) (.sl c off2 s.body.length gg2) τ) := by simp [obAt, h0]
  have hata : obAt H a = some ⟨.pb L, gg, cap, zz, true, false, tg⟩ := by simp [obAt, ho]
  obtain ⟨t', ht', hj⟩ := join2 hτ1 hτ2
  have hent : ([0, a, c].map fun o => (obAt H o).map (renObj (intoN H [0, a, c]) (fun _ => 2) 0)) = [some (rdBx s (.sl 1 off s.rest.length 0) (.sl 2 off2 s.body.length 0) 2), some ⟨.pb L, 0, cap, zz, true, false, 2⟩, some ⟨.pb L2, 0, cap2, zz2, true, false, 2⟩] := by
    simp [hat0, hata, hatc, renObj, rdBx, Rd.pay, ren, renL, hina, hinc]
  generalize hE : [some (rdBx s (.sl 1 off s.rest.length 0) (.sl 2 off2 s.body.length 0) 2), some (⟨.pb L, 0, cap, zz, true, false, 2⟩ : AM.Obj), some (⟨.pb L2, 0, cap2, zz2, true, false, 2⟩ : AM.Obj)] = E at *
  have hE0 : E[0]? = some (some (rdBx s (.sl 1 off s.rest.length 0) (.sl 2 off2 s.body.length 0) 2)) := by rw [← hE]; rfl
  have hE1 : E[1]? = some (some ⟨.pb L, 0, cap, zz, true, false, 2⟩) := by rw [← hE]; rfl
  have hE2 : E[2]? = some (some ⟨.pb L2, 0, cap2, zz2, true, false, 2⟩) := by rw [← hE]; rfl
  obtain ⟨code, hcode, hrun⟩ := wr_code (s := s) (.sl 1 off s.rest.length 0) (.sl 2 off2 s.body.length 0) E 3 hE0 ⟨off, 0, 2, _, L, .inr rfl, rfl, hE1, ⟨rfl, rfl, rfl, rfl, rfl⟩, hl, hle, hLb⟩ (.inr ⟨off2, 0, 2, _, L2, .inr rfl, rfl, hE2, ⟨rfl, rfl, rfl, rfl, rfl⟩, hl2, hle2, hLb2⟩) h4 hrl hbl hnx
  have hoE0 : obAt E 0 = some (rdBx s (.sl 1 off s.rest.length 0) (.sl 2 off2 s.body.length 0) 2) := by simp [obAt, hE0]
  have hoE1 : obAt E 1 = some ⟨.pb L, 0, cap, zz, true, false, 2⟩ := by simp [obAt, hE1]
  have hoE2 : obAt E 2 = some ⟨.pb L2, 0, cap2, zz2, true, false, 2⟩ := by simp [obAt, hE2]
  have hEv := Ev1.grp (C := X) (f := 32) (H := H) (o := 0) (n := 2) (t := t') (π := [0, a, c]) (new := []) (xs := []) (ys := []) (lents := []) (l := [.int .i64 (ckE s)]) (evT_below X) Try.func32 hcode rfl hπ hin0 (by rfl) rfl rfl rfl (by simp [gtag])
    (by simp only [List.map_cons, List.map_nil, hat0, hata, hatc, tagsObjs, tagsOb, rdBx, tagsRd]; simpa [tags] using hj)
    (by rw [hent, par32]; exact hrun) (.inr rfl) rfl
    (by
      have : reach E reachFuel [0, 1, 2] [] = [0, 1, 2] := by
        show reach E (99994 + 1 + 1 + 1 + 1 + 1 + 1) [0, 1, 2] [] = [0, 1, 2]
        simp [reach, hE0, hE1, hE2, rdBx, Rd.pay, ids, idsL]
      show (reach E reachFuel ([0, 1, 2] ++ ids (resultV _)) []).filter _ = []
      rw [show ids (resultV [AV.int .i64 (ckE s)]) = [] by simp [resultV, noTups, ids, idsL], List.append_nil, this]
      rfl)
    (by simp [resultV, noTups, tags, tagsL])
    (by
      intro k hk ob hob
      rcases hk with hk | hk
      · simp only [List.length_cons, List.length_nil] at hk
        have : k = 0 ∨ k = 1 ∨ k = 2 := by omega
        rcases this with rfl | rfl | rfl
        · rw [hoE0] at hob; obtain rfl := Option.some.inj hob
          exact ⟨⟨by simp [rdBx, Rd.pay, tags, tagsL], .inr rfl⟩, by simp [rdBx, Rd.pay]⟩
        · rw [hoE1] at hob; obtain rfl := Option.some.inj hob
          exact ⟨⟨by simp [tags], .inr rfl⟩, by simp⟩
        · rw [hoE2] at hob; obtain rfl := Option.some.inj hob
          exact ⟨⟨by simp [tags], .inr rfl⟩, by simp⟩
      · cases hk)
  refine ⟨_, evT_eq (by simpa [resultV, noTups, ren, renL] using hEv), ?_, by rw [putBack_length], ?_⟩
  · have hlE1 : live E 1 0 = some ⟨.pb L, 0, cap, zz, true, false, 2⟩ := by simp [live, hE1]
    have hlE2 : live E 2 0 = some ⟨.pb L2, 0, cap2, zz2, true, false, 2⟩ := by simp [live, hE2]
    have hg2 : genBack H [0, a, c] 2 0 = gg2 := by simp [genBack, hatc]
    have hg1 : genBack H [0, a, c] 1 0 = gg := by simp [genBack, hata]
    have hg0 : genBack H [0, a, c] 0 0 = 0 := by simp [genBack, hat0, rdBx]
    have hb1 : backN H [0, a, c] [] E 1 0 = some (a, gg) := by unfold backN; rw [hlE1]; simp [hg1]
    have hb2 : backN H [0, a, c] [] E 2 0 = some (c, gg2) := by unfold backN; rw [hlE2]; simp [hg2]
    have hbk : bk 2 t' 2 = t' := by simp [bk]
    have hp0 := putBack_at (ρ := backN H [0, a, c] [] E) (τ := bk 2 t') (H := H) (π := [0, a, c]) (H1 := E) [0, a, c] 0 0 0 H (by simp [Ne.symm ha0, Ne.symm hc0', Ne.symm hca]) rfl (at_lt h0)
    have hp1 := putBack_at (ρ := backN H [0, a, c] [] E) (τ := bk 2 t') (H := H) (π := [0, a, c]) (H1 := E) [0, a, c] 0 1 a H (by simp [Ne.symm ha0, Ne.symm hc0', Ne.symm hca]) rfl (at_lt ho)
    have hp2 := putBack_at (ρ := backN H [0, a, c] [] E) (τ := bk 2 t') (H := H) (π := [0, a, c]) (H1 := E) [0, a, c] 0 2 c H (by simp [Ne.symm ha0, Ne.symm hc0', Ne.symm hca]) rfl (at_lt ho2)
    rw [Nat.zero_add, hoE2] at hp2
    rw [Nat.zero_add, hoE0] at hp0
    rw [Nat.zero_add, hoE1] at hp1
    simp only [Option.map_some, renObj, rdBx, Rd.pay, ren, renL, hb1, hb2, hbk, hg0, hg1, hg2] at hp0 hp1 hp2
    exact ⟨⟨.sl a off s.rest.length gg, .sl c off2 s.body.length gg2, t', ht', by simpa [rdBx, Rd.pay] using hp0, ⟨off, gg, t', _, L, ht', rfl, hp1, ⟨rfl, rfl, rfl, rfl, rfl⟩, hl, hle, hLb⟩, ⟨⟨off2, gg2, t', _, L2, ht', rfl, hp2, ⟨rfl, rfl, rfl, rfl, rfl⟩, hl2, hle2, hLb2⟩, hc0, hca⟩⟩, a0⟩
  · intro j hj0 hja hjc
    rw [putBack_ne _ _ _ (by simp [hj0, hja, hjc])]

end

theorem wr_ev {H : AM.Heap} {s : Rd} {a : Nat} {oc : Option Nat} (h : RdI 3 H s a oc) (h4 : 4 ≤ s.rest.length) (hrl : s.rest.length ≤ 1000000) (hbl : s.body.length ≤ 1000000000) (hnx : s.nx < 256) :
    ∃ H', evT X 32 [.ptr 0 0 0 0] H = some (.int .i64 (ckE s), H') ∧ RdI 3 H' s a oc ∧ H'.length = H.length ∧ ∀ j, j ≠ 0 → j ≠ a → (∀ c, oc = some c → j ≠ c) → H'[j]? = H[j]? := by
  cases oc with
  | none =>
    obtain ⟨H', h1, h2, h3, h4⟩ := wr_ev1 h h4 hrl hnx
    exact ⟨H', h1, h2, h3, fun j h5 h6 _ => h4 j h5 h6⟩
  | some c =>
    obtain ⟨H', h1, h2, h3, h4⟩ := wr_ev2 h h4 hrl hbl hnx
    exact ⟨H', h1, h2, h3, fun j h5 h6 h7 => h4 j h5 h6 (h7 c rfl)⟩

end Go.Proofs.Ytconnpileacfeaa
