/- QA to HB: texts of this claim, one behind the other; what each shows stands at its head. -/
import Derived.Test.YtconnpileacfeaaAm4
import Derived.Test.YtconnpileacfeaaMg1
/- Walks: a reader fed: a frame. -/
namespace Go.Proofs.Ytconnpileacfeaa
open Go.AM
set_option linter.unusedSimpArgs false
set_option linter.unusedVariables false
variable {mm : Nat}

/-- a payload begun -/
def fdS1 (s : Rd) : Rd := if s.wi then s else { s with wi := true, sq := s.nx }
/-- a frame taken -/
def fdS2 (s : Rd) (n : Nat) : Rd := { fdS1 s with body := s.body ++ (s.rest.drop 4).take n, rest := s.rest.drop (4 + n), nx := (s.nx + 1) % 256 }
theorem fdS1_rest (s : Rd) : (fdS1 s).rest = s.rest := by unfold fdS1; split <;> rfl
theorem fdS1_body (s : Rd) : (fdS1 s).body = s.body := by unfold fdS1; split <;> rfl
theorem fdS1_nx (s : Rd) : (fdS1 s).nx = s.nx := by unfold fdS1; split <;> rfl
theorem fdS1_m (s : Rd) : (fdS1 s).m = s.m := by unfold fdS1; split <;> rfl
theorem fdS1_wi (s : Rd) : (fdS1 s).wi = true := by
  unfold fdS1
  split
  · assumption
  · rfl
theorem fdS2_eq (s : Rd) (n : Nat) : { fdS1 s with body := (fdS1 s).body ++ ((fdS1 s).rest.drop 4).take n, rest := (fdS1 s).rest.drop (4 + n), nx := ((fdS1 s).nx + 1) % 256 } = fdS2 s n := by
  unfold fdS2; rw [fdS1_rest, fdS1_body, fdS1_nx]
/-- frames read; fuel -/
def fdL : Nat → Rd → List Pk → Rd × List Pk × Int
  | 0, s, out => (s, out, 0)
  | f + 1, s, out =>
    if s.rest.length < 4 then (s, out, 0) else
    if ckE s ≠ 0 then ({ s with st := ckE s }, out, ckE s) else
    if s.rest.length < 4 + leV (s.rest.take 3) then (s, out, 0) else
    if leV (s.rest.take 3) < s.m then fdL f { fdS2 s (leV (s.rest.take 3)) with body := [], wi := false } (out ++ [⟨(fdS2 s (leV (s.rest.take 3))).sq, (fdS2 s (leV (s.rest.take 3))).nx, (fdS2 s (leV (s.rest.take 3))).body⟩])
    else fdL f (fdS2 s (leV (s.rest.take 3))) out

/-- nothing of the reader lies where the payloads lie -/
def Off (O a : Nat) (oc : Option Nat) : Prop := 0 < O ∧ O ≠ a ∧ ∀ c, oc = some c → c ≠ O

theorem PkR.keep {t : Nat} {H H' : AM.Heap} {O n g : Nat} {out : List Pk} (h : PkR t H O n g out) (hk : H'[O]? = H[O]?) : PkR t H' O n g out := by
  obtain ⟨l, ob, τ, h1, h2, h3, h4, h5⟩ := h
  exact ⟨l, ob, τ, h1, h2, h3, by rw [hk]; exact h4, h5⟩
theorem PkR.lt {t : Nat} {H : AM.Heap} {O n g : Nat} {out : List Pk} (h : PkR t H O n g out) : O < H.length := by
  obtain ⟨l, ob, τ, h1, h2, h3, h4, h5⟩ := h
  exact at_lt h4

section
variable {H : AM.Heap} {s : Rd} {a : Nat} {oc : Option Nat}

set_option maxRecDepth 100000 in
set_option maxHeartbeats 8000000 in
/-- a frame's bytes taken -/
theorem fd_take (O N g n : Nat) (tl : AM.Frame) (htl : tl = [] ∨ tl = [(58, .bool false)]) (out : List Pk) (h : RdI 3 H s a oc) (hout : PkR 3 H O N g out) (hoff : Off O a oc) (hn : 4 + n ≤ s.rest.length) (hrl : s.rest.length ≤ 1000000) (hbl : s.body.length ≤ 1000000) (hnx : s.nx < 256) (wi : s.wi = true) :
    ∃ H' c, RdI 3 H' { s with body := s.body ++ (s.rest.drop 4).take n, rest := s.rest.drop (4 + n), nx := (s.nx + 1) % 256 } a (some c) ∧ PkR 3 H' O N g out ∧ Off O a (some c) ∧ H.length ≤ H'.length ∧ (oc = some c ∨ (oc = none ∧ c = H.length)) ∧ (∀ j, j ≠ 0 → oc ≠ some j → j < H.length → H'[j]? = H[j]?) ∧
      ∀ (cd15 cd16 cd17 : Code), ((Try.f18.body).bind (codeAt [1, 1, 1, 1, 0, 0, 0, 1, 0, 1, 1, 1, 1, 0])) = some cd15 → ((Try.f18.body).bind (codeAt [1, 1, 1, 1, 0, 0, 0, 1, 0, 1, 1, 1, 1, 1, 0])) = some cd16 → ((Try.f18.body).bind (codeAt [1, 1, 1, 1, 0, 0, 0, 1, 0, 1, 1, 1, 1, 1, 1, 0])) = some cd17 → ∀ Q rest, Tells Q X (evT X) 18 mm rest (fdFr O N g [(7, .int .i64 (n : Nat))]) H' → Tells Q X (evT X) 18 mm (.seq cd15 (.seq cd16 (.seq cd17 rest))) (fdFr O N g ((7, .int .i64 (n : Nat)) :: tl)) H := by
  obtain ⟨⟨vr, vb, τ, hτ, h0, ⟨off, ga, τ1, oa, L, hτ1, rfl, ha, hwa, hl, hle, hLle⟩, hb⟩, a0⟩ := h
  have hrlen : s.rest.length = (L.drop off).length := by rw [hl]
  have hL : off + s.rest.length = L.length := by rw [hrlen, List.length_drop]; omega
  obtain ⟨O0, Oa, Oc⟩ := hoff
  have hOl := hout.lt
  have hpc : ((L.drop off).drop 4).take n = (s.rest.drop 4).take n := by rw [hl]
  have hdr : L.drop (off + (4 + n)) = s.rest.drop (4 + n) := by rw [← hl, List.drop_drop]
  have hrl2 : (s.rest.drop (4 + n)).length = s.rest.length - (4 + n) := by rw [List.length_drop]
  cases oc with
  | none =>
    obtain ⟨τ2, hτ2, rfl, hbody⟩ := hb
    have r15 := fd_r15n (mm := mm) (s := s) (τ := τ) O N g n tl htl a off s.rest.length ga τ2 oa L h0 ha hwa.p hwa.g hwa.ids hn hL (by omega)
    rw [hpc] at r15
    have hHl : 0 < H.length := at_lt h0
    have hal := at_lt ha
    have k0 : (upd (H ++ [some (⟨.pb ((s.rest.drop 4).take n), 0, .none, 0, true, false, 0⟩ : AM.Obj)]) 0 (some (rdBx s (.sl a off s.rest.length ga) (.sl H.length 0 n 0) τ)))[0]? = some (some (rdBx s (.sl a off s.rest.length ga) (.sl H.length 0 n 0) τ)) := at_set (at_cat h0)
    have ka : (upd (H ++ [some (⟨.pb ((s.rest.drop 4).take n), 0, .none, 0, true, false, 0⟩ : AM.Obj)]) 0 (some (rdBx s (.sl a off s.rest.length ga) (.sl H.length 0 n 0) τ)))[a]? = some (some oa) := at_ne (at_cat ha) (by omega)
    have kc : (upd (H ++ [some (⟨.pb ((s.rest.drop 4).take n), 0, .none, 0, true, false, 0⟩ : AM.Obj)]) 0 (some (rdBx s (.sl a off s.rest.length ga) (.sl H.length 0 n 0) τ)))[H.length]? = some (some ⟨.pb ((s.rest.drop 4).take n), 0, .none, 0, true, false, 0⟩) := at_ne (by simp) (by omega)
    have kO : (upd (H ++ [some (⟨.pb ((s.rest.drop 4).take n), 0, .none, 0, true, false, 0⟩ : AM.Obj)]) 0 (some (rdBx s (.sl a off s.rest.length ga) (.sl H.length 0 n 0) τ)))[O]? = H[O]? := by
      unfold upd
      rw [List.getElem?_set_ne (by omega), List.getElem?_append_left hOl]
    have kj : ∀ j, j ≠ 0 → j < H.length → (upd (H ++ [some (⟨.pb ((s.rest.drop 4).take n), 0, .none, 0, true, false, 0⟩ : AM.Obj)]) 0 (some (rdBx s (.sl a off s.rest.length ga) (.sl H.length 0 n 0) τ)))[j]? = H[j]? := by
      intro j h0 hj
      unfold upd
      rw [List.getElem?_set_ne (by omega), List.getElem?_append_left hj]
    have kl : (upd (H ++ [some (⟨.pb ((s.rest.drop 4).take n), 0, .none, 0, true, false, 0⟩ : AM.Obj)]) 0 (some (rdBx s (.sl a off s.rest.length ga) (.sl H.length 0 n 0) τ))).length = H.length + 1 := by simp [upd]
    generalize upd (H ++ [some (⟨.pb ((s.rest.drop 4).take n), 0, .none, 0, true, false, 0⟩ : AM.Obj)]) 0 (some (rdBx s (.sl a off s.rest.length ga) (.sl H.length 0 n 0) τ)) = H1 at *
    have r16 := fd_r16 (mm := mm) (s := s) (vb := .sl H.length 0 n 0) (τ := τ) O N g n a off s.rest.length ga oa L k0 ka hwa.p hwa.g hn hL (by omega)
    have m0 : (upd H1 0 (some (rdBx s (.sl a (off + (4 + n)) (s.rest.length - (4 + n)) ga) (.sl H.length 0 n 0) τ)))[0]? = _ := at_set k0
    have r17 := fd_r17 (mm := mm) (s := s) (τ := τ) O N g n hnx m0
    have hup : upd (upd H1 0 (some (rdBx s (.sl a (off + (4 + n)) (s.rest.length - (4 + n)) ga) (.sl H.length 0 n 0) τ))) 0 (some (rdBx { s with nx := (s.nx + 1) % 256 } (.sl a (off + (4 + n)) (s.rest.length - (4 + n)) ga) (.sl H.length 0 n 0) τ)) = upd H1 0 (some (rdBx { s with nx := (s.nx + 1) % 256 } (.sl a (off + (4 + n)) (s.rest.length - (4 + n)) ga) (.sl H.length 0 n 0) τ)) := by unfold upd; simp
    rw [hup] at r17
    have hpl : ((s.rest.drop 4).take n).length = n := by rw [List.length_take, List.length_drop]; omega
    refine ⟨upd H1 0 (some (rdBx { s with nx := (s.nx + 1) % 256 } (.sl a (off + (4 + n)) (s.rest.length - (4 + n)) ga) (.sl H.length 0 n 0) τ)), H.length, ⟨⟨.sl a (off + (4 + n)) (s.rest.length - (4 + n)) ga, .sl H.length 0 n 0, τ, hτ, at_set k0, ⟨off + (4 + n), ga, τ1, oa, L, hτ1, by rw [hrl2], at_ne ka (by omega), hwa, hdr, by omega, hLle⟩, ⟨0, 0, 0, _, (s.rest.drop 4).take n, .inl rfl, by rw [hbody, List.nil_append, hpl], at_ne kc (by omega), ⟨rfl, rfl, rfl, rfl, rfl⟩, by rw [hbody]; simp, by omega, by rw [hpl]; omega⟩, by omega, by omega⟩, a0⟩, hout.keep (by unfold upd; rw [List.getElem?_set_ne (by omega), kO]), ⟨O0, Oa, fun c hc => by cases hc; omega⟩, by simp [upd, kl], .inr ⟨rfl, rfl⟩, fun j h0 _ hj => by unfold upd; rw [List.getElem?_set_ne (by omega), kj j h0 hj], ?_⟩
    intro cd15 cd16 cd17 e15 e16 e17 Q rest ht
    apply Tells.seq (piece r15 _ e15)
    apply Tells.seq (piece r16 _ e16)
    apply Tells.seq (piece r17 _ e17)
    exact ht
  | some c =>
    obtain ⟨⟨off2, gc, τ2, ob, L2, hτ2, rfl, hc, hwc, hl2, hle2, hLle2⟩, c0, ca⟩ := hb
    have hOc := Oc c rfl
    obtain ⟨ob', hw', r15⟩ := fd_r15s (mm := mm) (s := s) (τ := τ) O N g n tl htl a off s.rest.length ga c off2 s.body.length gc τ2 oa ob L L2 h0 ha hwa.p hwa.g hwa.ids hn hL (by omega) hc hwc (by rw [hl2]) hle2 (by omega) c0
    rw [hpc, hl2] at hw'
    have k0 : (upd (upd H c (some ob')) 0 (some (rdBx s (.sl a off s.rest.length ga) (.sl c 0 (s.body.length + n) (gc + 1)) τ)))[0]? = some (some (rdBx s (.sl a off s.rest.length ga) (.sl c 0 (s.body.length + n) (gc + 1)) τ)) := at_set (at_ne h0 (by omega))
    have ka : (upd (upd H c (some ob')) 0 (some (rdBx s (.sl a off s.rest.length ga) (.sl c 0 (s.body.length + n) (gc + 1)) τ)))[a]? = some (some oa) := at_ne (at_ne ha ca) (by omega)
    have kc : (upd (upd H c (some ob')) 0 (some (rdBx s (.sl a off s.rest.length ga) (.sl c 0 (s.body.length + n) (gc + 1)) τ)))[c]? = some (some ob') := at_ne (at_set hc) (by omega)
    have kO : (upd (upd H c (some ob')) 0 (some (rdBx s (.sl a off s.rest.length ga) (.sl c 0 (s.body.length + n) (gc + 1)) τ)))[O]? = H[O]? := by
      unfold upd
      rw [List.getElem?_set_ne (by omega), List.getElem?_set_ne hOc]
    have kj : ∀ j, j ≠ 0 → j ≠ c → (upd (upd H c (some ob')) 0 (some (rdBx s (.sl a off s.rest.length ga) (.sl c 0 (s.body.length + n) (gc + 1)) τ)))[j]? = H[j]? := by
      intro j h0 hj
      unfold upd
      rw [List.getElem?_set_ne (by omega), List.getElem?_set_ne (by omega)]
    have kl : (upd (upd H c (some ob')) 0 (some (rdBx s (.sl a off s.rest.length ga) (.sl c 0 (s.body.length + n) (gc + 1)) τ))).length = H.length := by simp [upd]
    generalize upd (upd H c (some ob')) 0 (some (rdBx s (.sl a off s.rest.length ga) (.sl c 0 (s.body.length + n) (gc + 1)) τ)) = H1 at *
    have r16 := fd_r16 (mm := mm) (s := s) (vb := .sl c 0 (s.body.length + n) (gc + 1)) (τ := τ) O N g n a off s.rest.length ga oa L k0 ka hwa.p hwa.g hn hL (by omega)
    have m0 : (upd H1 0 (some (rdBx s (.sl a (off + (4 + n)) (s.rest.length - (4 + n)) ga) (.sl c 0 (s.body.length + n) (gc + 1)) τ)))[0]? = _ := at_set k0
    have r17 := fd_r17 (mm := mm) (s := s) (τ := τ) O N g n hnx m0
    have hup : upd (upd H1 0 (some (rdBx s (.sl a (off + (4 + n)) (s.rest.length - (4 + n)) ga) (.sl c 0 (s.body.length + n) (gc + 1)) τ))) 0 (some (rdBx { s with nx := (s.nx + 1) % 256 } (.sl a (off + (4 + n)) (s.rest.length - (4 + n)) ga) (.sl c 0 (s.body.length + n) (gc + 1)) τ)) = upd H1 0 (some (rdBx { s with nx := (s.nx + 1) % 256 } (.sl a (off + (4 + n)) (s.rest.length - (4 + n)) ga) (.sl c 0 (s.body.length + n) (gc + 1)) τ)) := by unfold upd; simp
    rw [hup] at r17
    have hpl : (s.body ++ (s.rest.drop 4).take n).length = s.body.length + n := by rw [List.length_append, List.length_take, List.length_drop]; omega
    refine ⟨upd H1 0 (some (rdBx { s with nx := (s.nx + 1) % 256 } (.sl a (off + (4 + n)) (s.rest.length - (4 + n)) ga) (.sl c 0 (s.body.length + n) (gc + 1)) τ)), c, ⟨⟨.sl a (off + (4 + n)) (s.rest.length - (4 + n)) ga, .sl c 0 (s.body.length + n) (gc + 1), τ, hτ, at_set k0, ⟨off + (4 + n), ga, τ1, oa, L, hτ1, by rw [hrl2], at_ne ka (by omega), hwa, hdr, by omega, hLle⟩, ⟨0, gc + 1, τ2, ob', s.body ++ (s.rest.drop 4).take n, hτ2, by rw [hpl], at_ne kc (by omega), hw', by simp, by omega, by rw [hpl]; omega⟩, c0, ca⟩, a0⟩, hout.keep (by unfold upd; rw [List.getElem?_set_ne (by omega), kO]), ⟨O0, Oa, Oc⟩, by simp [upd, kl], .inl rfl, fun j h0 hj _ => by unfold upd; rw [List.getElem?_set_ne (by omega), kj j h0 (fun h => hj (by rw [h]))], ?_⟩
    intro cd15 cd16 cd17 e15 e16 e17 Q rest ht
    apply Tells.seq (piece r15 _ e15)
    apply Tells.seq (piece r16 _ e16)
    apply Tells.seq (piece r17 _ e17)
    exact ht

end

end Go.Proofs.Ytconnpileacfeaa

/- Walks: a reader fed: frames, one behind the other. -/
namespace Go.Proofs.Ytconnpileacfeaa
open Go.AM
set_option linter.unusedSimpArgs false
set_option linter.unusedVariables false
variable {mm : Nat}

/-- the object behind a slice -/
theorem SlO.ob {t : Nat} {H : AM.Heap} {a : Nat} {v : AV} {l : List UInt8} (h : SlO t H a v l) : ∃ ob L, H[a]? = some (some ob) ∧ ob.ids = false ∧ ob.p = .pb L ∧ (ob.tg = 0 ∨ ob.tg = t) ∧ ids v = [a] ∧ tags v = [] := by
  obtain ⟨off, g, τ, ob, L, hτ, rfl, ho, hw, _⟩ := h
  exact ⟨ob, L, ho, hw.ids, hw.p, by rw [hw.tg]; exact hτ, by simp [ids], by simp [tags]⟩

theorem RdI.box {t : Nat} {H : AM.Heap} {s s' : Rd} {a : Nat} {oc : Option Nat} (h : RdI t H s a oc) (hr : s'.rest = s.rest) (hb : s'.body = s.body) :
    ∃ vr vb τ, H[0]? = some (some (rdBx s vr vb τ)) ∧ RdI t (upd H 0 (some (rdBx s' vr vb τ))) s' a oc := by
  obtain ⟨⟨vr, vb, τ, hτ, h0, hvr, hvb⟩, a0⟩ := h
  refine ⟨vr, vb, τ, h0, ⟨vr, vb, τ, hτ, at_set h0, by rw [hr]; exact hvr.ne (by omega), ?_⟩, a0⟩
  cases oc with
  | none => simp only at hvb ⊢; rw [hb]; exact hvb
  | some c =>
    simp only at hvb ⊢
    exact ⟨by rw [hb]; exact hvb.1.ne (by have := hvb.2.1; omega), hvb.2⟩

theorem Off.keep {H H' : AM.Heap} {O a N g : Nat} {oc : Option Nat} {out : List Pk} (h : Off O a oc) (hout : PkR 3 H O N g out) (hk : ∀ j, j ≠ 0 → j ≠ a → (∀ c, oc = some c → j ≠ c) → H'[j]? = H[j]?) : PkR 3 H' O N g out :=
  hout.keep (hk O (by have := h.1; omega) h.2.1 (fun c hc => Ne.symm (h.2.2 c hc)))
theorem Off.upd0 {H : AM.Heap} {O a N g : Nat} {oc : Option Nat} {out : List Pk} {x : Option AM.Obj} (h : Off O a oc) (hout : PkR 3 H O N g out) : PkR 3 (upd H 0 x) O N g out :=
  hout.keep (by unfold upd; rw [List.getElem?_set_ne (by have := h.1; omega)])

/-- how far a reader may have come -/
structure FdB (s : Rd) (out : List Pk) : Prop where
  nx : s.nx < 256
  sz : s.rest.length + s.body.length + out.length ≤ 900000

theorem lenSl {H : AM.Heap} {s : Rd} {a : Nat} {vr : AV} (h : SlO 3 H a vr s.rest) : lenV X H 22 vr = some ((s.rest.length : Nat) : Int) := by
  obtain ⟨off, ga, τ1, oa, L, hτ1, rfl, ha, hwa, hl, hle, hLb⟩ := h
  simp [lenV, live, ha, hwa.g]

section
variable {H : AM.Heap} {s : Rd} {a : Nat} {oc : Option Nat}

set_option maxRecDepth 100000 in
set_option maxHeartbeats 4000000 in
theorem fd_r7 (O N g : Nat) (tl : AM.Frame) (htl : tl = [] ∨ tl = [(106, .bool false)]) (h : RdI 3 H s a oc) :
    ∃ code, ((Try.f18.body).bind (codeAt [1, 1, 1, 1, 0, 0, 0, 0, 0])) = some code ∧ Run X (evT X) 18 mm code (fdFr O N g tl) H ⟨.normal, fdFr O N g [(32, .bool (decide (4 ≤ s.rest.length)))], H⟩ := by
  refine ⟨_, rfl, ?_⟩
  obtain ⟨⟨vr, vb, τ, hτ, h0, ⟨off, ga, τ1, oa, L, hτ1, rfl, ha, hwa, hl, hle, hLb⟩, hvb⟩, a0⟩ := h
  have hg := hwa.g
  have hd : decide ((4 : Int) ≤ (s.rest.length : Int)) = decide (4 ≤ s.rest.length) := by
    rw [decide_eq_decide]; omega
  unfold fdFr
  simp only [rdBx, Rd.pay] at h0
  generalize s.rest.length = rl at *
  rcases htl with rfl | rfl
  · by_cases h4 : 4 ≤ rl
    · have h4I : (4 : Int) ≤ (rl : Int) := by omega
      (refine ⟨0, ?_⟩; simp (maxSteps := 2000000) -implicitDefEqProofs [-getElem?_pos, List.getElem?_cons_zero, List.getElem?_cons_succ, go_sem, eqV, plen, loadV, storeV, h0, ha, hg, h4, h4I])
    · have h4I : ¬ (4 : Int) ≤ (rl : Int) := by omega
      (refine ⟨0, ?_⟩; simp (maxSteps := 2000000) -implicitDefEqProofs [-getElem?_pos, List.getElem?_cons_zero, List.getElem?_cons_succ, go_sem, eqV, plen, loadV, storeV, h0, ha, hg, h4, h4I])
  · by_cases h4 : 4 ≤ rl
    · have h4I : (4 : Int) ≤ (rl : Int) := by omega
      (refine ⟨0, ?_⟩; simp (maxSteps := 2000000) -implicitDefEqProofs [-getElem?_pos, List.getElem?_cons_zero, List.getElem?_cons_succ, go_sem, eqV, plen, loadV, storeV, h0, ha, hg, h4, h4I])
    · have h4I : ¬ (4 : Int) ≤ (rl : Int) := by omega
      (refine ⟨0, ?_⟩; simp (maxSteps := 2000000) -implicitDefEqProofs [-getElem?_pos, List.getElem?_cons_zero, List.getElem?_cons_succ, go_sem, eqV, plen, loadV, storeV, h0, ha, hg, h4, h4I])

set_option maxRecDepth 100000 in
set_option maxHeartbeats 4000000 in
theorem fd_r12 (O N g n : Nat) (h : RdI 3 H s a oc) (hn : n ≤ 16777216) :
    ∃ code, ((Try.f18.body).bind (codeAt [1, 1, 1, 1, 0, 0, 0, 1, 0, 1, 1, 0, 0])) = some code ∧ Run X (evT X) 18 mm code (fdFr O N g [(7, .int .i64 (n : Nat)), (8, .int .i64 0), (39, .bool false)]) H ⟨.normal, fdFr O N g [(7, .int .i64 (n : Nat)), (53, .bool (decide (s.rest.length < 4 + n)))], H⟩ := by
  refine ⟨_, rfl, ?_⟩
  obtain ⟨⟨vr, vb, τ, hτ, h0, ⟨off, ga, τ1, oa, L, hτ1, rfl, ha, hwa, hl, hle, hLb⟩, hvb⟩, a0⟩ := h
  have hg := hwa.g
  have w4 : IntKind.i64.wrap (4 + (n : Int)) = ((4 + n : Nat) : Int) := by rw [wrap_i64 (by omega) (by omega)]; omega
  unfold fdFr
  simp only [rdBx, Rd.pay] at h0
  generalize s.rest.length = rl at *
  generalize 4 + n = n4 at *
  by_cases h4 : rl < n4
  · have h4I : (rl : Int) < (n4 : Int) := by omega
    (refine ⟨0, ?_⟩; simp (maxSteps := 2000000) -implicitDefEqProofs [-getElem?_pos, List.getElem?_cons_zero, List.getElem?_cons_succ, go_sem, eqV, plen, loadV, storeV, h0, ha, hg, h4, h4I, w4])
  · have h4I : ¬ (rl : Int) < (n4 : Int) := by omega
    (refine ⟨0, ?_⟩; simp (maxSteps := 2000000) -implicitDefEqProofs [-getElem?_pos, List.getElem?_cons_zero, List.getElem?_cons_succ, go_sem, eqV, plen, loadV, storeV, h0, ha, hg, h4, h4I, w4])

set_option maxRecDepth 100000 in
set_option maxHeartbeats 4000000 in
theorem fd_r13 (O N g n : Nat) (h : RdI 3 H s a oc) :
    ∃ code, ((Try.f18.body).bind (codeAt [1, 1, 1, 1, 0, 0, 0, 1, 0, 1, 1, 1, 0, 0])) = some code ∧ Run X (evT X) 18 mm code (fdFr O N g [(7, .int .i64 (n : Nat)), (53, .bool false)]) H ⟨.normal, fdFr O N g [(7, .int .i64 (n : Nat)), (58, .bool (!s.wi))], H⟩ := by
  refine ⟨_, rfl, ?_⟩
  obtain ⟨⟨vr, vb, τ, hτ, h0, hvr, hvb⟩, a0⟩ := h
  unfold fdFr
  simp only [rdBx, Rd.pay] at h0
  cases hw : s.wi
  · rw [hw] at h0
    (refine ⟨0, ?_⟩; simp (maxSteps := 2000000) -implicitDefEqProofs [-getElem?_pos, List.getElem?_cons_zero, List.getElem?_cons_succ, go_sem, eqV, plen, loadV, storeV, h0, unV])
  · rw [hw] at h0
    (refine ⟨0, ?_⟩; simp (maxSteps := 2000000) -implicitDefEqProofs [-getElem?_pos, List.getElem?_cons_zero, List.getElem?_cons_succ, go_sem, eqV, plen, loadV, storeV, h0, unV])

set_option maxRecDepth 100000 in
set_option maxHeartbeats 4000000 in
theorem fd_r18 (O N g n : Nat) (h : RdI 3 H s a oc) :
    ∃ code, ((Try.f18.body).bind (codeAt [1, 1, 1, 1, 0, 0, 0, 1, 0, 1, 1, 1, 1, 1, 1, 1, 0])) = some code ∧ Run X (evT X) 18 mm code (fdFr O N g [(7, .int .i64 (n : Nat))]) H ⟨.normal, fdFr O N g [(106, .bool (decide (n < s.m)))], H⟩ := by
  refine ⟨_, rfl, ?_⟩
  obtain ⟨⟨vr, vb, τ, hτ, h0, hvr, hvb⟩, a0⟩ := h
  unfold fdFr
  simp only [rdBx, Rd.pay] at h0
  by_cases h4 : n < s.m
  · have h4I : (n : Int) < (s.m : Int) := by omega
    (refine ⟨0, ?_⟩; simp (maxSteps := 2000000) -implicitDefEqProofs [-getElem?_pos, List.getElem?_cons_zero, List.getElem?_cons_succ, go_sem, eqV, plen, loadV, storeV, h0, h4, h4I])
  · have h4I : ¬ (n : Int) < (s.m : Int) := by omega
    (refine ⟨0, ?_⟩; simp (maxSteps := 2000000) -implicitDefEqProofs [-getElem?_pos, List.getElem?_cons_zero, List.getElem?_cons_succ, go_sem, eqV, plen, loadV, storeV, h0, h4, h4I])

set_option maxRecDepth 100000 in
set_option maxHeartbeats 4000000 in
theorem fd_r10 (O N g : Nat) (e : Int) (vr vb : AV) (τ : Nat) (tl : AM.Frame) (x : AV) (h0 : H[0]? = some (some (rdBx s vr vb τ))) :
    ∃ code, ((Try.f18.body).bind (codeAt [1, 1, 1, 1, 0, 0, 0, 1, 0, 1, 0, 1, 0, 0])) = some code ∧ Run X (evT X) 18 mm code (fdFr O N g [(7, x), (8, .int .i64 e), (39, .bool true)]) H ⟨.normal, [(6, .sl O 0 N g), (8, .int .i64 e)], upd H 0 (some (rdBx { s with st := e } vr vb τ))⟩ := by
  refine ⟨_, rfl, ?_⟩
  unfold fdFr
  simp only [rdBx, Rd.pay] at h0
  (refine ⟨0, ?_⟩; simp (maxSteps := 2000000) -implicitDefEqProofs [-getElem?_pos, List.getElem?_cons_zero, List.getElem?_cons_succ, go_sem, eqV, plen, loadV, storeV, h0, rdBx, Rd.pay])

end

end Go.Proofs.Ytconnpileacfeaa

/- Walks: a reader fed: the rounds. -/
namespace Go.Proofs.Ytconnpileacfeaa
open Go.AM
set_option linter.unusedSimpArgs false
set_option linter.unusedVariables false
variable {mm : Nat}

section
variable {H : AM.Heap} {s : Rd} {a : Nat} {oc : Option Nat}

set_option maxRecDepth 100000 in
set_option maxHeartbeats 4000000 in
/-- a payload told -/
theorem fd_tell (O N g c : Nat) (out : List Pk) (h : RdI 3 H s a (some c)) (hout : PkR 3 H O N g out) (hoff : Off O a (some c)) (hN : N ≤ 1000000) :
    ∃ H', RdI 3 H' { s with body := [], wi := false } a none ∧ PkR 3 H' O (N + 1) (g + 1) (out ++ [⟨s.sq, s.nx, s.body⟩]) ∧ Off O a none ∧ H'.length = H.length ∧ H'[c]? = some none ∧ (∀ j, j ≠ 0 → j ≠ O → j ≠ c → H'[j]? = H[j]?) ∧
      ∀ (cd19 cd20 : Code), ((Try.f18.body).bind (codeAt [1, 1, 1, 1, 0, 0, 0, 1, 0, 1, 1, 1, 1, 1, 1, 1, 1, 0, 0])) = some cd19 → ((Try.f18.body).bind (codeAt [1, 1, 1, 1, 0, 0, 0, 1, 0, 1, 1, 1, 1, 1, 1, 1, 1, 0, 1])) = some cd20 → Run X (evT X) 18 mm (.seq cd19 cd20) (fdFr O N g [(106, .bool true)]) H ⟨.normal, fdFr O (N + 1) (g + 1) [], H'⟩ := by
  obtain ⟨⟨vr, vb, τ, hτ, h0, hvr, ⟨⟨off2, gc, τ2, ob, L2, hτ2, rfl, hc, hwc, hl2, hle2, hLb2⟩, c0, ca⟩⟩, a0⟩ := h
  obtain ⟨O0, Oa, Oc⟩ := hoff
  have hcO := Oc c rfl
  have hbl : s.body.length + off2 = L2.length := by rw [← hl2, List.length_drop]; omega
  have htk : (L2.drop off2).take s.body.length = s.body := by rw [hl2, List.take_length]
  obtain ⟨H', q1, q2, q3, qc, r19⟩ := fd_r19 (mm := mm) (s := s) (vr := vr) (τ := τ) O N g out c off2 s.body.length gc τ2 ob L2 h0 hc hwc hτ2 (by omega) (by rw [htk]) hout hN c0 hcO O0
  rw [htk] at q1
  have k0 : H'[0]? = some (some (rdBx s vr (.sl c off2 s.body.length gc) τ)) := by rw [q2 0 (by omega) (by omega)]; exact h0
  have r20 := fd_r20 (mm := mm) (s := s) (vr := vr) (τ := τ) (.sl c off2 s.body.length gc) O (N + 1) (g + 1) k0
  refine ⟨upd H' 0 (some (rdBx { s with wi := false } vr (.ro 0 .pn 0) τ)), ⟨⟨vr, .ro 0 .pn 0, τ, hτ, at_set k0, ?_, 0, .inl rfl, rfl, rfl⟩, a0⟩, q1.keep (by unfold upd; rw [List.getElem?_set_ne (by omega)]), ⟨O0, Oa, fun c hc => by cases hc⟩, by simp [upd, q3], at_ne qc (by omega), fun j h1 h2 h3 => by unfold upd; rw [List.getElem?_set_ne (by omega), q2 j h2 h3], ?_⟩
  · obtain ⟨off, ga, τ1, oa, L, hτ1, e1, ha, hr⟩ := hvr
    exact ⟨off, ga, τ1, oa, L, hτ1, e1, at_ne (by rw [q2 a (Ne.symm Oa) (Ne.symm ca)]; exact ha) (by omega), hr⟩
  · intro cd19 cd20 e19 e20
    exact Run.seq (piece r19 _ e19) (piece r20 _ e20)

set_option maxRecDepth 100000 in
set_option maxHeartbeats 4000000 in
theorem fd_r8 {H1 : AM.Heap} (O N g n : Nat) (e : Int) (hc : evT X 29 [.ptr 0 0 0 0] H = some (.tup [.int .i64 (n : Nat), .int .i64 e], H1)) :
    ∃ code, ((Try.f18.body).bind (codeAt [1, 1, 1, 1, 0, 0, 0, 1, 0, 0])) = some code ∧ Run X (evT X) 18 mm code (fdFr O N g [(32, .bool true)]) H ⟨.normal, fdFr O N g [(7, .int .i64 (n : Nat)), (8, .int .i64 e)], H1⟩ := by
  refine ⟨_, rfl, ?_⟩
  unfold fdFr
  (refine ⟨0, ?_⟩; simp (maxSteps := 2000000) -implicitDefEqProofs [-getElem?_pos, List.getElem?_cons_zero, List.getElem?_cons_succ, go_sem, eqV, plen, loadV, storeV, hc, assignV])

set_option maxRecDepth 100000 in
set_option maxHeartbeats 4000000 in
theorem fd_r9 (O N g n : Nat) (e : Int) :
    ∃ code, ((Try.f18.body).bind (codeAt [1, 1, 1, 1, 0, 0, 0, 1, 0, 1, 0, 0])) = some code ∧ Run X (evT X) 18 mm code (fdFr O N g [(7, .int .i64 (n : Nat)), (8, .int .i64 e)]) H ⟨.normal, fdFr O N g [(7, .int .i64 (n : Nat)), (8, .int .i64 e), (39, .bool (e != 0))], H⟩ := by
  refine ⟨_, rfl, ?_⟩
  unfold fdFr
  by_cases he : e = 0
  · have h1 : (e == 0) = true := by simp [he]
    (refine ⟨0, ?_⟩; simp (maxSteps := 2000000) -implicitDefEqProofs [-getElem?_pos, List.getElem?_cons_zero, List.getElem?_cons_succ, go_sem, eqV, plen, loadV, storeV, h1])
  · have h1 : (e == 0) = false := by simp [he]
    (refine ⟨0, ?_⟩; simp (maxSteps := 2000000) -implicitDefEqProofs [-getElem?_pos, List.getElem?_cons_zero, List.getElem?_cons_succ, go_sem, eqV, plen, loadV, storeV, h1])

end

/-- a body of before is the body still, or gone -/
def Kp (oc0 oc : Option Nat) (H : AM.Heap) : Prop := ∀ c, oc0 = some c → oc = some c ∨ H[c]? = some none
/-- how Feed tells -/
def fdQ (a : Nat) (oc0 : Option Nat) (x : Rd × List Pk × Int) (fr : AM.Frame) (H : AM.Heap) : Prop := ∃ O g oc, getF fr 4 = .sl O 0 x.2.1.length g ∧ getF fr 5 = .int .i64 x.2.2 ∧ RdI 3 H x.1 a oc ∧ PkR 3 H O x.2.1.length g x.2.1 ∧ Off O a oc ∧ Kp oc0 oc H
/-- how the rounds end -/
def fdP (a : Nat) (oc0 : Option Nat) (x : Rd × List Pk × Int) (fr : AM.Frame) (H : AM.Heap) : Prop := ∃ O g oc tl, fr = fdFr O x.2.1.length g tl ∧ (tl = [(32, .bool false)] ∨ ∃ v, tl = [(7, v), (53, .bool true)]) ∧ x.2.2 = 0 ∧ RdI 3 H x.1 a oc ∧ PkR 3 H O x.2.1.length g x.2.1 ∧ Off O a oc ∧ Kp oc0 oc H

set_option maxRecDepth 100000 in
set_option maxHeartbeats 8000000 in
theorem fd_loop {H0 : AM.Heap} (s0 : Rd) (a0 O0 g0 : Nat) (oc0 : Option Nat) (out0 : List Pk) (f0 : Nat) (h0 : RdI 3 H0 s0 a0 oc0) (hout0 : PkR 3 H0 O0 out0.length g0 out0) (hoff0 : Off O0 a0 oc0) (hB0 : FdB s0 out0) (hf0 : s0.rest.length < f0) :
    ∃ code, ((Try.f18.body).bind (codeAt [1, 1, 1, 1, 0])) = some code ∧
      Tells (Or2 (fdP a0 oc0 (fdL f0 s0 out0)) (fun o => o.ex = .ret ∧ fdQ a0 oc0 (fdL f0 s0 out0) o.fr o.H)) X (evT X) 18 mm code (fdFr O0 out0.length g0 []) H0 := by
  refine ⟨_, rfl, ?_⟩
  refine (Tells.blockOr (Q := fun o => o.ex = .ret ∧ fdQ a0 oc0 (fdL f0 s0 out0) o.fr o.H) (P := fdP a0 oc0 (fdL f0 s0 out0)) ?_)
  refine Tells.loopP (fun k fr H => ∃ s O g oc out f tl, k = s.rest.length ∧ fr = fdFr O out.length g tl ∧ (tl = [] ∨ tl = [(106, .bool false)]) ∧ RdI 3 H s a0 oc ∧ PkR 3 H O out.length g out ∧ Off O a0 oc ∧ FdB s out ∧ s.rest.length < f ∧ fdL f0 s0 out0 = fdL f s out ∧ Kp oc0 oc H) ?_ (k := s0.rest.length) ⟨s0, O0, g0, oc0, out0, f0, [], rfl, rfl, .inl rfl, h0, hout0, hoff0, hB0, hf0, rfl, fun c h => .inl h⟩
  have hoc : ∀ c, oc0 = some c → c ≠ 0 ∧ c ≠ a0 := by
    intro c hc
    subst hc
    obtain ⟨⟨_, _, _, _, _, _, hb⟩, _⟩ := h0
    exact ⟨by have := hb.2.1; omega, hb.2.2⟩
  generalize a0 = a at *
  rintro k fr H ⟨s, O, g, oc, out, f, tl, rfl, rfl, htl, h, hout, hoff, hB, hf, hX, hK⟩
  rw [hX]
  obtain ⟨f, rfl⟩ : ∃ f', f = f' + 1 := ⟨f - 1, by omega⟩
  obtain ⟨hBn, hBs⟩ := hB
  apply Tells.assoc
  apply Tells.seq (piece (fd_r7 O out.length g tl htl h) _ rfl)
  by_cases h4 : 4 ≤ s.rest.length
  · rw [show decide (4 ≤ s.rest.length) = true from decide_eq_true h4]
    apply Tells.seq (fr' := fdFr O out.length g [(32, .bool true)]) (H' := H)
    · exact Run.cond (d := true) rfl ⟨0, rfl⟩
    refine Tells.blk ?_ (by
      rintro o (⟨h, _⟩ | ⟨_, ⟨h, _⟩ | ⟨h, _⟩⟩)
      · rw [h]; simp
      · rw [h]; simp
      · rw [h]; simp)
    obtain ⟨H1, hev, h1, hlen1, hk1⟩ := ck_ev h h4 (by omega) (by omega) hBn
    have hout1 := hoff.keep hout hk1
    have hK1 : Kp oc0 oc H1 := by
      intro c hc
      rcases hK c hc with h | hn
      · exact .inl h
      · refine .inr ?_
        obtain ⟨e1, e2⟩ := hoc c hc
        rw [hk1 c e1 e2 (fun c' hc' e => by
          subst hc' e
          obtain ⟨⟨_, _, _, _, _, _, hb⟩, _⟩ := h
          obtain ⟨ob, L, ho, _⟩ := hb.1.ob
          rw [ho] at hn; cases hn)]
        exact hn
    apply Tells.seq (piece (fd_r8 O out.length g _ _ hev) _ rfl)
    apply Tells.assoc
    apply Tells.seq (piece (fd_r9 O out.length g (ckN s) (ckE s)) _ rfl)
    by_cases he : ckE s = 0
    · have hn : ckN s = leV (s.rest.take 3) := by unfold ckN; rw [if_pos he]
      have hlv : leV (s.rest.take 3) < 16777216 := by
        have := leV_lt (s.rest.take 3)
        rw [List.length_take, Nat.min_eq_left (by omega)] at this
        simpa using this
      rw [hn, he]
      obtain ⟨n, hnn⟩ : ∃ n, n = leV (s.rest.take 3) := ⟨_, rfl⟩
      rw [← hnn] at hlv ⊢
      apply Tells.seq (fr' := fdFr O out.length g [(7, .int .i64 (n : Nat)), (8, .int .i64 0), (39, .bool false)]) (H' := H1)
      · exact Run.cond (d := false) rfl ⟨0, rfl⟩
      apply Tells.assoc
      apply Tells.seq (piece (fd_r12 O out.length g n h1 (by omega)) _ rfl)
      by_cases hsh : s.rest.length < 4 + n
      · rw [show decide (s.rest.length < 4 + n) = true from decide_eq_true hsh]
        have hR : fdL (f + 1) s out = (s, out, 0) := by
          rw [fdL, if_neg (by omega), if_neg (by simpa using he), ← hnn, if_pos hsh]
        rw [hR]
        refine Tells.of (o := ⟨.exit 1, fdFr O out.length g [(7, .int .i64 (n : Nat)), (53, .bool true)], H1⟩) (Run.seq_out (Run.cond (d := true) rfl ⟨0, rfl⟩) (by simp)) (.inr ⟨by simp, .inl ⟨rfl, O, g, oc, _, rfl, .inr ⟨_, rfl⟩, rfl, h1, hout1, hoff, hK1⟩⟩)
      rw [show decide (s.rest.length < 4 + n) = false from decide_eq_false hsh]
      apply Tells.seq (fr' := fdFr O out.length g [(7, .int .i64 (n : Nat)), (53, .bool false)]) (H' := H1)
      · exact Run.cond (d := false) rfl ⟨0, rfl⟩
      apply Tells.assoc
      apply Tells.seq (piece (fd_r13 O out.length g n h1) _ rfl)
      obtain ⟨H2, tl2, htl2, h2, hout2, hK2, hlt2, hr2⟩ : ∃ H2 tl2, (tl2 = [] ∨ tl2 = [(58, .bool false)]) ∧ RdI 3 H2 (fdS1 s) a oc ∧ PkR 3 H2 O out.length g out ∧ Kp oc0 oc H2 ∧ (∀ j, H2[j]? = some none → j < H2.length) ∧ ∀ cd14, ((Try.f18.body).bind (codeAt [1, 1, 1, 1, 0, 0, 0, 1, 0, 1, 1, 1, 0, 1, 0])) = some cd14 → Run X (evT X) 18 mm (.cond (.tmp 58) cd14 .skip) (fdFr O out.length g [(7, .int .i64 (n : Nat)), (58, .bool (!s.wi))]) H1 ⟨.normal, fdFr O out.length g ((7, .int .i64 (n : Nat)) :: tl2), H2⟩ := by
        cases hw : s.wi with
        | true =>
          have e1 : fdS1 s = s := by unfold fdS1; rw [if_pos hw]
          refine ⟨H1, [(58, .bool false)], .inr rfl, by rw [e1]; exact h1, hout1, hK1, fun j h => at_lt h, fun cd14 e14 => Run.cond (d := false) rfl ⟨0, rfl⟩⟩
        | false =>
          have e1 : fdS1 s = { s with wi := true, sq := s.nx } := by unfold fdS1; rw [if_neg (by simp [hw])]
          obtain ⟨vr, vb, τ, k0, hb⟩ := h1.box (s' := { s with wi := true, sq := s.nx }) rfl rfl
          refine ⟨_, [], .inl rfl, by rw [e1]; exact hb, hoff.upd0 hout1, fun c hc => (hK1 c hc).imp id (fun h => at_ne h (Ne.symm (hoc c hc).1)), fun j h => at_lt h, fun cd14 e14 => Run.cond (d := true) rfl (piece (fd_r14 O out.length g n k0) _ e14)⟩
      apply Tells.seq (hr2 _ rfl)
      obtain ⟨H3, c, h3, hout3, hoff3, hlen3, hcn, hk3, hr3⟩ := fd_take (mm := mm) O out.length g n tl2 htl2 out h2 hout2 hoff (by rw [fdS1_rest]; omega) (by rw [fdS1_rest]; omega) (by rw [fdS1_body]; omega) (by rw [fdS1_nx]; exact hBn) (fdS1_wi s)
      rw [fdS2_eq] at h3
      have hK3 : Kp oc0 (some c) H3 := by
        intro c' hc
        rcases hK2 c' hc with h | hn
        · rcases hcn with h' | ⟨h', _⟩
          · exact .inl (by rw [← h', h])
          · rw [h'] at h; cases h
        · refine .inr ?_
          rw [hk3 c' (hoc c' hc).1 (fun e => by
            subst e
            obtain ⟨⟨_, _, _, _, _, _, hb⟩, _⟩ := h2
            obtain ⟨ob, L, ho, _⟩ := hb.1.ob
            rw [ho] at hn; cases hn) (hlt2 _ hn)]
          exact hn
      refine hr3 _ _ _ rfl rfl rfl _ _ ?_
      apply Tells.seq (piece (fd_r18 O out.length g n h3) _ rfl)
      have hm2 : (fdS2 s n).m = s.m := fdS1_m s
      rw [hm2]
      have hb2 : (fdS2 s n).body = s.body ++ (s.rest.drop 4).take n := rfl
      have hrr : (fdS2 s n).rest = s.rest.drop (4 + n) := rfl
      have hrl : (fdS2 s n).rest.length = s.rest.length - (4 + n) := by rw [hrr, List.length_drop]
      have hbl : (fdS2 s n).body.length = s.body.length + n := by rw [hb2, List.length_append, List.length_take, List.length_drop]; omega
      have hnx2 : (fdS2 s n).nx < 256 := Nat.mod_lt _ (by omega)
      by_cases hm : n < s.m
      · rw [show decide (n < s.m) = true from decide_eq_true hm]
        obtain ⟨H4, h4, hout4, hoff4, hlen4, hcn4, hk4, hr4⟩ := fd_tell (mm := mm) O out.length g c out h3 hout3 hoff3 (by omega)
        have hR : fdL (f + 1) s out = fdL f { fdS2 s n with body := [], wi := false } (out ++ [⟨(fdS2 s n).sq, (fdS2 s n).nx, (fdS2 s n).body⟩]) := by
          rw [fdL, if_neg (by omega), if_neg (by simpa using he), ← hnn, if_neg hsh, if_pos hm]
        rw [hR]
        have hol : (out ++ [(⟨(fdS2 s n).sq, (fdS2 s n).nx, (fdS2 s n).body⟩ : Pk)]).length = out.length + 1 := by simp
        refine Tells.of (Run.cond (d := true) rfl (hr4 _ _ rfl rfl)) (.inl ⟨rfl, (fdS2 s n).rest.length, by rw [hrl]; omega, { fdS2 s n with body := [], wi := false }, O, g + 1, none, _, f, [], rfl, by rw [hol], .inl rfl, h4, by rw [hol]; exact hout4, hoff4, ⟨hnx2, ?_⟩, ?_, rfl, ?_⟩)
        · rw [hol]
          simp only [List.length_nil]
          rw [hrl]; omega
        · show (fdS2 s n).rest.length < f
          rw [hrl]; omega
        · intro c' hc
          refine .inr ?_
          rcases hK3 c' hc with h | hn
          · obtain rfl := Option.some.inj h
            exact hcn4
          · by_cases e : c' = c
            · rw [e]; exact hcn4
            · show H4[c']? = some none
              rw [hk4 c' (hoc c' hc).1 (fun e2 => by
                subst e2
                obtain ⟨l, ob, τ, _, _, _, ho, _⟩ := hout3
                rw [ho] at hn; cases hn) e]
              exact hn
      · rw [show decide (n < s.m) = false from decide_eq_false hm]
        have hR : fdL (f + 1) s out = fdL f (fdS2 s n) out := by
          rw [fdL, if_neg (by omega), if_neg (by simpa using he), ← hnn, if_neg hsh, if_neg hm]
        rw [hR]
        refine Tells.of (o := ⟨.normal, fdFr O out.length g [(106, .bool false)], H3⟩) (Run.cond (d := false) rfl ⟨0, rfl⟩) (.inl ⟨rfl, (fdS2 s n).rest.length, by rw [hrl]; omega, fdS2 s n, O, g, some c, out, f, _, rfl, rfl, .inr rfl, h3, hout3, hoff3, ⟨hnx2, by rw [hrl, hbl]; omega⟩, by rw [hrl]; omega, rfl, hK3⟩)
    · have hR : fdL (f + 1) s out = ({ s with st := ckE s }, out, ckE s) := by
        rw [fdL, if_neg (by omega), if_pos (by simpa using he)]
      rw [hR]
      rw [show (ckE s != 0) = true by simpa using he]
      obtain ⟨vr, vb, τ, k0, hb⟩ := h1.box (s' := { s with st := ckE s }) rfl rfl
      have r10 := fd_r10 (mm := mm) (s := s) O out.length g (ckE s) vr vb τ [] (.int .i64 (ckN s : Nat)) k0
      generalize hHU : upd H1 0 (some (rdBx { s with st := ckE s } vr vb τ)) = HU at *
      have houtU : PkR 3 HU O out.length g out := by rw [← hHU]; exact hoff.upd0 hout1
      refine Tells.of (o := ⟨.ret, [(4, .sl O 0 out.length g), (5, .int .i64 (ckE s))], HU⟩) (Run.seq_out (Run.cond (d := true) rfl ?_) (by simp)) (.inr ⟨by simp, .inr ⟨rfl, rfl, O, g, oc, rfl, rfl, hb, houtU, hoff, fun c hc => (hK1 c hc).imp id (fun h => by rw [← hHU]; exact at_ne h (Ne.symm (hoc c hc).1))⟩⟩)
      refine Run.seq (piece r10 _ rfl) ⟨0, ?_⟩
      generalize ckE s = e at *
      simp (maxSteps := 2000000) -implicitDefEqProofs [-getElem?_pos, List.getElem?_cons_zero, List.getElem?_cons_succ, go_sem, eqV, plen, loadV, storeV, assignV]
  · rw [show decide (4 ≤ s.rest.length) = false from decide_eq_false h4]
    have hR : fdL (f + 1) s out = (s, out, 0) := by rw [fdL, if_pos (by omega)]
    rw [hR]
    refine Tells.of (o := ⟨.exit 1, fdFr O out.length g [(32, .bool false)], H⟩) (Run.seq_out (Run.cond (d := false) rfl ⟨0, rfl⟩) (by simp)) (.inr ⟨by simp, .inl ⟨rfl, O, g, oc, _, rfl, .inl rfl, rfl, h, hout, hoff, hK⟩⟩)

end Go.Proofs.Ytconnpileacfeaa

/- Walks: a new reader fed. -/
namespace Go.Proofs.Ytconnpileacfeaa
open Go.AM
set_option linter.unusedSimpArgs false
set_option linter.unusedVariables false

section
variable {s : Rd} {m : Nat}

set_option maxRecDepth 100000 in
/-- a reader that there is -/
theorem none_code (vr vb : AV) (E : AM.Heap) (τ : Nat) (h0 : E[0]? = some (some (rdBx s vr vb τ))) (hm : 0 < s.m) : ∃ code, Try.f28.body = some code ∧
    Run X (evT X) 28 m code [(0, .ptr 0 0 0 0)] E ⟨.ret, [(2, .bool false)], E⟩ := by
  refine ⟨_, rfl, 0, ?_⟩
  have h1 : ((s.m : Int) == 0) = false := by simp; omega
  have h2 : s.m ≠ 0 := by omega
  simp (maxSteps := 2000000) -implicitDefEqProofs [-getElem?_pos, List.getElem?_cons_zero, List.getElem?_cons_succ, go_sem, eqV, plen, loadV, storeV, h0, rdBx, Rd.pay, h1, h2, assignV, isNil, nilFor]

end

theorem none_ev {H : AM.Heap} {s : Rd} (h0 : H[0]? = some (some (rdBx s (.ro 0 .pn 3) (.ro 0 .pn 3) 3))) (hm : 0 < s.m) :
    evT X 28 [.ptr 0 0 0 0] H = some (.bool false, H) := by
  have hπ : reach H reachFuel [0] [] = [0] := reach_box h0 (by simp [rdBx, Rd.pay, ids, idsL])
  have hl0 : live H 0 0 = some (rdBx s (.ro 0 .pn 3) (.ro 0 .pn 3) 3) := by simp [live, h0, rdBx]
  have hin0 : intoN H [0] 0 0 = some (0, 0) := by simp [intoN, hl0, idxOf]
  have hat0 : obAt H 0 = some (rdBx s (.ro 0 .pn 3) (.ro 0 .pn 3) 3) := by simp [obAt, h0]
  have hent : ([0].map fun o => (obAt H o).map (renObj (intoN H [0]) (fun _ => 2) 0)) = [some (rdBx s (.ro 0 .pn 2) (.ro 0 .pn 2) 2)] := by
    simp [hat0, renObj, rdBx, Rd.pay, ren, renL]
  generalize hE : [some (rdBx s (.ro 0 .pn 2) (.ro 0 .pn 2) 2)] = E at *
  have hE0 : E[0]? = some (some (rdBx s (.ro 0 .pn 2) (.ro 0 .pn 2) 2)) := by rw [← hE]; rfl
  obtain ⟨code, hcode, hrun⟩ := none_code (s := s) (m := 1) (.ro 0 .pn 2) (.ro 0 .pn 2) E 2 hE0 hm
  have hoE0 : obAt E 0 = some (rdBx s (.ro 0 .pn 2) (.ro 0 .pn 2) 2) := by simp [obAt, hE0]
  have hEv := Ev1.grp (C := X) (f := 28) (H := H) (o := 0) (n := 2) (t := 3) (π := [0]) (new := []) (xs := []) (ys := []) (lents := []) (l := [.bool false]) (evT_below X) Try.func28 hcode rfl hπ hin0 (by rfl) rfl rfl rfl (by simp [gtag])
    (by simp only [List.map_cons, List.map_nil, hat0, tagsObjs, tagsOb, rdBx, tagsRd]; simp [tags, joinTags, joinTag])
    (by rw [hent, par28]; exact hrun) (.inr rfl) rfl
    (by
      have : reach E reachFuel [0] [] = [0] := reach_box hE0 (by simp [rdBx, Rd.pay, ids, idsL])
      show (reach E reachFuel ([0] ++ ids (resultV _)) []).filter _ = []
      rw [show ids (resultV [AV.bool false]) = [] by simp [resultV, noTups, ids, idsL], List.append_nil, this]
      rfl)
    (by simp [resultV, noTups, tags, tagsL])
    (by
      intro k hk ob hob
      rcases hk with hk | hk
      · simp only [List.length_cons, List.length_nil] at hk
        have : k = 0 := by omega
        subst this
        rw [hoE0] at hob; obtain rfl := Option.some.inj hob
        exact ⟨⟨by simp [rdBx, Rd.pay, tags, tagsL], .inr rfl⟩, by simp [rdBx, Rd.pay]⟩
      · cases hk)
  have hbk : bk 2 3 2 = 3 := by simp [bk]
  have hg0 : genBack H [0] 0 0 = 0 := by simp [genBack, hat0, rdBx]
  have hp : putBack (backN H [0] [] E) (bk 2 3) H [0] E 0 [0] H = H := by
    simp only [putBack, hoE0, Option.map_some, renObj, rdBx, Rd.pay, ren, renL, hbk, hg0]
    apply List.ext_getElem?
    intro j
    by_cases hj : j = 0
    · subst hj
      rw [h0]
      unfold upd
      rw [List.getElem?_set_self (at_lt h0)]
      simp [rdBx, Rd.pay]
    · unfold upd
      rw [List.getElem?_set_ne (by omega)]
  have := evT_eq hEv
  rw [hp] at this
  simpa [resultV, noTups, ren, renL] using this

section
variable {s : Rd} (c : Nat) (b : List UInt8)

set_option maxRecDepth 100000 in
set_option maxHeartbeats 4000000 in
/-- a new reader fed -/
theorem feed_code (hs : s.rest = [] ∧ s.body = [] ∧ s.st = 0) (hm : 0 < s.m) (hnx : s.nx < 256) (hc : c = 0 → b = []) (hb : b.length ≤ 900000) : ∃ code, Try.f18.body = some code ∧
    Tells (Rets (fdQ 2 none (fdL (b.length + 1) { s with rest := b } []))) X (evT X) 18 1 code [(0, .ptr 0 0 0 0), (1, .ro c (.pb b) 2)] [some (rdBx s (.ro 0 .pn 3) (.ro 0 .pn 3) 3)] := by
  refine ⟨_, rfl, ?_⟩
  obtain ⟨hs1, hs2, hs3⟩ := hs
  have hn := none_ev (H := [some (rdBx s (.ro 0 .pn 3) (.ro 0 .pn 3) 3), some nilK]) (s := s) rfl hm
  apply Tells.seq (fr' := [(0, .ptr 0 0 0 0), (1, .ro c (.pb b) 2)]) (H' := [some (rdBx s (.ro 0 .pn 3) (.ro 0 .pn 3) 3), some nilK])
  · (refine ⟨0, ?_⟩; simp (maxSteps := 2000000) -implicitDefEqProofs [-getElem?_pos, List.getElem?_cons_zero, List.getElem?_cons_succ, go_sem, eqV, plen, loadV, storeV, assignV, emK])
  apply Tells.seq (fr' := [(0, .ptr 0 0 0 0), (1, .ro c (.pb b) 2), (12, .bool false)]) (H' := [some (rdBx s (.ro 0 .pn 3) (.ro 0 .pn 3) 3), some nilK])
  · refine ⟨0, ?_⟩
    simp only [rdBx, Rd.pay, hs3] at hn ⊢
    simp (maxSteps := 2000000) -implicitDefEqProofs [-getElem?_pos, List.getElem?_cons_zero, List.getElem?_cons_succ, go_sem, eqV, plen, loadV, storeV, hn]
  have hA : appendV X [some (rdBx s (.ro 0 .pn 3) (.ro 0 .pn 3) 3), some nilK] 22 (.ro 0 .pn 3) (.ro c (.pb b) 2) = some (.sl 2 0 b.length 0, [some (rdBx s (.ro 0 .pn 3) (.ro 0 .pn 3) 3), some nilK, some ⟨.pb b, 0, .none, 0, true, false, 0⟩]) := by
    have hroom : roomOk X 5 b.length = true := by simp [roomOk]; omega
    have hsrc : srcV [some (rdBx s (.ro 0 .pn 3) (.ro 0 .pn 3) 3), some nilK] (.ro c (.pb b) 2) = some (.pb b, 0) := by simp [srcV, payB, ptag]
    simp only [appendV, und22, size5, zok5, hsrc]
    simp [payB, plen, hroom, papp, emptyRow, pesz]
  apply Tells.seq (fr' := [(0, .ptr 0 0 0 0)]) (H' := [some (rdBx s (.sl 2 0 b.length 0) (.ro 0 .pn 3) 3), some nilK, some ⟨.pb b, 0, .none, 0, true, false, 0⟩])
  · simp only [rdBx, Rd.pay] at hA ⊢
    (refine ⟨0, ?_⟩; simp (maxSteps := 2000000) -implicitDefEqProofs [-getElem?_pos, List.getElem?_cons_zero, List.getElem?_cons_succ, go_sem, eqV, plen, loadV, storeV, hA])
  apply Tells.seq (fr' := fdFr 3 ([] : List Pk).length 0 []) (H' := [some (rdBx s (.sl 2 0 b.length 0) (.ro 0 .pn 3) 3), some nilK, some ⟨.pb b, 0, .none, 0, true, false, 0⟩, some nilK])
  · unfold fdFr
    (refine ⟨0, ?_⟩; simp (maxSteps := 2000000) -implicitDefEqProofs [-getElem?_pos, List.getElem?_cons_zero, List.getElem?_cons_succ, go_sem, eqV, plen, loadV, storeV, assignV, emK])
  apply Tells.or (P := fdP 2 none (fdL (b.length + 1) { s with rest := b } []))
  · refine (piece (fd_loop (H0 := [some (rdBx s (.sl 2 0 b.length 0) (.ro 0 .pn 3) 3), some nilK, some ⟨.pb b, 0, .none, 0, true, false, 0⟩, some nilK]) { s with rest := b } 2 3 0 none [] (b.length + 1) ⟨⟨_, _, 3, .inr rfl, rfl, ⟨0, 0, 0, _, b, .inl rfl, rfl, rfl, ⟨rfl, rfl, rfl, rfl, rfl⟩, rfl, by omega, by omega⟩, 3, .inr rfl, rfl, hs2⟩, by omega⟩ ⟨[], nilK, 0, .inl rfl, trivial, rfl, rfl, ⟨rfl, rfl, rfl, rfl, rfl⟩⟩ ⟨by omega, by omega, fun c hc => by cases hc⟩ ⟨hnx, by simp [hs2]; omega⟩ (by simp)) _ rfl).mono ?_
    rintro o (h | ⟨h1, h2⟩)
    · exact .inl h
    · exact .inr ⟨by rw [h2.1]; simp, h2.1, h2.2⟩
  rintro fr H ⟨O, g, oc, tl, rfl, htl, he, h1, h2, h3, h4⟩
  refine Tells.of (o := ⟨.ret, [(4, .sl O 0 (fdL (b.length + 1) { s with rest := b } []).2.1.length g), (5, .int .i64 0)], H⟩) ⟨0, ?_⟩ ⟨rfl, O, g, oc, rfl, by rw [he]; rfl, h1, h2, h3, h4⟩
  generalize (fdL (b.length + 1) { s with rest := b } []).2.1.length = N
  unfold fdFr
  rcases htl with rfl | ⟨v, rfl⟩
  · simp (maxSteps := 2000000) -implicitDefEqProofs [-getElem?_pos, List.getElem?_cons_zero, List.getElem?_cons_succ, go_sem, eqV, plen, loadV, storeV, assignV]
  · simp (maxSteps := 2000000) -implicitDefEqProofs [-getElem?_pos, List.getElem?_cons_zero, List.getElem?_cons_succ, go_sem, eqV, plen, loadV, storeV, assignV]

end

end Go.Proofs.Ytconnpileacfeaa

/- Events: a new reader fed. -/
namespace Go.Proofs.Ytconnpileacfeaa
open Go.AM
set_option linter.unusedSimpArgs false
set_option linter.unusedVariables false

theorem pkL_ids {t : Nat} : ∀ {l : List Pk} {m : List AV}, PkL t l m → idsL m = []
  | [], [], _ => rfl
  | p :: r, v :: l, h => by
    obtain ⟨⟨cb, τ, _, _, _, rfl⟩, h⟩ := h
    simp [idsL, ids, pkL_ids h]
  | [], _ :: _, h => h.elim
  | _ :: _, [], h => h.elim
theorem pkL_tags {t : Nat} : ∀ {l : List Pk} {m : List AV}, PkL t l m → ∀ k ∈ tagsL m, k = 0 ∨ k = t
  | [], [], _, k, hk => by simp [tagsL] at hk
  | p :: r, v :: l, h, k, hk => by
    obtain ⟨⟨cb, τ, hτ, _, _, rfl⟩, h⟩ := h
    simp only [tagsL, tags, List.append_nil, List.nil_append, List.mem_append, List.mem_cons, List.not_mem_nil, or_false] at hk
    rcases hk with hk | hk
    · rw [hk]; exact hτ
    · exact pkL_tags h k hk
  | [], _ :: _, h, _, _ => h.elim
  | _ :: _, [], h, _, _ => h.elim
theorem pkL_ren {t t2 : Nat} {ρ : Nat → Nat → Option (Nat × Nat)} {τ : Nat → Nat} (h0 : τ 0 = 0 ∨ τ 0 = t2) (ht : τ t = 0 ∨ τ t = t2) : ∀ {l : List Pk} {m : List AV}, PkL t l m → PkL t2 l (renL ρ τ m)
  | [], [], _ => trivial
  | p :: r, v :: l, h => by
    obtain ⟨⟨cb, τ1, hτ, h1, h2, rfl⟩, h⟩ := h
    refine ⟨⟨cb, τ τ1, ?_, h1, h2, ?_⟩, pkL_ren h0 ht h⟩
    · rcases hτ with rfl | rfl
      · exact h0
      · exact ht
    · simp [ren, renL]
  | [], _ :: _, h => h.elim
  | _ :: _, [], h => h.elim

theorem reachF1 {E : AM.Heap} {O a : Nat} {ob oa oo : AM.Obj} (h0 : E[0]? = some (some ob)) (hi : ob.ids = true) (hid : ids ob.p = [a]) (ha : E[a]? = some (some oa)) (hai : oa.ids = false) (hO : E[O]? = some (some oo)) (hOi : oo.ids = false) (a0 : 0 < a) (O0 : 0 < O) (Oa : O ≠ a) : reach E reachFuel [0, O] [] = [0, a, O] := by
  show reach E (99995 + 1 + 1 + 1 + 1 + 1) [0, O] [] = [0, a, O]
  have e1 : a ≠ 0 := by omega
  have e2 : O ≠ 0 := by omega
  simp [reach, h0, hi, hid, ha, hai, hO, hOi, e1, e2, Oa]
theorem reachF2 {E : AM.Heap} {O a c : Nat} {ob oa oc oo : AM.Obj} (h0 : E[0]? = some (some ob)) (hi : ob.ids = true) (hid : ids ob.p = [a, c]) (ha : E[a]? = some (some oa)) (hai : oa.ids = false) (hc : E[c]? = some (some oc)) (hci : oc.ids = false) (hO : E[O]? = some (some oo)) (hOi : oo.ids = false) (a0 : 0 < a) (c0 : 0 < c) (ca : c ≠ a) (O0 : 0 < O) (Oa : O ≠ a) (Oc : c ≠ O) : reach E reachFuel [0, O] [] = [0, a, c, O] := by
  show reach E (99994 + 1 + 1 + 1 + 1 + 1 + 1) [0, O] [] = [0, a, c, O]
  have e1 : a ≠ 0 := by omega
  have e2 : O ≠ 0 := by omega
  have e3 : c ≠ 0 := by omega
  simp [reach, h0, hi, hid, ha, hai, hc, hci, hO, hOi, e1, e2, e3, ca, Oa, Ne.symm Oc]

/-- what lies behind a reader, and payloads, can be brought back -/
def NewOk (E : AM.Heap) (O : Nat) : Prop := ∃ new, (reach E reachFuel [0, O] []).filter (fun o => decide (1 ≤ o)) = new ∧ (∃ i, ∀ k, idxOf new O k = some (k + i) ∧ new[i]? = some O) ∧ ∀ k, (k < 1 ∨ k ∈ new) → ∀ ob, obAt E k = some ob → okTags 3 ob ∧ ∀ l, ob.p ≠ .pm l
/-- payloads told, an error told -/
def rfQ (x : List Pk × Int) (fr : AM.Frame) (E : AM.Heap) : Prop := ∃ O g, getF fr 4 = .sl O 0 x.1.length g ∧ getF fr 5 = .int .i64 x.2 ∧ PkR 3 E O x.1.length g x.1 ∧ 0 < O ∧ NewOk E O

/-- what lies behind a reader that told payloads -/
theorem RdI.new {E : AM.Heap} {s : Rd} {a O N g : Nat} {oc : Option Nat} {out : List Pk} (h : RdI 3 E s a oc) (hout : PkR 3 E O N g out) (hoff : Off O a oc) :
    NewOk E O := by
  show ∃ new, (reach E reachFuel [0, O] []).filter (fun o => decide (1 ≤ o)) = new ∧ (∃ i, ∀ k, idxOf new O k = some (k + i) ∧ new[i]? = some O) ∧ ∀ k, (k < 1 ∨ k ∈ new) → ∀ ob, obAt E k = some ob → okTags 3 ob ∧ ∀ l, ob.p ≠ .pm l
  obtain ⟨⟨vr, vb, τ, hτ, h0, hr, hb⟩, a0⟩ := h
  obtain ⟨oa, L, ha, hai, hap, hat, hvi, hvt⟩ := hr.ob
  obtain ⟨l, oo, τo, hτo, hf, hN, ho, hw⟩ := hout
  obtain ⟨O0, Oa, Oc⟩ := hoff
  have okO : okTags 3 oo ∧ ∀ l, oo.p ≠ .pm l := ⟨⟨by rw [hw.p]; exact pkL_tags hf, by rw [hw.tg]; exact hτo⟩, by rw [hw.p]; simp⟩
  have oka : okTags 3 oa ∧ ∀ l, oa.p ≠ .pm l := ⟨⟨by rw [hap]; simp [tags], hat⟩, by rw [hap]; simp⟩
  cases oc with
  | none =>
    obtain ⟨τb, hτb, rfl, _⟩ := hb
    have hR := reachF1 (O := O) h0 rfl (by show ids (s.pay _ _) = _; rw [idsRd, hvi]; simp [ids]) ha hai ho hw.ids a0 O0 Oa
    refine ⟨[a, O], ?_, ⟨1, fun k => ⟨?_, rfl⟩⟩, ?_⟩
    · rw [hR]
      simp [show 1 ≤ a from a0, show 1 ≤ O from O0]
    · simp [idxOf, Ne.symm Oa]
    · intro k hk ob hob
      rcases hk with hk | hk
      · have : k = 0 := by omega
        subst this
        simp only [obAt, h0, Option.join_some, Option.some.injEq] at hob
        have hob : rdBx s vr (.ro 0 .pn τb) τ = ob := by simpa using hob
        subst hob
        exact ⟨⟨by show ∀ t ∈ tags (s.pay _ _), _; rw [tagsRd, hvt]; simp [tags]; exact hτb, hτ⟩, by simp [rdBx, Rd.pay]⟩
      · simp only [List.mem_cons, List.not_mem_nil, or_false] at hk
        rcases hk with rfl | rfl
        · have hob : oa = ob := by simpa [obAt, ha] using hob
          rw [← hob]; exact oka
        · have hob : oo = ob := by simpa [obAt, ho] using hob
          rw [← hob]; exact okO
  | some c =>
    obtain ⟨hbo, c0, ca⟩ := hb
    obtain ⟨ob2, L2, hc, hci, hcp, hct, hci2, hct2⟩ := hbo.ob
    have okc : okTags 3 ob2 ∧ ∀ l, ob2.p ≠ .pm l := ⟨⟨by rw [hcp]; simp [tags], hct⟩, by rw [hcp]; simp⟩
    have hcO := Oc c rfl
    have hR := reachF2 (O := O) h0 rfl (by show ids (s.pay _ _) = _; rw [idsRd, hvi, hci2]; rfl) ha hai hc hci ho hw.ids a0 c0 ca O0 Oa hcO
    refine ⟨[a, c, O], ?_, ⟨2, fun k => ⟨?_, rfl⟩⟩, ?_⟩
    · rw [hR]
      simp [show 1 ≤ a from a0, show 1 ≤ O from O0, show 1 ≤ c from c0]
    · simp [idxOf, Ne.symm Oa, hcO]
    · intro k hk ob hob
      rcases hk with hk | hk
      · have : k = 0 := by omega
        subst this
        have hob : rdBx s vr vb τ = ob := by simpa [obAt, h0] using hob
        subst hob
        exact ⟨⟨by show ∀ t ∈ tags (s.pay _ _), _; rw [tagsRd, hvt, hct2]; simp, hτ⟩, by simp [rdBx, Rd.pay]⟩
      · simp only [List.mem_cons, List.not_mem_nil, or_false] at hk
        rcases hk with rfl | rfl | rfl
        · have hob : oa = ob := by simpa [obAt, ha] using hob
          rw [← hob]; exact oka
        · have hob : ob2 = ob := by simpa [obAt, hc] using hob
          rw [← hob]; exact okc
        · have hob : oo = ob := by simpa [obAt, ho] using hob
          rw [← hob]; exact okO

/-- a reader emptied, behind it payloads -/
theorem emptyNew {E : AM.Heap} {s : Rd} {O N g τ : Nat} {out : List Pk} (hτ : τ = 0 ∨ τ = 3) (h0 : E[0]? = some (some (rdBx s (.ro 0 .pn 0) (.ro 0 .pn 0) τ))) (hout : PkR 3 E O N g out) (O0 : 0 < O) : NewOk E O := by
  obtain ⟨l, oo, τo, hτo, hf, hN, ho, hw⟩ := hout
  have hR : reach E reachFuel [0, O] [] = [0, O] := reach_box2 h0 (by simp [rdBx, Rd.pay, ids, idsL]) ho (by rw [hw.p]; show idsL l = []; exact pkL_ids hf) (by omega)
  refine ⟨[O], ?_, ⟨0, fun k => ⟨by simp [idxOf], rfl⟩⟩, ?_⟩
  · rw [hR]
    simp [show 1 ≤ O from O0]
  · intro k hk ob hob
    rcases hk with hk | hk
    · have : k = 0 := by omega
      subst this
      have hob : rdBx s (.ro 0 .pn 0) (.ro 0 .pn 0) τ = ob := by simpa [obAt, h0] using hob
      subst hob
      exact ⟨⟨by show ∀ t ∈ tags (s.pay _ _), _; rw [tagsRd]; simp [tags], hτ⟩, by simp [rdBx, Rd.pay]⟩
    · simp only [List.mem_cons, List.not_mem_nil, or_false] at hk
      subst hk
      have hob : oo = ob := by simpa [obAt, ho] using hob
      subst hob
      exact ⟨⟨by rw [hw.p]; exact pkL_tags hf, by rw [hw.tg]; exact hτo⟩, by rw [hw.p]; simp⟩

set_option maxHeartbeats 4000000 in
/-- a new reader fed, from outside -/
theorem fresh_ev {f : Nat} {fn : Func} {code : Code} {H : AM.Heap} {o c t : Nat} {b : List UInt8} {s : Rd} {x : List Pk × Int} (hF : X.P.funcs[f]? = some fn) (hcode : fn.body = some code) (hrw : X.rw f 0 = false)
    (hl : lendArgs X f H 1 [.ro c (.pb b) t] = some ([.ro c (.pb b) 2], [⟨[], [t]⟩]))
    (hpar : numbered 0 (coerce X [.ptr 0 0 0 0, .ro c (.pb b) 2] (paramsOf X f)) = [(0, .ptr 0 0 0 0), (1, .ro c (.pb b) 2)])
    (hres : ∀ fr H, resultsV X fr H fn.results.toList = some [getF fr 4, getF fr 5])
    (hrun : Tells (Rets (rfQ x)) X (evT X) f 1 code [(0, .ptr 0 0 0 0), (1, .ro c (.pb b) 2)] [some (rdBx s (.ro 0 .pn 3) (.ro 0 .pn 3) 3)])
    (ho : H[o]? = some (some (rdBx s (.ro 0 .pn 0) (.ro 0 .pn 0) 0))) :
    ∃ O H', evT X f [.ptr o 0 0 0, .ro c (.pb b) t] H = some (.tup [.sl O 0 x.1.length 0, .int .i64 x.2], H') ∧ PkR 0 H' O x.1.length 0 x.1 ∧ H.length ≤ O ∧ H.length ≤ H'.length ∧ ∀ j, j < H.length → j ≠ o → H'[j]? = H[j]? := by
  have hπ : reach H reachFuel [o] [] = [o] := reach_box ho (by simp [rdBx, Rd.pay, ids, idsL])
  have hl0 : live H o 0 = some (rdBx s (.ro 0 .pn 0) (.ro 0 .pn 0) 0) := by simp [live, ho, rdBx]
  have hin0 : intoN H [o] o 0 = some (0, 0) := by simp [intoN, hl0, idxOf]
  have hat0 : obAt H o = some (rdBx s (.ro 0 .pn 0) (.ro 0 .pn 0) 0) := by simp [obAt, ho]
  have hent : ([o].map fun o' => (obAt H o').map (renObj (intoN H [o]) (fun _ => 3) 0)) = [some (rdBx s (.ro 0 .pn 3) (.ro 0 .pn 3) 3)] := by
    simp [hat0, renObj, rdBx, Rd.pay, ren, renL]
  obtain ⟨⟨ex, fr, E⟩, ⟨he, O, g, q4, q5, hout, hoffO, new, hnew, ⟨i, hidx⟩, hu2⟩, hr⟩ := hrun
  simp only at he q4 q5 hout hnew hidx hu2
  subst he
  obtain ⟨l, oo, τo, hτo, hf, hN, hO, hw⟩ := hout
  have hEv := Ev1.grp (C := X) (f := f) (H := H) (o := o) (n := 3) (t := 0) (π := [o]) (new := new) (xs := [.ro c (.pb b) t]) (ys := [.ro c (.pb b) 2]) (lents := [⟨[], [t]⟩]) (l := [.sl O 0 x.1.length g, .int .i64 x.2]) (evT_below X) hF hcode hrw hπ hin0 hl (by simp [idsL, ids]) (by simp [disjoint]) rfl (by simp [gtag])
    (by simp only [List.map_cons, List.map_nil, hat0, tagsObjs, tagsOb, rdBx, tagsRd]; simp [tags, joinTags, joinTag])
    (by rw [hent, hpar]; exact hr) (.inr rfl) (by rw [hres, q4, q5])
    (by
      show (reach E reachFuel ([0] ++ ids (resultV _)) []).filter _ = new
      rw [show ids (resultV [AV.sl O 0 x.1.length g, .int .i64 x.2]) = [O] by simp [resultV, noTups, ids, idsL]]
      exact hnew)
    (by simp [resultV, noTups, tags, tagsL])
    (by
      intro k hk ob hob
      exact hu2 k (by simpa using hk) ob hob)
  have hlO : live E O g = some oo := by simp [live, hO, hw.g]
  have hbO : backN H [o] new E O g = some (H.length + i, 0) := by
    unfold backN; rw [hlO]
    simp only [List.length_cons, List.length_nil]
    rw [if_neg (by omega), (hidx H.length).1]; rfl
  have hobO : obAt E O = some oo := by simp [obAt, hO]
  refine ⟨H.length + i, _, evT_eq (by simpa [resultV, noTups, ren, renL, hbO] using hEv), ?_, by omega, by rw [List.length_append, putBack_length]; omega, ?_⟩
  · refine ⟨renL (backN H [o] new E) (bk 3 0) l, renObj (backN H [o] new E) (bk 3 0) 0 oo, 0, .inl rfl, pkL_ren (.inl (by simp [bk])) (.inl (by simp [bk])) hf, rfl, ?_, ?_⟩
    · rw [List.getElem?_append_right (by rw [putBack_length]; omega), putBack_length, Nat.add_sub_cancel_left, List.getElem?_map, (hidx 0).2]
      simp [hobO]
    · exact ⟨by simp [renObj, hw.p, ren], rfl, hw.row, hw.ids, by simp [renObj, bk]⟩
  · intro j hj hjo
    rw [List.getElem?_append_left (by rw [putBack_length]; exact hj), putBack_ne _ _ _ (by simp [hjo])]

theorem feed_ev {H : AM.Heap} {o c t : Nat} {b : List UInt8} {s : Rd} (hs : s.rest = [] ∧ s.body = [] ∧ s.st = 0) (hm : 0 < s.m) (hnx : s.nx < 256) (hc : c = 0 → b = []) (hb : b.length ≤ 900000) (ho : H[o]? = some (some (rdBx s (.ro 0 .pn 0) (.ro 0 .pn 0) 0))) :
    ∃ O H', evT X 18 [.ptr o 0 0 0, .ro c (.pb b) t] H = some (.tup [.sl O 0 (fdL (b.length + 1) { s with rest := b } []).2.1.length 0, .int .i64 (fdL (b.length + 1) { s with rest := b } []).2.2], H') ∧ PkR 0 H' O (fdL (b.length + 1) { s with rest := b } []).2.1.length 0 (fdL (b.length + 1) { s with rest := b } []).2.1 ∧ H.length ≤ O ∧ H.length ≤ H'.length ∧ ∀ j, j < H.length → j ≠ o → H'[j]? = H[j]? := by
  obtain ⟨code, hcode, hr⟩ := feed_code c b hs hm hnx hc hb
  exact fresh_ev Try.func18 hcode rfl rfl (by rw [par18]; rfl) (fun _ _ => rfl) (hr.mono (by
    rintro o ⟨he, O, g, oc, q4, q5, hI, hout, hoff, _⟩
    exact ⟨he, O, g, q4, q5, hout, hoff.1, hI.new hout hoff⟩)) ho

end Go.Proofs.Ytconnpileacfeaa

/- Structures: a reader that a caller holds; looked at. -/
namespace Go.Proofs.Ytconnpileacfeaa
open Go.AM
set_option linter.unusedSimpArgs false
set_option linter.unusedVariables false

/-- a slice of a reader: none, or an object's end -/
def SlC (t : Nat) (H : AM.Heap) (o : Nat) (oa : Option Nat) (v : AV) (l : List UInt8) : Prop := match oa with
  | none => SlN t v l
  | some a => SlO t H a v l ∧ a ≠ o
/-- a reader at o -/
structure RdC (t : Nat) (H : AM.Heap) (o : Nat) (s : Rd) (oa oc : Option Nat) : Prop where
  bx : ∃ vr vb τ, (τ = 0 ∨ τ = t) ∧ H[o]? = some (some (rdBx s vr vb τ)) ∧ SlC t H o oa vr s.rest ∧ SlC t H o oc vb s.body
  ne : ∀ a c, oa = some a → oc = some c → a ≠ c
  fr : oa = none → oc = none

theorem RdC.rdI {t : Nat} {H : AM.Heap} {s : Rd} {a : Nat} {oc : Option Nat} (h : RdC t H 0 s (some a) oc) : RdI t H s a oc := by
  obtain ⟨⟨vr, vb, τ, hτ, h0, hr, hb⟩, hne, _⟩ := h
  refine ⟨⟨vr, vb, τ, hτ, h0, hr.1, ?_⟩, by have := hr.2; omega⟩
  cases oc with
  | none => exact hb
  | some c => exact ⟨hb.1, by have := hb.2; omega, Ne.symm (hne a c rfl rfl)⟩
theorem RdI.rdC {t : Nat} {H : AM.Heap} {s : Rd} {a : Nat} {oc : Option Nat} (h : RdI t H s a oc) : RdC t H 0 s (some a) oc := by
  obtain ⟨⟨vr, vb, τ, hτ, h0, hr, hb⟩, a0⟩ := h
  refine ⟨⟨vr, vb, τ, hτ, h0, ⟨hr, by omega⟩, ?_⟩, ?_, fun h => by cases h⟩
  · cases oc with
    | none => exact hb
    | some c => exact ⟨hb.1, by have := hb.2.1; omega⟩
  · intro a' c h1 h2
    obtain rfl := Option.some.inj h1
    subst h2
    exact Ne.symm hb.2.2

theorem SlC.ob {t : Nat} {H : AM.Heap} {o : Nat} {oa : Option Nat} {v : AV} {l : List UInt8} (h : SlC t H o oa v l) : ids v = oa.toList ∧ (∀ k ∈ tags v, k = 0 ∨ k = t) ∧ (∀ a, oa = some a → ∃ ob L, H[a]? = some (some ob) ∧ ob.ids = false ∧ ob.p = .pb L ∧ (ob.tg = 0 ∨ ob.tg = t)) := by
  cases oa with
  | none =>
    obtain ⟨τ, hτ, rfl, _⟩ := h
    exact ⟨by simp [ids], by simpa [tags] using hτ, fun a h => by cases h⟩
  | some a =>
    obtain ⟨ob, L, h1, h2, h3, h4, h5, h6⟩ := h.1.ob
    exact ⟨by rw [h5]; rfl, by rw [h6]; simp, fun a' h => by cases h; exact ⟨ob, L, h1, h2, h3, h4⟩⟩

/-- a slice renamed -/
theorem SlC.ren {t t2 : Nat} {H H' : AM.Heap} {o o2 : Nat} {oa oa2 : Option Nat} {v : AV} {l : List UInt8} {ρ : Nat → Nat → Option (Nat × Nat)} {τ : Nat → Nat} (h : SlC t H o oa v l) (h0 : τ 0 = 0 ∨ τ 0 = t2) (ht : τ t = 0 ∨ τ t = t2)
    (hn : oa = none → oa2 = none) (hs : ∀ a ob, oa = some a → H[a]? = some (some ob) → ∃ a2 g2, oa2 = some a2 ∧ a2 ≠ o2 ∧ ρ a ob.g = some (a2, g2) ∧ H'[a2]? = some (some (renObj ρ τ g2 ob))) : SlC t2 H' o2 oa2 (AM.ren ρ τ v) l := by
  have hk : ∀ k, (k = 0 ∨ k = t) → τ k = 0 ∨ τ k = t2 := by
    rintro k (rfl | rfl)
    · exact h0
    · exact ht
  cases oa with
  | none =>
    rw [hn rfl]
    obtain ⟨k, hk', rfl, hl⟩ := h
    exact ⟨τ k, hk k hk', by simp [AM.ren], hl⟩
  | some a =>
    obtain ⟨⟨off, g, k, ob, L, hk', rfl, ho, hw, h1, h2, h3⟩, hne⟩ := h
    obtain ⟨a2, g2, rfl, hne2, hρ, ho2⟩ := hs a ob rfl ho
    rw [hw.g] at hρ
    refine ⟨⟨off, g2, τ k, renObj ρ τ g2 ob, L, hk k hk', by simp [AM.ren, hρ], ho2, ⟨by simp [renObj, hw.p, AM.ren], rfl, hw.row, hw.ids, by simp [renObj, hw.tg]⟩, h1, h2, h3⟩, hne2⟩

/-- a reader renamed -/
theorem RdC.ren {t t2 : Nat} {H H' : AM.Heap} {o o2 g2 : Nat} {s : Rd} {oa oa2 oc oc2 : Option Nat} {ρ : Nat → Nat → Option (Nat × Nat)} {τ : Nat → Nat} {ob : AM.Obj} (h : RdC t H o s oa oc) (h0 : τ 0 = 0 ∨ τ 0 = t2) (ht : τ t = 0 ∨ τ t = t2)
    (hob : H[o]? = some (some ob)) (ho2 : H'[o2]? = some (some (renObj ρ τ g2 ob))) (hg2 : g2 = 0)
    (hna : oa = none → oa2 = none) (hsa : ∀ a ob, oa = some a → H[a]? = some (some ob) → ∃ a2 g2, oa2 = some a2 ∧ a2 ≠ o2 ∧ ρ a ob.g = some (a2, g2) ∧ H'[a2]? = some (some (renObj ρ τ g2 ob)))
    (hnc : oc = none → oc2 = none) (hsc : ∀ a ob, oc = some a → H[a]? = some (some ob) → ∃ a2 g2, oc2 = some a2 ∧ a2 ≠ o2 ∧ ρ a ob.g = some (a2, g2) ∧ H'[a2]? = some (some (renObj ρ τ g2 ob)))
    (hne : ∀ a c, oa2 = some a → oc2 = some c → a ≠ c) : RdC t2 H' o2 s oa2 oc2 := by
  obtain ⟨⟨vr, vb, k, hk, hbx, hr, hb⟩, _, hfr⟩ := h
  rw [hob] at hbx
  obtain rfl := Option.some.inj (Option.some.inj hbx)
  subst hg2
  refine ⟨⟨AM.ren ρ τ vr, AM.ren ρ τ vb, τ k, ?_, ?_, hr.ren h0 ht hna hsa, hb.ren h0 ht hnc hsc⟩, hne, ?_⟩
  · rcases hk with rfl | rfl
    · exact h0
    · exact ht
  · rw [ho2]; simp [renObj, rdBx, Rd.pay, AM.ren, renL]
  · intro h
    cases oa with
    | none => exact hnc (hfr rfl)
    | some a =>
      obtain ⟨ob, L, h1, _⟩ := hr.ob.2.2 a rfl
      obtain ⟨a2, _, e, _⟩ := hsa a ob rfl h1
      rw [h] at e; cases e

/-- the objects of a reader -/
def rdπ (o : Nat) (oa oc : Option Nat) : List Nat := o :: (oa.toList ++ oc.toList)

theorem RdC.into {t n : Nat} {H : AM.Heap} {o : Nat} {s : Rd} {oa oc : Option Nat} (h : RdC t H o s oa oc) :
    reach H reachFuel [o] [] = rdπ o oa oc ∧ (rdπ o oa oc).Nodup ∧ (∀ x ∈ rdπ o oa oc, x < H.length) ∧ intoN H (rdπ o oa oc) o 0 = some (0, 0) ∧ (∃ t', joinTags (tagsObjs ((rdπ o oa oc).map (obAt H))) = some t' ∧ (t' = 0 ∨ t' = t)) ∧
      RdC n ((rdπ o oa oc).map fun o' => (obAt H o').map (renObj (intoN H (rdπ o oa oc)) (fun _ => n) 0)) 0 s (oa.map fun _ => 1) (oc.map fun _ => 2) := by
  obtain ⟨⟨vr, vb, τ, hτ, h0, hr, hb⟩, hne, hfr⟩ := id h
  obtain ⟨ri, rt, ro⟩ := hr.ob
  obtain ⟨bi, bt, bo⟩ := hb.ob
  have hl0 : live H o 0 = some (rdBx s vr vb τ) := by simp [live, h0, rdBx]
  have hat0 : obAt H o = some (rdBx s vr vb τ) := by simp [obAt, h0]
  have hin0 : ∀ l, intoN H (o :: l) o 0 = some (0, 0) := fun l => by simp [intoN, hl0, idxOf]
  have hpid : ids (rdBx s vr vb τ).p = oa.toList ++ oc.toList := by show ids (s.pay _ _) = _; rw [idsRd, ri, bi]
  have joinall : ∀ l : List Nat, (∀ k ∈ l, k = 0 ∨ k = t) → ∃ t', joinTags l = some t' ∧ (t' = 0 ∨ t' = t) := by
    intro l
    induction l with
    | nil => intro _; exact ⟨0, rfl, .inl rfl⟩
    | cons k r ih =>
      intro hl
      obtain ⟨t', h1, h2⟩ := ih fun k hk => hl k (List.mem_cons_of_mem _ hk)
      obtain ⟨t3, h3, h4⟩ := joinTag2 (hl k (by simp)) h2
      exact ⟨t3, by simp [joinTags, h1, h4], h3⟩
  have htg0 : ∀ k ∈ tagsOb (rdBx s vr vb τ), k = 0 ∨ k = t := by
    intro k hk
    have : k ∈ tags (s.pay vr vb) := by simpa [tagsOb, rdBx] using hk
    rw [tagsRd, List.mem_append] at this
    exact this.elim (rt k) (bt k)
  cases oa with
  | none =>
    obtain rfl := hfr rfl
    have hπ : rdπ o none none = [o] := rfl
    rw [hπ]
    refine ⟨reach_box h0 (by rw [hpid]; rfl), by simp, by simpa using at_lt h0, hin0 _, ?_, ?_⟩
    · refine joinall _ ?_
      simp only [List.map_cons, List.map_nil, hat0, tagsObjs, List.append_nil]
      exact htg0
    · refine h.ren (.inr rfl) (.inr rfl) h0 (g2 := 0) (by simp [hat0]; rfl) rfl (fun h => by rfl) (fun a ob h => by cases h) (fun h => by rfl) (fun a ob h => by cases h) (fun a c h => by cases h)
  | some a =>
    obtain ⟨oba, L, ha, hai, hap, hat⟩ := ro a rfl
    have hao : a ≠ o := hr.2
    have hata : obAt H a = some oba := by simp [obAt, ha]
    have htga : ∀ k ∈ tagsOb oba, k = 0 ∨ k = t := by
      intro k hk
      have : k = oba.tg := by simpa [tagsOb, hai, hap] using hk
      rw [this]; exact hat
    cases oc with
    | none =>
      have hπ : rdπ o (some a) none = [o, a] := rfl
      rw [hπ]
      have hina : intoN H [o, a] a oba.g = some (1, 0) := by simp [intoN, live, ha, idxOf, Ne.symm hao]
      refine ⟨reach2 h0 rfl (by rw [hpid]; rfl) ha hai hao, by simp [Ne.symm hao], ?_, hin0 _, ?_, ?_⟩
      · intro x hx
        simp only [List.mem_cons, List.not_mem_nil, or_false] at hx
        rcases hx with rfl | rfl
        · exact at_lt h0
        · exact at_lt ha
      · refine joinall _ ?_
        simp only [List.map_cons, List.map_nil, hat0, hata, tagsObjs, List.append_nil]
        intro k hk
        exact (List.mem_append.1 hk).elim (htg0 k) (htga k)
      · refine h.ren (.inr rfl) (.inr rfl) h0 (g2 := 0) (by simp [hat0]; rfl) rfl (fun h => by cases h) ?_ (fun h => by rfl) (fun a ob h => by cases h) (fun a c h h2 => by cases h2)
        intro a' ob h1 h2
        cases h1
        rw [ha] at h2
        obtain rfl := Option.some.inj (Option.some.inj h2)
        exact ⟨1, 0, rfl, by omega, hina, by simp [hata]⟩
    | some c =>
      obtain ⟨obc, L2, hc, hci, hcp, hct⟩ := bo c rfl
      have hco : c ≠ o := hb.2
      have hac : a ≠ c := hne a c rfl rfl
      have hatc : obAt H c = some obc := by simp [obAt, hc]
      have htgc : ∀ k ∈ tagsOb obc, k = 0 ∨ k = t := by
        intro k hk
        have : k = obc.tg := by simpa [tagsOb, hci, hcp] using hk
        rw [this]; exact hct
      have hπ : rdπ o (some a) (some c) = [o, a, c] := rfl
      rw [hπ]
      have hina : intoN H [o, a, c] a oba.g = some (1, 0) := by simp [intoN, live, ha, idxOf, Ne.symm hao]
      have hinc : intoN H [o, a, c] c obc.g = some (2, 0) := by simp [intoN, live, hc, idxOf, Ne.symm hco, hac]
      refine ⟨reach3 h0 rfl (by rw [hpid]; rfl) ha hai hc hci hao hco (Ne.symm hac), by simp [Ne.symm hao, Ne.symm hco, hac], ?_, hin0 _, ?_, ?_⟩
      · intro x hx
        simp only [List.mem_cons, List.not_mem_nil, or_false] at hx
        rcases hx with rfl | rfl | rfl
        · exact at_lt h0
        · exact at_lt ha
        · exact at_lt hc
      · refine joinall _ ?_
        simp only [List.map_cons, List.map_nil, hat0, hata, hatc, tagsObjs, List.append_nil]
        intro k hk
        simp only [List.mem_append] at hk
        rcases hk with hk | hk | hk
        · exact htg0 k hk
        · exact htga k hk
        · exact htgc k hk
      · refine h.ren (.inr rfl) (.inr rfl) h0 (g2 := 0) (by simp [hat0]; rfl) rfl (fun h => by cases h) ?_ (fun h => by cases h) ?_ (fun a c h h2 => by cases h; cases h2; exact (by decide : (1 : Nat) ≠ 2))
        · intro a' ob h1 h2
          cases h1
          rw [ha] at h2
          obtain rfl := Option.some.inj (Option.some.inj h2)
          exact ⟨1, 0, rfl, by omega, hina, by simp [hata]⟩
        · intro a' ob h1 h2
          cases h1
          rw [hc] at h2
          obtain rfl := Option.some.inj (Option.some.inj h2)
          exact ⟨2, 0, rfl, by omega, hinc, by simp [hatc]⟩

end Go.Proofs.Ytconnpileacfeaa

/- Events: a reader that a caller holds: brought back, looked at. -/
namespace Go.Proofs.Ytconnpileacfeaa
open Go.AM
set_option linter.unusedSimpArgs false
set_option linter.unusedVariables false

theorem RdC.back {n t : Nat} {H E : AM.Heap} {π new : List Nat} {o : Nat} {s : Rd} {oa oc : Option Nat} (h : RdC n E 0 s oa oc) (hn : π.Nodup) (hlt : ∀ x ∈ π, x < H.length) (hπ0 : π[0]? = some o) (hg : ∀ ob, obAt H o = some ob → ob.g = 0)
    (hma : ∀ a, oa = some a → a < π.length ∨ (π.length ≤ a ∧ a ∈ new)) (hmc : ∀ c, oc = some c → c < π.length ∨ (π.length ≤ c ∧ c ∈ new)) :
    ∃ oa' oc', RdC t (putBack (backN H π new E) (bk n t) H π E 0 π H ++ new.map fun o => (obAt E o).map (renObj (backN H π new E) (bk n t) 0)) o s oa' oc' ∧ (∀ a', oa' = some a' → ∃ a, oa = some a ∧ At H π new a a') ∧ (∀ c', oc' = some c' → ∃ c, oc = some c ∧ At H π new c c') ∧ (oa' = none → oa = none) := by
  obtain ⟨⟨vr, vb, τ, hτ, h0, hr, hb⟩, hne, hfr⟩ := id h
  have hb0 : bk n t 0 = 0 ∨ bk n t 0 = t := by unfold bk; split <;> simp
  have hbn : bk n t n = 0 ∨ bk n t n = t := by unfold bk; simp
  have hp0 : 0 < π.length := at_lt hπ0
  have hE0 : obAt E 0 = some (rdBx s vr vb τ) := by simp [obAt, h0]
  obtain ⟨o', g', e1, e2, e3, e4⟩ := grp_back (τ := bk n t) (new := new) hn hlt hE0 (.inl hp0)
  have hoo : o' = o := by
    rcases e3 with ⟨_, h⟩ | ⟨h, _⟩
    · rw [hπ0] at h; exact (Option.some.inj h).symm
    · omega
  subst hoo
  have hg0 : g' = 0 := by
    rw [e4 hp0]
    unfold genBack
    rw [hπ0]
    simp only [rdBx, if_true, Nat.add_zero]
    cases hh : obAt H o' with
    | none => rfl
    | some ob => exact hg ob hh
  have each : ∀ (k : Nat), (k < π.length ∨ (π.length ≤ k ∧ k ∈ new)) → k ≠ 0 → ∀ ob, E[k]? = some (some ob) → ∃ a2 g2, a2 ≠ o' ∧ backN H π new E k ob.g = some (a2, g2) ∧ (putBack (backN H π new E) (bk n t) H π E 0 π H ++ new.map fun o => (obAt E o).map (renObj (backN H π new E) (bk n t) 0))[a2]? = some (some (renObj (backN H π new E) (bk n t) g2 ob)) ∧ At H π new k a2 := by
    intro k hk hk0 ob hob
    obtain ⟨a2, g2, f1, f2, f3, f4⟩ := grp_back (τ := bk n t) (new := new) hn hlt (show obAt E k = some ob by simp [obAt, hob]) hk
    exact ⟨a2, g2, At.inj hn hlt f3 e3 hk0, f1, f2, f3⟩
  have getA : ∃ oa', (oa = none → oa' = none) ∧ (∀ a ob, oa = some a → E[a]? = some (some ob) → ∃ a2 g2, oa' = some a2 ∧ a2 ≠ o' ∧ backN H π new E a ob.g = some (a2, g2) ∧ (putBack (backN H π new E) (bk n t) H π E 0 π H ++ new.map fun o => (obAt E o).map (renObj (backN H π new E) (bk n t) 0))[a2]? = some (some (renObj (backN H π new E) (bk n t) g2 ob))) ∧ (∀ a', oa' = some a' → ∃ a, oa = some a ∧ At H π new a a') ∧ (oa' = none → oa = none) := by
    cases oa with
    | none => exact ⟨none, fun _ => rfl, fun a ob h => (by cases h), fun a h => (by cases h), fun _ => rfl⟩
    | some a =>
      obtain ⟨ob, L, h1, _⟩ := hr.ob.2.2 a rfl
      obtain ⟨a2, g2, f1, f2, f3, f4⟩ := each a (hma a rfl) hr.2 ob h1
      refine ⟨some a2, fun h => (by cases h), ?_, fun a' h => (by cases h; exact ⟨a, rfl, f4⟩), fun h => (by cases h)⟩
      intro a' ob' h h'
      cases h
      rw [h1] at h'
      obtain rfl := Option.some.inj (Option.some.inj h')
      exact ⟨a2, g2, rfl, f1, f2, f3⟩
  have getC : ∃ oc', (oc = none → oc' = none) ∧ (∀ a ob, oc = some a → E[a]? = some (some ob) → ∃ a2 g2, oc' = some a2 ∧ a2 ≠ o' ∧ backN H π new E a ob.g = some (a2, g2) ∧ (putBack (backN H π new E) (bk n t) H π E 0 π H ++ new.map fun o => (obAt E o).map (renObj (backN H π new E) (bk n t) 0))[a2]? = some (some (renObj (backN H π new E) (bk n t) g2 ob))) ∧ (∀ a', oc' = some a' → ∃ a, oc = some a ∧ At H π new a a') := by
    cases oc with
    | none => exact ⟨none, fun _ => rfl, fun a ob h => (by cases h), fun a h => (by cases h)⟩
    | some a =>
      obtain ⟨ob, L, h1, _⟩ := hb.ob.2.2 a rfl
      obtain ⟨a2, g2, f1, f2, f3, f4⟩ := each a (hmc a rfl) hb.2 ob h1
      refine ⟨some a2, fun h => (by cases h), ?_, fun a' h => (by cases h; exact ⟨a, rfl, f4⟩)⟩
      intro a' ob' h h'
      cases h
      rw [h1] at h'
      obtain rfl := Option.some.inj (Option.some.inj h')
      exact ⟨a2, g2, rfl, f1, f2, f3⟩
  obtain ⟨oa', A1, A2, A3, A4⟩ := getA
  obtain ⟨oc', C1, C2, C3⟩ := getC
  refine ⟨oa', oc', h.ren hb0 hbn h0 e2 hg0 A1 A2 C1 C2 ?_, A3, C3, A4⟩
  intro a' c' h1 h2
  obtain ⟨a, h3, h4⟩ := A3 a' h1
  obtain ⟨c, h5, h6⟩ := C3 c' h2
  exact At.inj hn hlt h4 h6 (hne a c h3 h5)

/-- what lies in a reader's objects may be brought back -/
theorem RdC.ok {t : Nat} {E : AM.Heap} {s : Rd} {o : Nat} {oa oc : Option Nat} (h : RdC t E o s oa oc) {k : Nat} {ob : AM.Obj} (hk : k ∈ rdπ o oa oc) (hob : obAt E k = some ob) : okTags t ob ∧ ∀ l, ob.p ≠ .pm l := by
  obtain ⟨⟨vr, vb, τ, hτ, h0, hr, hb⟩, hne, hfr⟩ := h
  obtain ⟨ri, rt, ro⟩ := hr.ob
  obtain ⟨bi, bt, bo⟩ := hb.ob
  unfold rdπ at hk
  simp only [List.mem_cons, List.mem_append, Option.mem_toList] at hk
  rcases hk with rfl | hk | hk
  · have hob : rdBx s vr vb τ = ob := by simpa [obAt, h0] using hob
    subst hob
    refine ⟨⟨?_, hτ⟩, by simp [rdBx, Rd.pay]⟩
    show ∀ k ∈ tags (s.pay vr vb), _
    rw [tagsRd]
    intro k hk
    exact (List.mem_append.1 hk).elim (rt k) (bt k)
  · obtain ⟨oba, L, ha, hai, hap, hat⟩ := ro k hk
    have hob : oba = ob := by simpa [obAt, ha] using hob
    subst hob
    exact ⟨⟨by rw [hap]; simp [tags], hat⟩, by rw [hap]; simp⟩
  · obtain ⟨oba, L, ha, hai, hap, hat⟩ := bo k hk
    have hob : oba = ob := by simpa [obAt, ha] using hob
    subst hob
    exact ⟨⟨by rw [hap]; simp [tags], hat⟩, by rw [hap]; simp⟩

theorem rdπ_len (o : Nat) (oa oc : Option Nat) : (rdπ o oa oc).length = 1 + (oa.toList.length + oc.toList.length) := by
  unfold rdπ; simp; omega

/-- a reader entered: what is reached from it and the rest -/
theorem RdC.reach {n : Nat} {E : AM.Heap} {s : Rd} {oa oc : Option Nat} (h : RdC n E 0 s (oa.map fun _ => 1) (oc.map fun _ => 2)) : AM.reach E reachFuel (List.range (rdπ 0 oa oc).length) [] = List.range (rdπ 0 oa oc).length := by
  obtain ⟨⟨vr, vb, τ, hτ, h0, hr, hb⟩, hne, hfr⟩ := h
  obtain ⟨ri, rt, ro⟩ := hr.ob
  obtain ⟨bi, bt, bo⟩ := hb.ob
  have hpid : ids (s.pay vr vb) = (oa.map fun _ => 1).toList ++ (oc.map fun _ => 2).toList := by rw [idsRd, ri, bi]
  cases oa with
  | none =>
    have : oc = none := by cases oc with | none => rfl | some c => exact absurd (hfr rfl) (by simp)
    subst this
    show AM.reach E (99997 + 1 + 1 + 1) [0] [] = [0]
    simp only [Option.map_none, Option.toList_none, List.append_nil] at hpid
    simp [AM.reach, h0, rdBx, hpid]
  | some a =>
    obtain ⟨oba, L, ha, hai, _⟩ := ro 1 rfl
    cases oc with
    | none =>
      show AM.reach E (99996 + 1 + 1 + 1 + 1) [0, 1] [] = [0, 1]
      simp at hpid
      simp [AM.reach, h0, rdBx, hpid, ha, hai]
    | some c =>
      obtain ⟨obc, L2, hc, hci, _⟩ := bo 2 rfl
      show AM.reach E (99994 + 1 + 1 + 1 + 1 + 1 + 1) [0, 1, 2] [] = [0, 1, 2]
      simp at hpid
      simp [AM.reach, h0, rdBx, hpid, ha, hai, hc, hci]

set_option maxHeartbeats 4000000 in
/-- a reader looked at -/
theorem look_ev {f : Nat} {fn : Func} {code : Code} {t : Nat} {H : AM.Heap} {o : Nat} {s : Rd} {oa oc : Option Nat} {l : List AV} (hF : X.P.funcs[f]? = some fn) (hcode : fn.body = some code) (hrw : X.rw f 0 = false)
    (hpar : numbered 0 (coerce X [.ptr 0 0 0 0] (paramsOf X f)) = [(0, .ptr 0 0 0 0)]) (hri : idsL l = []) (hrt : tagsL l = []) (hnt : noTups l = true)
    (hrun : ∀ E, RdC 2 E 0 s (oa.map fun _ => 1) (oc.map fun _ => 2) → Tells (Rets fun fr E' => resultsV X fr E' fn.results.toList = some l ∧ RdC 2 E' 0 s (oa.map fun _ => 1) (oc.map fun _ => 2)) X (evT X) f (rdπ o oa oc).length code [(0, .ptr 0 0 0 0)] E)
    (h : RdC t H o s oa oc) :
    ∃ H', evT X f [.ptr o 0 0 0] H = some (resultV l, H') ∧ RdC t H' o s oa oc ∧ H'.length = H.length ∧ ∀ j, j ∉ rdπ o oa oc → H'[j]? = H[j]? := by
  obtain ⟨hπ, hnd, hlt, hin, ⟨t', ht', htt⟩, hE⟩ := h.into (n := 2)
  have hlen : (rdπ o oa oc).length = (rdπ 0 oa oc).length := by rw [rdπ_len, rdπ_len]
  obtain ⟨⟨ex, fr, E⟩, ⟨he, hres, hE'⟩, hr⟩ := hrun _ hE
  simp only at he hres hE'
  subst he
  have hK : AM.reach E reachFuel (List.range (rdπ o oa oc).length ++ ids (resultV l)) [] = List.range (rdπ o oa oc).length := by
    rw [ids_result hnt, hri, List.append_nil, hlen]
    exact hE'.reach
  have hnew : (List.range (rdπ o oa oc).length).filter (fun o' => decide ((rdπ o oa oc).length ≤ o')) = [] := by
    rw [List.filter_eq_nil_iff]
    intro x hx
    have := List.mem_range.1 hx
    simp; omega
  have hEv := Ev1.grp (C := X) (f := f) (H := H) (o := o) (n := 2) (t := t') (π := rdπ o oa oc) (new := []) (xs := []) (ys := []) (lents := []) (l := l) (evT_below X) hF hcode hrw hπ hin (by rfl) rfl rfl rfl (by simp [gtag]) ht'
    (by rw [hpar]; exact hr) (.inr rfl) hres (by rw [hK]; exact hnew) (by rw [tags_result hnt, hrt]; intro k hk; cases hk)
    (by
      intro k hk ob hob
      rcases hk with hk | hk
      · refine hE'.ok (k := k) ?_ hob
        rw [rdπ_len] at hk
        unfold rdπ
        have hfr := h.fr
        cases oa with
        | none =>
          rw [hfr rfl] at hk
          simp at hk
          simp [hk]
        | some a =>
          cases oc with
          | none =>
            simp at hk
            have : k = 0 ∨ k = 1 := by omega
            rcases this with rfl | rfl <;> simp
          | some c =>
            simp at hk
            have : k = 0 ∨ k = 1 ∨ k = 2 := by omega
            rcases this with rfl | rfl | rfl <;> simp
      · cases hk)
  have hπ0 : (rdπ o oa oc)[0]? = some o := rfl
  have hg : ∀ ob, obAt H o = some ob → ob.g = 0 := by
    intro ob hob
    obtain ⟨⟨vr, vb, τ, _, h0, _⟩, _⟩ := h
    have : rdBx s vr vb τ = ob := by simpa [obAt, h0] using hob
    rw [← this]; rfl
  have hfr := h.fr
  obtain ⟨oa', oc', b1, b2, b3, b4⟩ := hE'.back (t := t') (H := H) (π := rdπ o oa oc) (new := []) hnd hlt hπ0 hg
    (by intro a ha; refine .inl ?_; cases oa with | none => cases ha | some x => cases ha; rw [rdπ_len]; simp; omega)
    (by intro c hc; refine .inl ?_; cases oc with | none => cases hc | some x => cases hc; rw [rdπ_len]; cases oa with | none => exact absurd (hfr rfl) (by simp) | some y => simp)
  have hoa : oa' = oa := by
    cases oa with
    | none =>
      cases oa' with
      | none => rfl
      | some a' => obtain ⟨a, h1, _⟩ := b2 a' rfl; cases h1
    | some x =>
      cases oa' with
      | none => exact absurd (b4 rfl) (by simp)
      | some a' =>
        obtain ⟨a, h1, h2⟩ := b2 a' rfl
        cases h1
        rcases h2 with ⟨_, h2⟩ | ⟨h2, i, h3, _⟩
        · have : x = a' := by simpa [rdπ] using h2
          rw [this]
        · simp at h3
  have hoc : oc' = oc := by
    cases oc with
    | none =>
      cases oc' with
      | none => rfl
      | some a' => obtain ⟨a, h1, _⟩ := b3 a' rfl; cases h1
    | some x =>
      cases oa with
      | none => exact absurd (hfr rfl) (by simp)
      | some y =>
        cases oc' with
        | none =>
          exfalso
          -- the body's slice is one still
          obtain ⟨⟨vr, vb, τ, _, h0, _, hb⟩, _⟩ := b1
          obtain ⟨⟨vr2, vb2, τ2, _, h02, _, hb2⟩, _⟩ := hE'
          have hp := putBack_at (ρ := backN H (rdπ o (some y) (some x)) [] E) (τ := bk 2 t') (H := H) (π := rdπ o (some y) (some x)) (H1 := E) (rdπ o (some y) (some x)) 0 0 o H hnd hπ0 (hlt o (by simp [rdπ]))
          simp only [List.map_nil, List.append_nil, Nat.zero_add] at h0 hp
          rw [h0] at hp
          have hE0 : obAt E 0 = some (rdBx s vr2 vb2 τ2) := by simp [obAt, h02]
          rw [hE0] at hp
          obtain ⟨k, _, rfl, _⟩ := hb
          obtain ⟨⟨off, g, k2, ob, L, _, rfl, ho2, hw2, _⟩, _⟩ := hb2
          simp only [Option.map_some, renObj, rdBx, Rd.pay, AM.ren, renL, Option.some.injEq, AM.Obj.mk.injEq, AV.pc.injEq, List.cons.injEq] at hp
          have hp5 := hp.1.2.2.2.2.1
          have hl : live E 2 g = some ob := by simp [live, ho2, hw2.g]
          simp [backN, hl, rdπ] at hp5
        | some a' =>
          obtain ⟨a, h1, h2⟩ := b3 a' rfl
          cases h1
          rcases h2 with ⟨_, h2⟩ | ⟨h2, i, h3, _⟩
          · have : x = a' := by simpa [rdπ] using h2
            rw [this]
          · simp at h3
  rw [hoa, hoc] at b1
  have hren : AM.ren (backN H (rdπ o oa oc) [] E) (bk 2 t') (resultV l) = resultV l := ren_flat _ (by rw [ids_result hnt]; exact hri) (fun k hk => by rw [tags_result hnt, hrt] at hk; cases hk)
  rw [hren] at hEv
  refine ⟨_, evT_eq hEv, ?_, by simp [putBack_length], ?_⟩
  · obtain ⟨⟨vr, vb, τ, hτ, c1⟩, c2, c3⟩ := b1
    rcases htt with rfl | rfl
    · obtain ⟨c11, c12, c13⟩ := c1
      have wk : ∀ {oo : Option Nat} {v : AV} {L : List UInt8}, SlC 0 (putBack (backN H (rdπ o oa oc) [] E) (bk 2 0) H (rdπ o oa oc) E 0 (rdπ o oa oc) H ++ [].map fun o => (obAt E o).map (renObj (backN H (rdπ o oa oc) [] E) (bk 2 0) 0)) o oo v L → SlC t (putBack (backN H (rdπ o oa oc) [] E) (bk 2 0) H (rdπ o oa oc) E 0 (rdπ o oa oc) H ++ [].map fun o => (obAt E o).map (renObj (backN H (rdπ o oa oc) [] E) (bk 2 0) 0)) o oo v L := by
        intro oo v L hs
        cases oo with
        | none => obtain ⟨k, hk, h1⟩ := hs; exact ⟨k, .inl (by omega), h1⟩
        | some a => obtain ⟨⟨off, g, k, ob, L, hk, h1⟩, h2⟩ := hs; exact ⟨⟨off, g, k, ob, L, .inl (by omega), h1⟩, h2⟩
      exact ⟨⟨vr, vb, τ, .inl (by omega), c11, wk c12, wk c13⟩, c2, c3⟩
    · exact ⟨⟨vr, vb, τ, hτ, c1⟩, c2, c3⟩
  · intro j hj
    simp only [List.map_nil, List.append_nil]
    rw [putBack_ne _ _ _ hj]

end Go.Proofs.Ytconnpileacfeaa
