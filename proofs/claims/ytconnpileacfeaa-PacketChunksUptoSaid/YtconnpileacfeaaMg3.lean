/- HC to HJ: texts of this claim, one behind the other; what each shows stands at its head. -/
import Derived.Test.YtconnpileacfeaaAm4
import Derived.Test.YtconnpileacfeaaMg2
/- Walks: a reader that a caller holds, fed: within. -/
namespace Go.Proofs.Ytconnpileacfeaa
open Go.AM
set_option linter.unusedSimpArgs false
set_option linter.unusedVariables false
variable {mm : Nat}

theorem SlC.at0 {t : Nat} {H H' : AM.Heap} {o : Nat} {oa : Option Nat} {v : AV} {l : List UInt8} (h : SlC t H o oa v l) (hk : ∀ a, oa = some a → H'[a]? = H[a]?) : SlC t H' o oa v l := by
  cases oa with
  | none => exact h
  | some a =>
    obtain ⟨⟨off, g, τ, ob, L, h1, h2, ho, h3⟩, hne⟩ := h
    exact ⟨⟨off, g, τ, ob, L, h1, h2, by rw [hk a rfl]; exact ho, h3⟩, hne⟩

/-- there is a reader: none tells -/
theorem hnone_ev {t : Nat} {H : AM.Heap} {o : Nat} {s : Rd} {oa oc : Option Nat} (h : RdC t H o s oa oc) (hm : 0 < s.m) :
    ∃ H', evT X 28 [.ptr o 0 0 0] H = some (.bool false, H') ∧ RdC t H' o s oa oc ∧ H'.length = H.length ∧ ∀ j, j ∉ rdπ o oa oc → H'[j]? = H[j]? := by
  have hw : ∀ E, RdC 2 E 0 s (oa.map fun _ => 1) (oc.map fun _ => 2) → ∃ code, Try.f28.body = some code ∧ Tells (Rets fun fr E' => resultsV X fr E' Try.f28.results.toList = some [.bool false] ∧ RdC 2 E' 0 s (oa.map fun _ => 1) (oc.map fun _ => 2)) X (evT X) 28 (rdπ o oa oc).length code [(0, .ptr 0 0 0 0)] E := by
    intro E hE
    obtain ⟨⟨vr, vb, τ, _, h0, _⟩, _⟩ := id hE
    obtain ⟨code, hc, hr⟩ := none_code (s := s) (m := (rdπ o oa oc).length) vr vb E τ h0 hm
    exact ⟨code, hc, ⟨_, ⟨rfl, rfl, hE⟩, hr⟩⟩
  obtain ⟨_, _, _, _, _, hE⟩ := h.into (n := 2)
  obtain ⟨code, hc, _⟩ := hw _ hE
  have := look_ev (f := 28) (l := [.bool false]) Try.func28 hc rfl (by rw [par28]; rfl) rfl rfl rfl (fun E hE => by
    obtain ⟨code2, hc2, hr⟩ := hw E hE
    rw [hc] at hc2
    obtain rfl := Option.some.inj hc2
    exact hr) h
  simpa [resultV] using this

section
variable {H : AM.Heap} {s : Rd} {oa oc : Option Nat} (c : Nat) (b : List UInt8)

set_option maxRecDepth 100000 in
set_option maxHeartbeats 4000000 in
theorem hf_b0 {H1 : AM.Heap} {vr vb : AV} {τ : Nat} (hn : evT X 28 [.ptr 0 0 0 0] H = some (.bool false, H1)) (h0 : H1[0]? = some (some (rdBx s vr vb τ))) (hst : s.st = 0) :
    ∃ code, ((Try.f18.body).bind (codeAt [1, 0])) = some code ∧ Run X (evT X) 18 mm code [(0, .ptr 0 0 0 0), (1, .ro c (.pb b) 2)] H ⟨.normal, [(0, .ptr 0 0 0 0), (1, .ro c (.pb b) 2), (12, .bool false)], H1⟩ := by
  refine ⟨_, rfl, 0, ?_⟩
  simp only [rdBx, Rd.pay, hst] at h0
  simp (maxSteps := 2000000) -implicitDefEqProofs [-getElem?_pos, List.getElem?_cons_zero, List.getElem?_cons_succ, go_sem, eqV, plen, loadV, storeV, hn, h0]

set_option maxRecDepth 100000 in
set_option maxHeartbeats 4000000 in
theorem hf_b0s {H1 : AM.Heap} {vr vb : AV} {τ : Nat} (hn : evT X 28 [.ptr 0 0 0 0] H = some (.bool false, H1)) (h0 : H1[0]? = some (some (rdBx s vr vb τ))) (hst : s.st ≠ 0) :
    ∃ code, ((Try.f18.body).bind (codeAt [1, 0])) = some code ∧ Run X (evT X) 18 mm code [(0, .ptr 0 0 0 0), (1, .ro c (.pb b) 2)] H ⟨.ret, [(4, .sl H1.length 0 0 0), (5, .int .i64 9)], H1 ++ [some nilK]⟩ := by
  refine ⟨_, rfl, 0, ?_⟩
  have h1 : (s.st == 0) = false := by simp [hst]
  simp only [rdBx, Rd.pay] at h0
  simp (maxSteps := 2000000) -implicitDefEqProofs [-getElem?_pos, List.getElem?_cons_zero, List.getElem?_cons_succ, go_sem, eqV, plen, loadV, storeV, hn, h0, hst, h1, assignV, emK]

/-- bytes appended to what a reader holds -/
theorem SlC.app {v : AV} {l : List UInt8} (h : SlC 3 H 0 oa v l) (hH : 0 < H.length) (hb : l.length + b.length ≤ 900000) : ∃ a v' H', appendV X H 22 v (.ro c (.pb b) 2) = some (v', H') ∧ SlO 3 H' a v' (l ++ b) ∧ 0 < a ∧ (oa = some a ∨ (oa = none ∧ a = H.length)) ∧ (∀ j, j ≠ a → j < H.length → H'[j]? = H[j]?) ∧ (oa = none → H'.length = H.length + 1) ∧ (∀ x, oa = some x → H'.length = H.length) := by
  have hsrc : srcV H (.ro c (.pb b) 2) = some (.pb b, 0) := by simp [srcV, payB, ptag]
  cases oa with
  | none =>
    obtain ⟨τ, hτ, rfl, rfl⟩ := h
    have hb2 : b.length ≤ 900000 := by simpa using hb
    have hroom : roomOk X 5 b.length = true := by simp [roomOk]; omega
    have hat : (H ++ [some (⟨.pb b, 0, .none, 0, true, false, 0⟩ : AM.Obj)])[H.length]? = some (some ⟨.pb b, 0, .none, 0, true, false, 0⟩) := by simp
    refine ⟨H.length, .sl H.length 0 b.length 0, H ++ [some ⟨.pb b, 0, .none, 0, true, false, 0⟩], ?_, ⟨0, 0, 0, _, b, .inl rfl, rfl, hat, ⟨rfl, rfl, rfl, rfl, rfl⟩, rfl, by omega, by omega⟩, hH, .inr ⟨rfl, rfl⟩, fun j h1 h2 => by rw [List.getElem?_append_left h2], fun _ => (by simp), fun x h => (by cases h)⟩
    simp only [appendV, und22, size5, zok5, hsrc]
    simp [payB, plen, hroom, papp, emptyRow, pesz]
  | some a =>
    obtain ⟨⟨off, g, τ, ob, L, hτ, rfl, ho, hw, h1, h2, h3⟩, hne⟩ := h
    obtain ⟨ob', w1, w2⟩ := app_off (C := X) (T := 22) (e := 5) (src := .ro c (.pb b) 2) und22 und5 size5 bytes5 zok5 ho hw h2 (.inl hsrc) (by omega)
    rw [h1] at w1 w2
    refine ⟨a, _, _, w2, ⟨0, g + 1, τ, ob', l ++ b, hτ, by rw [List.length_append], at_set ho, w1, rfl, by omega, by simp; omega⟩, by omega, .inl rfl, fun j h1 h2 => by unfold upd; rw [List.getElem?_set_ne (by omega)], fun h => (by cases h), fun x _ => (by simp [upd])⟩

set_option maxRecDepth 100000 in
set_option maxHeartbeats 4000000 in
theorem hf_r5 (h : RdC 3 H 0 s oa oc) (hb : s.rest.length + b.length ≤ 900000) : ∃ a H', RdI 3 H' { s with rest := s.rest ++ b } a oc ∧ (oa = some a ∨ (oa = none ∧ a = H.length)) ∧ (oa = none → H'.length = H.length + 1) ∧ (∀ x, oa = some x → H'.length = H.length) ∧
    ∃ code, ((Try.f18.body).bind (codeAt [1, 1, 0])) = some code ∧ Run X (evT X) 18 mm code [(0, .ptr 0 0 0 0), (1, .ro c (.pb b) 2), (12, .bool false)] H ⟨.normal, [(0, .ptr 0 0 0 0)], H'⟩ := by
  obtain ⟨⟨vr, vb, τ, hτ, h0, hr, hbd⟩, hne, hfr⟩ := id h
  obtain ⟨a, v', H', hA, hS, a0, hoa, hk, hl1, hl2⟩ := hr.app c b (at_lt h0) hb
  have hH := at_lt h0
  have k0 : H'[0]? = some (some (rdBx s vr vb τ)) := by rw [hk 0 (by omega) hH]; exact h0
  refine ⟨a, upd H' 0 (some (rdBx { s with rest := s.rest ++ b } v' vb τ)), ⟨⟨v', vb, τ, hτ, at_set k0, hS.ne (by omega), ?_⟩, a0⟩, hoa, fun h => by rw [← hl1 h]; simp [upd], fun x h => by rw [← hl2 x h]; simp [upd], _, rfl, ?_⟩
  · cases oc with
    | none => exact hbd
    | some c2 =>
      have hac : c2 ≠ a := by
        rcases hoa with h1 | ⟨h1, _⟩
        · exact Ne.symm (hne a c2 h1 rfl)
        · exact absurd (hfr h1) (by simp)
      obtain ⟨hbo, hc0⟩ := hbd
      have hlt := hbo.lt
      obtain ⟨off, g, τ1, ob, L, e1, e2, ho, e3⟩ := hbo
      refine ⟨⟨off, g, τ1, ob, L, e1, e2, at_ne (by rw [hk c2 hac hlt]; exact ho) (by omega), e3⟩, by omega, hac⟩
  · obtain ⟨off, g, τ1, ob, L, e1, rfl, ho', e3⟩ := hS
    clear e3
    generalize (s.rest ++ b).length = N at *
    simp only [rdBx, Rd.pay] at h0 k0 ⊢
    (refine ⟨0, ?_⟩; simp (maxSteps := 2000000) -implicitDefEqProofs [-getElem?_pos, List.getElem?_cons_zero, List.getElem?_cons_succ, go_sem, eqV, plen, loadV, storeV, h0, k0, hA])

/-- how a held reader fed tells -/
def hdR (s : Rd) (b : List UInt8) : Rd × List Pk × Int := if s.st ≠ 0 then (s, [], 9) else fdL ((s.rest ++ b).length + 1) { s with rest := s.rest ++ b } []
def hfQ (oa1 oc1 : Option Nat) (x : Rd × List Pk × Int) (fr : AM.Frame) (E : AM.Heap) : Prop := ∃ O g oa oc, getF fr 4 = .sl O 0 x.2.1.length g ∧ getF fr 5 = .int .i64 x.2.2 ∧ RdC 3 E 0 x.1 oa oc ∧ PkR 3 E O x.2.1.length g x.2.1 ∧ 0 < O ∧ (∀ a, oa = some a → a ≠ O) ∧ (∀ c, oc = some c → c ≠ O) ∧ Kp oc1 oc E ∧ (∀ a, oa1 = some a → oa = some a)

theorem RdC.keep {t : Nat} {H H' : AM.Heap} {o : Nat} {s : Rd} {oa oc : Option Nat} (h : RdC t H o s oa oc) (hk : ∀ j, j < H.length → H'[j]? = H[j]?) : RdC t H' o s oa oc := by
  obtain ⟨⟨vr, vb, τ, hτ, h0, hr, hb⟩, hne, hfr⟩ := h
  refine ⟨⟨vr, vb, τ, hτ, by rw [hk _ (at_lt h0)]; exact h0, hr.at0 ?_, hb.at0 ?_⟩, hne, hfr⟩
  · intro a ha
    obtain ⟨ob, L, h1, _⟩ := hr.ob.2.2 a ha
    exact hk a (at_lt h1)
  · intro a ha
    obtain ⟨ob, L, h1, _⟩ := hb.ob.2.2 a ha
    exact hk a (at_lt h1)
theorem RdC.lt {t : Nat} {H : AM.Heap} {o : Nat} {s : Rd} {oa oc : Option Nat} (h : RdC t H o s oa oc) : o < H.length ∧ (∀ a, oa = some a → a < H.length ∧ a ≠ o) ∧ (∀ c, oc = some c → c < H.length ∧ c ≠ o) := by
  obtain ⟨⟨vr, vb, τ, hτ, h0, hr, hb⟩, hne, hfr⟩ := h
  refine ⟨at_lt h0, ?_, ?_⟩
  · intro a ha
    obtain ⟨ob, L, h1, _⟩ := hr.ob.2.2 a ha
    subst ha
    exact ⟨at_lt h1, hr.2⟩
  · intro a ha
    obtain ⟨ob, L, h1, _⟩ := hb.ob.2.2 a ha
    subst ha
    exact ⟨at_lt h1, hb.2⟩
theorem RdC.cat {t : Nat} {H r : AM.Heap} {o : Nat} {s : Rd} {oa oc : Option Nat} (h : RdC t H o s oa oc) : RdC t (H ++ r) o s oa oc := h.keep fun j hj => List.getElem?_append_left hj

theorem pkR0 {t : Nat} {H : AM.Heap} {O : Nat} (h : H[O]? = some (some nilK)) : PkR t H O 0 0 [] := ⟨[], nilK, 0, .inl rfl, trivial, rfl, h, ⟨rfl, rfl, rfl, rfl, rfl⟩⟩

set_option maxRecDepth 100000 in
set_option maxHeartbeats 4000000 in
theorem hfeed_code {E : AM.Heap} {oa1 oc1 : Option Nat} (h : RdC 3 E 0 s oa1 oc1) (hm : 0 < s.m) (hnx : s.nx < 256) (hb : s.rest.length + s.body.length + b.length ≤ 900000) : ∃ code, Try.f18.body = some code ∧
    Tells (Rets (hfQ oa1 oc1 (hdR s b))) X (evT X) 18 mm code [(0, .ptr 0 0 0 0), (1, .ro c (.pb b) 2)] E := by
  refine ⟨_, rfl, ?_⟩
  have h1 : RdC 3 (E ++ [some nilK]) 0 s oa1 oc1 := h.cat
  obtain ⟨E2, hn, h2, hl2, hk2⟩ := hnone_ev h1 hm
  apply Tells.seq (fr' := [(0, .ptr 0 0 0 0), (1, .ro c (.pb b) 2)]) (H' := E ++ [some nilK])
  · (refine ⟨0, ?_⟩; simp (maxSteps := 2000000) -implicitDefEqProofs [-getElem?_pos, List.getElem?_cons_zero, List.getElem?_cons_succ, go_sem, eqV, plen, loadV, storeV, assignV, emK])
  obtain ⟨⟨vr, vb, τ, _, h02, _⟩, _⟩ := id h2
  by_cases hst : s.st ≠ 0
  · have hlt := h2.lt
    rw [show hdR s b = (s, [], 9) by unfold hdR; rw [if_pos hst]]
    exact Tells.of (o := ⟨.ret, [(4, .sl E2.length 0 0 0), (5, .int .i64 9)], E2 ++ [some nilK]⟩) (Run.seq_out (piece (hf_b0s c b hn h02 hst) _ rfl) (by simp)) ⟨rfl, E2.length, 0, oa1, oc1, rfl, rfl, h2.cat, pkR0 (by simp), by omega, fun a ha => by have := hlt.2.1 a ha; omega, fun a ha => by have := hlt.2.2 a ha; omega, fun c h => .inl h, fun a h => h⟩
  have hst0 : s.st = 0 := by simpa using hst
  apply Tells.seq (piece (hf_b0 c b hn h02 hst0) _ rfl)
  obtain ⟨a, E3, h3, ha3, hl3, hl3', hr3⟩ := hf_r5 (mm := mm) c b h2 (by omega)
  apply Tells.seq (piece hr3 _ rfl)
  apply Tells.seq (fr' := fdFr E3.length ([] : List Pk).length 0 []) (H' := E3 ++ [some nilK])
  · unfold fdFr
    (refine ⟨0, ?_⟩; simp (maxSteps := 2000000) -implicitDefEqProofs [-getElem?_pos, List.getElem?_cons_zero, List.getElem?_cons_succ, go_sem, eqV, plen, loadV, storeV, assignV, emK])
  have hR : hdR s b = fdL ((s.rest ++ b).length + 1) { s with rest := s.rest ++ b } [] := by unfold hdR; rw [if_neg hst]
  rw [hR]
  have h3c : RdI 3 (E3 ++ [some nilK]) { s with rest := s.rest ++ b } a oc1 := h3.rdC.cat.rdI
  have hlt3 := h3.rdC.lt
  have hoff : Off E3.length a oc1 := ⟨by omega, by have := hlt3.2.1 a rfl; omega, fun c hc => by have := hlt3.2.2 c hc; omega⟩
  have hfin : ∀ fr H, fdQ a oc1 (fdL ((s.rest ++ b).length + 1) { s with rest := s.rest ++ b } []) fr H → hfQ oa1 oc1 (fdL ((s.rest ++ b).length + 1) { s with rest := s.rest ++ b } []) fr H := by
    rintro fr H ⟨O, g, oc, q4, q5, hI, hp, ⟨o1, o2, o3⟩, hK⟩
    refine ⟨O, g, some a, oc, q4, q5, hI.rdC, hp, o1, fun x hx => by cases hx; omega, o3, hK, fun x hx => ?_⟩
    rcases ha3 with h | ⟨h, _⟩
    · rw [← h]; exact hx
    · rw [h] at hx; cases hx
  have hL := fd_loop (mm := mm) (H0 := E3 ++ [some nilK]) { s with rest := s.rest ++ b } a E3.length 0 oc1 [] ((s.rest ++ b).length + 1) h3c (pkR0 (by simp)) hoff ⟨hnx, by simp; omega⟩ (by simp)
  apply Tells.or (P := fdP a oc1 (fdL ((s.rest ++ b).length + 1) { s with rest := s.rest ++ b } []))
  · refine (piece hL _ rfl).mono ?_
    rintro o (h | ⟨h1, h2⟩)
    · exact .inl h
    · exact .inr ⟨by rw [h2.1]; simp, h2.1, hfin _ _ h2.2⟩
  rintro fr H ⟨O, g, oc, tl, rfl, htl, he, h1, h2, h3, h4⟩
  refine Tells.of (o := ⟨.ret, [(4, .sl O 0 (fdL ((s.rest ++ b).length + 1) { s with rest := s.rest ++ b } []).2.1.length g), (5, .int .i64 0)], H⟩) ⟨0, ?_⟩ ⟨rfl, hfin _ _ ⟨O, g, oc, rfl, by rw [he]; rfl, h1, h2, h3, h4⟩⟩
  clear hfin hL hn
  generalize (fdL ((s.rest ++ b).length + 1) { s with rest := s.rest ++ b } []).2.1.length = N
  unfold fdFr
  rcases htl with rfl | ⟨v, rfl⟩
  · simp (maxSteps := 2000000) -implicitDefEqProofs [-getElem?_pos, List.getElem?_cons_zero, List.getElem?_cons_succ, go_sem, eqV, plen, loadV, storeV, assignV]
  · simp (maxSteps := 2000000) -implicitDefEqProofs [-getElem?_pos, List.getElem?_cons_zero, List.getElem?_cons_succ, go_sem, eqV, plen, loadV, storeV, assignV]

end

end Go.Proofs.Ytconnpileacfeaa

/- Events: a reader that a caller holds, fed. -/
namespace Go.Proofs.Ytconnpileacfeaa
open Go.AM
set_option linter.unusedSimpArgs false
set_option linter.unusedVariables false

/-- what lies behind a reader that was handed over with n objects, and payloads, can be brought back -/
def NewC (E : AM.Heap) (n O : Nat) (oa oc : Option Nat) : Prop := ∃ new, (reach E reachFuel (List.range n ++ [O]) []).filter (fun o => decide (n ≤ o)) = new ∧ n ≤ O ∧ (∃ i, ∀ k, idxOf new O k = some (k + i) ∧ new[i]? = some O) ∧ O ∈ new ∧
  (∀ a, oa = some a → a < n ∨ (n ≤ a ∧ a ∈ new)) ∧ (∀ a, oc = some a → a < n ∨ (n ≤ a ∧ a ∈ new)) ∧ ∀ k, (k < n ∨ k ∈ new) → ∀ ob, obAt E k = some ob → okTags 3 ob ∧ ∀ l, ob.p ≠ .pm l

theorem newC_of {E : AM.Heap} {n O N g : Nat} {s : Rd} {oa oc : Option Nat} {out : List Pk} {new : List Nat} (h : RdC 3 E 0 s oa oc) (hout : PkR 3 E O N g out) (hR : (reach E reachFuel (List.range n ++ [O]) []).filter (fun o => decide (n ≤ o)) = new) (hO : n ≤ O) (hi : ∃ i, ∀ k, idxOf new O k = some (k + i) ∧ new[i]? = some O)
    (h1 : ∀ a, oa = some a → a < n ∨ (n ≤ a ∧ a ∈ new)) (h2 : ∀ a, oc = some a → a < n ∨ (n ≤ a ∧ a ∈ new)) (h3 : ∀ k, (k < n ∨ k ∈ new) → k ∈ rdπ 0 oa oc ∨ k = O ∨ E[k]? = some none) : NewC E n O oa oc := by
  refine ⟨new, hR, hO, hi, ?_, h1, h2, fun k hk ob hob => ?_⟩
  · obtain ⟨i, hi⟩ := hi
    exact List.mem_of_getElem? (hi 0).2
  · rcases h3 k hk with h4 | rfl | h4
    · exact h.ok h4 hob
    · obtain ⟨l, oo, τo, hτo, hf, hN, ho, hw⟩ := hout
      have hob : oo = ob := by simpa [obAt, ho] using hob
      rw [← hob]
      exact ⟨⟨by rw [hw.p]; exact pkL_tags hf, by rw [hw.tg]; exact hτo⟩, by rw [hw.p]; simp⟩
    · simp [obAt, h4] at hob

theorem newC {E : AM.Heap} {O N g : Nat} {s : Rd} {oa0 oc0 oa oc : Option Nat} {out : List Pk} (h : RdC 3 E 0 s oa oc) (hout : PkR 3 E O N g out) (O0 : 0 < O) (Oa : ∀ a, oa = some a → a ≠ O) (Oc : ∀ c, oc = some c → c ≠ O) (hK : Kp (oc0.map fun _ => 2) oc E) (hA : ∀ a, (oa0.map fun _ => 1) = some a → oa = some a) (hfr0 : oa0 = none → oc0 = none) :
    NewC E (rdπ 0 oa0 oc0).length O oa oc := by
  obtain ⟨⟨vr, vb, τ, hτ, h0, hr, hb⟩, hne, hfr⟩ := id h
  obtain ⟨ri, rt, ro⟩ := hr.ob
  obtain ⟨bi, bt, bo⟩ := hb.ob
  obtain ⟨_, hla, hlc⟩ := h.lt
  have hpid : ids (s.pay vr vb) = oa.toList ++ oc.toList := by rw [idsRd, ri, bi]
  obtain ⟨l, oo, τo, hτo, hf, hN, ho, hw⟩ := id hout
  have hoi := hw.ids
  cases oa0 with
  | none =>
    obtain rfl := hfr0 rfl
    cases oa with
    | none =>
      obtain rfl := hfr rfl
      refine newC_of (new := [O]) h hout ?_ O0 ⟨0, fun k => ⟨by simp [idxOf], rfl⟩⟩ (fun a h => by cases h) (fun a h => by cases h) ?_
      · show (reach E (99996 + 1 + 1 + 1 + 1) [0, O] []).filter (fun o => decide (1 ≤ o)) = [O]
        simp at hpid
        simp [reach, h0, rdBx, hpid, ho, hoi, show O ≠ 0 by omega, show 1 ≤ O by omega]
      · intro k hk
        simp [rdπ] at hk ⊢
        omega
    | some a =>
      obtain ⟨oba, L, ha, hai, _⟩ := ro a rfl
      have a0 := (hla a rfl).2
      have aO := Oa a rfl
      cases oc with
      | none =>
        refine newC_of (new := [a, O]) h hout ?_ O0 ⟨1, fun k => ⟨by simp [idxOf, aO], rfl⟩⟩ (fun x h => by cases h; exact .inr ⟨by simp [rdπ]; omega, by simp⟩) (fun a h => by cases h) ?_
        · show (reach E (99995 + 1 + 1 + 1 + 1 + 1) [0, O] []).filter (fun o => decide (1 ≤ o)) = [a, O]
          simp at hpid
          simp [reach, h0, rdBx, hpid, ho, hoi, ha, hai, a0, Ne.symm aO, show O ≠ 0 by omega, show 1 ≤ O by omega, show 1 ≤ a by omega]
        · intro k hk
          simp [rdπ] at hk ⊢
          omega
      | some c =>
        obtain ⟨obc, L2, hc, hci, _⟩ := bo c rfl
        have c0 := (hlc c rfl).2
        have cO := Oc c rfl
        have ac := hne a c rfl rfl
        refine newC_of (new := [a, c, O]) h hout ?_ O0 ⟨2, fun k => ⟨by simp [idxOf, aO, cO], rfl⟩⟩ (fun x h => by cases h; exact .inr ⟨by simp [rdπ]; omega, by simp⟩) (fun x h => by cases h; exact .inr ⟨by simp [rdπ]; omega, by simp⟩) ?_
        · show (reach E (99993 + 1 + 1 + 1 + 1 + 1 + 1 + 1) [0, O] []).filter (fun o => decide (1 ≤ o)) = [a, c, O]
          simp at hpid
          simp [reach, h0, rdBx, hpid, ho, hoi, ha, hai, hc, hci, a0, c0, Ne.symm aO, Ne.symm cO, Ne.symm ac, show O ≠ 0 by omega, show 1 ≤ O by omega, show 1 ≤ a by omega, show 1 ≤ c by omega]
        · intro k hk
          simp [rdπ] at hk ⊢
          omega
  | some a0 =>
    obtain rfl := hA 1 rfl
    obtain ⟨oba, L, ha, hai, _⟩ := ro 1 rfl
    have aO := Oa 1 rfl
    cases oc0 with
    | none =>
      cases oc with
      | none =>
        refine newC_of (new := [O]) h hout ?_ (by simp [rdπ]; omega) ⟨0, fun k => ⟨by simp [idxOf], rfl⟩⟩ (fun x h => by cases h; exact .inl (by simp [rdπ])) (fun a h => by cases h) ?_
        · show (reach E (99994 + 1 + 1 + 1 + 1 + 1 + 1) [0, 1, O] []).filter (fun o => decide (2 ≤ o)) = [O]
          simp at hpid
          simp [reach, h0, rdBx, hpid, ho, hoi, ha, hai, Ne.symm aO, show O ≠ 0 by omega, show 2 ≤ O by omega]
        · intro k hk
          simp [rdπ] at hk ⊢
          omega
      | some c =>
        obtain ⟨obc, L2, hc, hci, _⟩ := bo c rfl
        have c0 := (hlc c rfl).2
        have cO := Oc c rfl
        have ac := hne 1 c rfl rfl
        refine newC_of (new := [c, O]) h hout ?_ (by simp [rdπ]; omega) ⟨1, fun k => ⟨by simp [idxOf, cO], rfl⟩⟩ (fun x h => by cases h; exact .inl (by simp [rdπ])) (fun x h => by cases h; exact .inr ⟨by simp [rdπ]; omega, by simp⟩) ?_
        · show (reach E (99992 + 1 + 1 + 1 + 1 + 1 + 1 + 1 + 1) [0, 1, O] []).filter (fun o => decide (2 ≤ o)) = [c, O]
          simp at hpid
          simp [reach, h0, rdBx, hpid, ho, hoi, ha, hai, hc, hci, c0, Ne.symm aO, Ne.symm cO, Ne.symm ac, show O ≠ 0 by omega, show 2 ≤ O by omega, show 2 ≤ c by omega]
        · intro k hk
          simp [rdπ] at hk ⊢
          omega
    | some c0 =>
      have hK2 := hK 2 rfl
      have O2 : O ≠ 2 := by
        rintro rfl
        rcases hK2 with h | h
        · exact Oc 2 h rfl
        · rw [h] at ho; cases ho
      cases oc with
      | none =>
        have e2 : E[2]? = some none := by
          rcases hK2 with h | h
          · cases h
          · exact h
        refine newC_of (new := [O]) h hout ?_ (by simp [rdπ]; omega) ⟨0, fun k => ⟨by simp [idxOf], rfl⟩⟩ (fun x h => by cases h; exact .inl (by simp [rdπ])) (fun a h => by cases h) ?_
        · show (reach E (99993 + 1 + 1 + 1 + 1 + 1 + 1 + 1) [0, 1, 2, O] []).filter (fun o => decide (3 ≤ o)) = [O]
          simp at hpid
          simp [reach, h0, rdBx, hpid, ho, hoi, ha, hai, e2, Ne.symm aO, show O ≠ 0 by omega, show 3 ≤ O by omega]
        · intro k hk
          simp only [rdπ, Option.toList, List.length_cons, List.length_nil, List.length_append, List.mem_cons, List.not_mem_nil, or_false, List.append_nil] at hk ⊢
          by_cases hk2 : k = 2
          · subst hk2; exact .inr (.inr e2)
          · omega
      | some c =>
        obtain ⟨obc, L2, hc, hci, _⟩ := bo c rfl
        have c0 := (hlc c rfl).2
        have cO := Oc c rfl
        have ac := hne 1 c rfl rfl
        by_cases hc2 : c = 2
        · subst hc2
          refine newC_of (new := [O]) h hout ?_ (by simp [rdπ]; omega) ⟨0, fun k => ⟨by simp [idxOf], rfl⟩⟩ (fun x h => by cases h; exact .inl (by simp [rdπ])) (fun x h => by cases h; exact .inl (by simp [rdπ])) ?_
          · show (reach E (99991 + 1 + 1 + 1 + 1 + 1 + 1 + 1 + 1 + 1) [0, 1, 2, O] []).filter (fun o => decide (3 ≤ o)) = [O]
            simp at hpid
            simp [reach, h0, rdBx, hpid, ho, hoi, ha, hai, hc, hci, Ne.symm aO, O2, show O ≠ 0 by omega, show 3 ≤ O by omega]
          · intro k hk
            simp [rdπ] at hk ⊢
            omega
        · have e2 : E[2]? = some none := by
            rcases hK2 with h | h
            · exact absurd (Option.some.inj h) hc2
            · exact h
          refine newC_of (new := [c, O]) h hout ?_ (by simp [rdπ]; omega) ⟨1, fun k => ⟨by simp [idxOf, cO], rfl⟩⟩ (fun x h => by cases h; exact .inl (by simp [rdπ])) (fun x h => by cases h; exact .inr ⟨by simp [rdπ]; omega, by simp⟩) ?_
          · show (reach E (99991 + 1 + 1 + 1 + 1 + 1 + 1 + 1 + 1 + 1) [0, 1, 2, O] []).filter (fun o => decide (3 ≤ o)) = [c, O]
            simp at hpid
            simp [reach, h0, rdBx, hpid, ho, hoi, ha, hai, hc, hci, e2, c0, Ne.symm aO, Ne.symm cO, Ne.symm ac, O2, show O ≠ 0 by omega, show 3 ≤ O by omega, show 3 ≤ c by omega]
          · intro k hk
            simp only [rdπ, Option.toList, List.length_cons, List.length_nil, List.length_append, List.mem_cons, List.not_mem_nil, or_false, List.append_nil] at hk ⊢
            by_cases hk2 : k = 2
            · subst hk2; exact .inr (.inr e2)
            · simp; omega

end Go.Proofs.Ytconnpileacfeaa

/- Events: a reader that a caller holds, fed, from outside. -/
namespace Go.Proofs.Ytconnpileacfeaa
open Go.AM
set_option linter.unusedSimpArgs false
set_option linter.unusedVariables false

set_option maxHeartbeats 4000000 in
theorem hfeed_ev {H : AM.Heap} {o c t : Nat} {b : List UInt8} {s : Rd} {oa oc : Option Nat} (h : RdC 0 H o s oa oc) (hm : 0 < s.m) (hnx : s.nx < 256) (hb : s.rest.length + s.body.length + b.length ≤ 900000) :
    ∃ O H' oa' oc', evT X 18 [.ptr o 0 0 0, .ro c (.pb b) t] H = some (.tup [.sl O 0 (hdR s b).2.1.length 0, .int .i64 (hdR s b).2.2], H') ∧ RdC 0 H' o (hdR s b).1 oa' oc' ∧ PkR 0 H' O (hdR s b).2.1.length 0 (hdR s b).2.1 ∧ H.length ≤ O ∧ H.length ≤ H'.length ∧ (∀ j, j < H.length → j ∉ rdπ o oa oc → H'[j]? = H[j]?) ∧ (∀ a, oa' = some a → a ≠ O ∧ (a ∈ rdπ o oa oc ∨ H.length ≤ a)) ∧ (∀ a, oc' = some a → a ≠ O ∧ (a ∈ rdπ o oa oc ∨ H.length ≤ a)) := by
  obtain ⟨hπ, hnd, hlt, hin, ⟨t', ht', htt⟩, hE⟩ := h.into (n := 3)
  have ht0 : t' = 0 := by omega
  subst ht0
  have hl : lendArgs X 18 H 1 [.ro c (.pb b) t] = some ([.ro c (.pb b) 2], [⟨[], [t]⟩]) := rfl
  obtain ⟨code, hcode, hrun⟩ := hfeed_code (mm := (rdπ o oa oc).length) c b hE hm hnx hb
  obtain ⟨⟨ex, fr, E⟩, ⟨he, O, g, oa1, oc1, q4, q5, hR, hp, O0, Oa, Oc, hK, hA⟩, hr⟩ := hrun
  simp only at he q4 q5 hR hp hK
  subst he
  have hlen : (rdπ o oa oc).length = (rdπ 0 oa oc).length := by rw [rdπ_len, rdπ_len]
  obtain ⟨new, hnew, hnO, ⟨i, hi⟩, hmO, hna, hnc, hok⟩ := newC hR hp O0 Oa Oc hK hA h.fr
  rw [← hlen] at hnew hnO hna hnc hok
  obtain ⟨l, oo, τo, hτo, hf, hN, hO, hw⟩ := id hp
  have hEv := Ev1.grp (C := X) (f := 18) (H := H) (o := o) (n := 3) (t := 0) (π := rdπ o oa oc) (new := new) (xs := [.ro c (.pb b) t]) (ys := [.ro c (.pb b) 2]) (lents := [⟨[], [t]⟩]) (l := [.sl O 0 (hdR s b).2.1.length g, .int .i64 (hdR s b).2.2]) (evT_below X) Try.func18 hcode rfl hπ hin hl (by simp [idsL, ids]) (by simp [disjoint]) rfl (by simp [gtag]) ht'
    (by rw [par18]; exact hr) (.inr rfl) (by show some [getF fr 4, getF fr 5] = _; rw [q4, q5])
    (by
      rw [show ids (resultV [AV.sl O 0 (hdR s b).2.1.length g, .int .i64 (hdR s b).2.2]) = [O] by simp [resultV, noTups, ids, idsL]]
      exact hnew)
    (by simp [resultV, noTups, tags, tagsL])
    hok
  have hlO : live E O g = some oo := by simp [live, hO, hw.g]
  have hbO : backN H (rdπ o oa oc) new E O g = some (H.length + i, 0) := by
    unfold backN; rw [hlO]
    simp only
    rw [if_neg (by omega), (hi H.length).1]; rfl
  have hobO : obAt E O = some oo := by simp [obAt, hO]
  have hπ0 : (rdπ o oa oc)[0]? = some o := rfl
  have hg : ∀ ob, obAt H o = some ob → ob.g = 0 := by
    intro ob hob
    obtain ⟨⟨vr, vb, τ, _, h0, _⟩, _⟩ := h
    have : rdBx s vr vb τ = ob := by simpa [obAt, h0] using hob
    rw [← this]; rfl
  obtain ⟨oa', oc', b1, b2, b3, b4⟩ := hR.back (t := 0) (H := H) (π := rdπ o oa oc) (new := new) hnd hlt hπ0 hg hna hnc
  have hatO : At H (rdπ o oa oc) new O (H.length + i) := .inr ⟨hnO, i, (hi 0).2, rfl⟩
  have hAt : ∀ a a', At H (rdπ o oa oc) new a a' → a' ∈ rdπ o oa oc ∨ H.length ≤ a' := by
    rintro a a' (⟨_, h⟩ | ⟨_, j, _, rfl⟩)
    · exact .inl (List.mem_of_getElem? h)
    · exact .inr (by omega)
  refine ⟨H.length + i, _, oa', oc', evT_eq (by simpa [resultV, noTups, AM.ren, renL, hbO] using hEv), b1, ?_, by omega, by rw [List.length_append, putBack_length]; omega, fun j hj hjo => grp_rest hj hjo, ?_, ?_⟩
  · refine ⟨renL (backN H (rdπ o oa oc) new E) (bk 3 0) l, renObj (backN H (rdπ o oa oc) new E) (bk 3 0) 0 oo, 0, .inl rfl, pkL_ren (.inl (by simp [bk])) (.inl (by simp [bk])) hf, rfl, ?_, ?_⟩
    · rw [List.getElem?_append_right (by rw [putBack_length]; omega), putBack_length, Nat.add_sub_cancel_left, List.getElem?_map, (hi 0).2]
      simp [hobO]
    · exact ⟨by simp [renObj, hw.p, AM.ren], rfl, hw.row, hw.ids, by simp [renObj, bk]⟩
  · intro a' ha'
    obtain ⟨a, e1, e2⟩ := b2 a' ha'
    exact ⟨At.inj hnd hlt e2 hatO (Oa a e1), hAt a a' e2⟩
  · intro a' ha'
    obtain ⟨a, e1, e2⟩ := b3 a' ha'
    exact ⟨At.inj hnd hlt e2 hatO (Oc a e1), hAt a a' e2⟩

end Go.Proofs.Ytconnpileacfeaa

/- Events: a reader that a caller holds: what it holds, where it stopped, what is next. -/
namespace Go.Proofs.Ytconnpileacfeaa
open Go.AM
set_option linter.unusedSimpArgs false
set_option linter.unusedVariables false

/-- how many bytes are held -/
def hlR (s : Rd) : Nat := if s.st ≠ 0 then 0 else s.rest.length + s.body.length

/-- a slice as it lies: nil, or an object's -/
theorem SlC.forms {t : Nat} {H : AM.Heap} {o : Nat} {oa : Option Nat} {v : AV} {l : List UInt8} (h : SlC t H o oa v l) : (∃ τ, v = .ro 0 .pn τ ∧ l.length = 0) ∨ ∃ a off g ob, v = .sl a off l.length g ∧ H[a]? = some (some ob) ∧ ob.g = g := by
  cases oa with
  | none =>
    obtain ⟨τ, _, rfl, rfl⟩ := h
    exact .inl ⟨τ, rfl, rfl⟩
  | some a =>
    obtain ⟨⟨off, g, τ, ob, L, hτ, rfl, ho, hw, _⟩, _⟩ := h
    exact .inr ⟨a, off, g, ob, rfl, ho, hw.g⟩

section
variable {s : Rd} {m : Nat} {oa oc : Option Nat} {E : AM.Heap}

set_option maxRecDepth 100000 in
set_option maxHeartbeats 4000000 in
theorem held_code (h : RdC 2 E 0 s oa oc) (hm : 0 < s.m) (hb : s.rest.length + s.body.length ≤ 900000) : ∃ code, Try.f19.body = some code ∧
    Tells (Rets fun fr E' => resultsV X fr E' Try.f19.results.toList = some [.int .i64 (hlR s : Nat)] ∧ RdC 2 E' 0 s oa oc) X (evT X) 19 m code [(0, .ptr 0 0 0 0)] E := by
  refine ⟨_, rfl, ?_⟩
  obtain ⟨E', hn, h', _⟩ := hnone_ev h hm
  obtain ⟨⟨vr, vb, τ, hτ, h0, hr, hbd⟩, _⟩ := id h'
  have l1 := hr.forms
  have l2 := hbd.forms
  have w : IntKind.i64.wrap ((s.rest.length : Int) + (s.body.length : Int)) = ((s.rest.length + s.body.length : Nat) : Int) := by rw [wrap_i64 (by omega) (by omega)]; omega
  simp only [rdBx, Rd.pay] at h0
  by_cases hst : s.st = 0
  · refine Tells.of (o := ⟨.ret, [(2, .int .i64 (hlR s : Nat))], E'⟩) ⟨0, ?_⟩ ⟨rfl, rfl, h'⟩
    rw [show hlR s = s.rest.length + s.body.length by unfold hlR; rw [if_neg (by simpa using hst)]]
    simp only [hst] at h0
    generalize s.rest.length = N at *
    generalize s.body.length = M at *
    clear hr hbd
    rcases l1 with ⟨τ1, rfl, rfl⟩ | ⟨a, off, g, ob, rfl, ha, hg⟩ <;> rcases l2 with ⟨τ2, rfl, rfl⟩ | ⟨c, off2, g2, oc, rfl, hc, hg2⟩
    · have w0 : IntKind.i64.wrap 0 = 0 := rfl
      simp (maxSteps := 2000000) -implicitDefEqProofs [-getElem?_pos, List.getElem?_cons_zero, List.getElem?_cons_succ, go_sem, eqV, plen, loadV, storeV, hn, h0, w, w0, assignV]
    · simp only [Int.natCast_zero, Int.zero_add, Nat.zero_add] at w ⊢
      simp (maxSteps := 2000000) -implicitDefEqProofs [-getElem?_pos, List.getElem?_cons_zero, List.getElem?_cons_succ, go_sem, eqV, plen, loadV, storeV, hn, h0, hc, hg2, w]
    · simp only [Int.natCast_zero, Int.add_zero, Nat.add_zero] at w ⊢
      simp (maxSteps := 2000000) -implicitDefEqProofs [-getElem?_pos, List.getElem?_cons_zero, List.getElem?_cons_succ, go_sem, eqV, plen, loadV, storeV, hn, h0, ha, hg, w]
    · simp (maxSteps := 2000000) -implicitDefEqProofs [-getElem?_pos, List.getElem?_cons_zero, List.getElem?_cons_succ, go_sem, eqV, plen, loadV, storeV, hn, h0, ha, hg, hc, hg2, w]
  · refine Tells.of (o := ⟨.ret, [(2, .int .i64 (hlR s : Nat))], E'⟩) ⟨0, ?_⟩ ⟨rfl, rfl, h'⟩
    rw [show hlR s = 0 by unfold hlR; rw [if_pos hst]]
    have h1 : (s.st == 0) = false := by simp [hst]
    simp (maxSteps := 2000000) -implicitDefEqProofs [-getElem?_pos, List.getElem?_cons_zero, List.getElem?_cons_succ, go_sem, eqV, plen, loadV, storeV, hn, h0, h1, hst]

set_option maxRecDepth 100000 in
set_option maxHeartbeats 4000000 in
theorem stopped_code (h : RdC 2 E 0 s oa oc) (hm : 0 < s.m) : ∃ code, Try.f20.body = some code ∧
    Tells (Rets fun fr E' => resultsV X fr E' Try.f20.results.toList = some [.int .i64 s.st] ∧ RdC 2 E' 0 s oa oc) X (evT X) 20 m code [(0, .ptr 0 0 0 0)] E := by
  refine ⟨_, rfl, ?_⟩
  obtain ⟨E', hn, h', _⟩ := hnone_ev h hm
  obtain ⟨⟨vr, vb, τ, hτ, h0, hr, hbd⟩, _⟩ := id h'
  simp only [rdBx, Rd.pay] at h0
  refine Tells.of (o := ⟨.ret, [(2, .int .i64 s.st)], E'⟩) ⟨0, ?_⟩ ⟨rfl, rfl, h'⟩
  simp (maxSteps := 2000000) -implicitDefEqProofs [-getElem?_pos, List.getElem?_cons_zero, List.getElem?_cons_succ, go_sem, eqV, plen, loadV, storeV, hn, h0]

set_option maxRecDepth 100000 in
set_option maxHeartbeats 4000000 in
theorem next_code (h : RdC 2 E 0 s oa oc) (hm : 0 < s.m) : ∃ code, Try.f22.body = some code ∧
    Tells (Rets fun fr E' => resultsV X fr E' Try.f22.results.toList = some [.int .u8 (s.nx : Nat)] ∧ RdC 2 E' 0 s oa oc) X (evT X) 22 m code [(0, .ptr 0 0 0 0)] E := by
  refine ⟨_, rfl, ?_⟩
  obtain ⟨E', hn, h', _⟩ := hnone_ev h hm
  obtain ⟨⟨vr, vb, τ, hτ, h0, hr, hbd⟩, _⟩ := id h'
  simp only [rdBx, Rd.pay] at h0
  refine Tells.of (o := ⟨.ret, [(2, .int .u8 (s.nx : Nat))], E'⟩) ⟨0, ?_⟩ ⟨rfl, rfl, h'⟩
  simp (maxSteps := 2000000) -implicitDefEqProofs [-getElem?_pos, List.getElem?_cons_zero, List.getElem?_cons_succ, go_sem, eqV, plen, loadV, storeV, hn, h0]

end

section
variable {t : Nat} {H : AM.Heap} {o : Nat} {s : Rd} {oa oc : Option Nat}

theorem held_ev (h : RdC t H o s oa oc) (hm : 0 < s.m) (hb : s.rest.length + s.body.length ≤ 900000) : ∃ H', evT X 19 [.ptr o 0 0 0] H = some (.int .i64 (hlR s : Nat), H') ∧ RdC t H' o s oa oc ∧ H'.length = H.length ∧ ∀ j, j ∉ rdπ o oa oc → H'[j]? = H[j]? := by
  obtain ⟨_, _, _, _, _, hE⟩ := h.into (n := 2)
  obtain ⟨code, hc, _⟩ := held_code (m := 0) hE hm hb
  have := look_ev (f := 19) (l := [.int .i64 (hlR s : Nat)]) Try.func19 hc rfl (by rw [par19]; rfl) rfl rfl rfl (fun E hE => by
    obtain ⟨code2, hc2, hr⟩ := held_code (m := (rdπ o oa oc).length) hE hm hb
    rw [hc] at hc2
    obtain rfl := Option.some.inj hc2
    exact hr) h
  simpa [resultV] using this

theorem stopped_ev (h : RdC t H o s oa oc) (hm : 0 < s.m) : ∃ H', evT X 20 [.ptr o 0 0 0] H = some (.int .i64 s.st, H') ∧ RdC t H' o s oa oc ∧ H'.length = H.length ∧ ∀ j, j ∉ rdπ o oa oc → H'[j]? = H[j]? := by
  obtain ⟨_, _, _, _, _, hE⟩ := h.into (n := 2)
  obtain ⟨code, hc, _⟩ := stopped_code (m := 0) hE hm
  have := look_ev (f := 20) (l := [.int .i64 s.st]) Try.func20 hc rfl (by rw [par20]; rfl) rfl rfl rfl (fun E hE => by
    obtain ⟨code2, hc2, hr⟩ := stopped_code (m := (rdπ o oa oc).length) hE hm
    rw [hc] at hc2
    obtain rfl := Option.some.inj hc2
    exact hr) h
  simpa [resultV] using this

theorem next_ev (h : RdC t H o s oa oc) (hm : 0 < s.m) : ∃ H', evT X 22 [.ptr o 0 0 0] H = some (.int .u8 (s.nx : Nat), H') ∧ RdC t H' o s oa oc ∧ H'.length = H.length ∧ ∀ j, j ∉ rdπ o oa oc → H'[j]? = H[j]? := by
  obtain ⟨_, _, _, _, _, hE⟩ := h.into (n := 2)
  obtain ⟨code, hc, _⟩ := next_code (m := 0) hE hm
  have := look_ev (f := 22) (l := [.int .u8 (s.nx : Nat)]) Try.func22 hc rfl (by rw [par22]; rfl) rfl rfl rfl (fun E hE => by
    obtain ⟨code2, hc2, hr⟩ := next_code (m := (rdπ o oa oc).length) hE hm
    rw [hc] at hc2
    obtain rfl := Option.some.inj hc2
    exact hr) h
  simpa [resultV] using this

end

end Go.Proofs.Ytconnpileacfeaa

/- Plain: a reader holds no more than its limit and four bytes. -/
namespace Go.Proofs.Ytconnpileacfeaa
open Go.AM
set_option linter.unusedSimpArgs false
set_option linter.unusedVariables false

structure HIn (s : Rd) (m lim B : Nat) : Prop where
  em : s.m = m
  el : s.lim = lim
  nx : s.nx < 256
  body : s.body.length ≤ lim
  sz : s.rest.length + s.body.length ≤ B
  held : s.st = 0 → s.rest.length + s.body.length ≤ lim + 4

theorem fdS2_l (s : Rd) (n : Nat) : (fdS2 s n).body = s.body ++ (s.rest.drop 4).take n ∧ (fdS2 s n).rest = s.rest.drop (4 + n) := ⟨rfl, rfl⟩

theorem ckE_lim {s : Rd} (h : ckE s = 0) : s.body.length + leV (s.rest.take 3) ≤ s.lim ∧ leV (s.rest.take 3) ≤ s.m := by
  unfold ckE at h
  by_cases h1 : s.m < leV (s.rest.take 3)
  · rw [if_pos h1] at h; cases h
  rw [if_neg h1] at h
  by_cases h2 : (s.rest.getD 3 0).toNat ≠ s.nx
  · rw [if_pos h2] at h; cases h
  rw [if_neg h2] at h
  by_cases h3 : s.lim < s.body.length + leV (s.rest.take 3)
  · rw [if_pos h3] at h; cases h
  omega

theorem fdS1_lim (s : Rd) : (fdS1 s).lim = s.lim := by unfold fdS1; split <;> rfl
theorem fdS1_st (s : Rd) : (fdS1 s).st = s.st := by unfold fdS1; split <;> rfl

theorem fdL_hold : ∀ (f : Nat) (s : Rd) (out : List Pk), s.rest.length < f → s.st = 0 → s.nx < 256 → s.body.length ≤ s.lim → (∀ p ∈ out, p.body.length ≤ s.lim) →
    HIn (fdL f s out).1 s.m s.lim (s.rest.length + s.body.length) ∧ (∀ p ∈ (fdL f s out).2.1, p.body.length ≤ s.lim) ∧ (fdL f s out).1.st = (fdL f s out).2.2
  | 0, s, out, hf, _, _, _, _ => by omega
  | f + 1, s, out, hf, hst, hnx, hb, ho => by
    unfold fdL
    by_cases h1 : s.rest.length < 4
    · rw [if_pos h1]
      exact ⟨⟨rfl, rfl, hnx, hb, Nat.le_refl _, fun _ => by show s.rest.length + s.body.length ≤ _; omega⟩, ho, hst⟩
    rw [if_neg h1]
    by_cases h2 : ckE s ≠ 0
    · rw [if_pos h2]
      exact ⟨⟨rfl, rfl, hnx, hb, Nat.le_refl _, fun h => absurd h h2⟩, ho, rfl⟩
    rw [if_neg h2]
    obtain ⟨l1, l2⟩ := ckE_lim (by simpa using h2)
    by_cases h3 : s.rest.length < 4 + leV (s.rest.take 3)
    · rw [if_pos h3]
      exact ⟨⟨rfl, rfl, hnx, hb, Nat.le_refl _, fun _ => by show s.rest.length + s.body.length ≤ _; omega⟩, ho, hst⟩
    rw [if_neg h3]
    generalize leV (s.rest.take 3) = n at *
    have hbd : (fdS2 s n).body.length = s.body.length + n := by
      rw [(fdS2_l s n).1, List.length_append, List.length_take, List.length_drop]; omega
    have hr : (fdS2 s n).rest.length = s.rest.length - (4 + n) := by rw [(fdS2_l s n).2, List.length_drop]
    have hm : (fdS2 s n).m = s.m := fdS1_m s
    have hl : (fdS2 s n).lim = s.lim := fdS1_lim s
    have hs : (fdS2 s n).st = s.st := fdS1_st s
    have hx : (fdS2 s n).nx < 256 := Nat.mod_lt _ (by omega)
    by_cases h4 : n < s.m
    · rw [if_pos h4]
      obtain ⟨⟨q1, q2, q3, q4, q5, q6⟩, q7, q8⟩ := fdL_hold f { fdS2 s n with body := [], wi := false } (out ++ [⟨(fdS2 s n).sq, (fdS2 s n).nx, (fdS2 s n).body⟩]) (by show (fdS2 s n).rest.length < f; omega) (by show (fdS2 s n).st = 0; rw [hs, hst]) hx (by simp) (by
        intro p hp
        show p.body.length ≤ (fdS2 s n).lim
        rw [hl]
        rcases List.mem_append.1 hp with hp | hp
        · exact ho p hp
        · simp only [List.mem_cons, List.not_mem_nil, or_false] at hp
          rw [hp]
          show (fdS2 s n).body.length ≤ _
          omega)
      refine ⟨⟨by rw [q1]; exact hm, by rw [q2]; exact hl, q3, by rw [← hl]; exact q4, ?_, fun h => by rw [← hl]; exact q6 h⟩, fun p hp => by rw [← hl]; exact q7 p hp, q8⟩
      refine Nat.le_trans q5 ?_
      show (fdS2 s n).rest.length + 0 ≤ _
      omega
    · rw [if_neg h4]
      obtain ⟨⟨q1, q2, q3, q4, q5, q6⟩, q7, q8⟩ := fdL_hold f (fdS2 s n) out (by omega) (by rw [hs, hst]) hx (by omega) (by rw [hl]; exact ho)
      exact ⟨⟨by rw [q1]; exact hm, by rw [q2]; exact hl, q3, by rw [← hl]; exact q4, by omega, fun h => by rw [← hl]; exact q6 h⟩, fun p hp => by rw [← hl]; exact q7 p hp, q8⟩

theorem hdR_hold {s : Rd} {m lim B : Nat} (b : List UInt8) (h : HIn s m lim B) : HIn (hdR s b).1 m lim (B + b.length) ∧ (∀ p ∈ (hdR s b).2.1, p.body.length ≤ lim) ∧ ((hdR s b).2.2 ≠ 0 → (hdR s b).1.st = (hdR s b).2.2 ∨ (hdR s b).2.2 = 9) := by
  obtain ⟨h1, h2, h3, h4, h5, h6⟩ := h
  unfold hdR
  by_cases hst : s.st ≠ 0
  · rw [if_pos hst]
    exact ⟨⟨h1, h2, h3, h4, by show s.rest.length + s.body.length ≤ _; omega, h6⟩, fun p hp => (by cases hp), fun _ => .inr rfl⟩
  · rw [if_neg hst]
    obtain ⟨⟨q1, q2, q3, q4, q5, q6⟩, q7, q8⟩ := fdL_hold ((s.rest ++ b).length + 1) { s with rest := s.rest ++ b } [] (by simp) (by simpa using hst) h3 (by show s.body.length ≤ s.lim; omega) (fun p hp => (by cases hp))
    refine ⟨⟨by rw [q1]; exact h1, by rw [q2]; exact h2, q3, by rw [← h2]; exact q4, Nat.le_trans q5 (by simp; omega), fun h => by rw [← h2]; exact q6 h⟩, fun p hp => by rw [← h2]; exact q7 p hp, fun _ => .inl q8⟩

end Go.Proofs.Ytconnpileacfeaa

/- Plain: frames in whatever chunks: what a reader tells. -/
namespace Go.Proofs.Ytconnpileacfeaa
open Go.AM
set_option linter.unusedSimpArgs false
set_option linter.unusedVariables false

/-- a payload's frames; fuel -/
def frB (m : Nat) : Nat → List UInt8 → Nat → List UInt8
  | 0, _, _ => []
  | f + 1, b, s => if b.length < m then hdB b.length s ++ b else hdB m s ++ (b.take m ++ frB m f (b.drop m) ((s + 1) % 256))
def frN (m : Nat) : Nat → List UInt8 → Nat → Nat
  | 0, _, s => s
  | f + 1, b, s => if b.length < m then (s + 1) % 256 else frN m f (b.drop m) ((s + 1) % 256)
def fr (m : Nat) (b : List UInt8) (s : Nat) : List UInt8 := frB m (b.length + 1) b s
def fn (m : Nat) (b : List UInt8) (s : Nat) : Nat := frN m (b.length + 1) b s

section
variable {m : Nat}

theorem spS_eq : ∀ (f : Nat) (out b : List UInt8) (s : Nat), spS m f out b s = (out ++ frB m f b s, frN m f b s)
  | 0, out, b, s => by simp [spS, frB, frN]
  | f + 1, out, b, s => by
    unfold spS frB frN
    by_cases h : b.length < m
    · rw [if_pos h, if_pos h, if_pos h]
    · rw [if_neg h, if_neg h, if_neg h, spS_eq f]
      simp

theorem frB_fuel (hm : 0 < m) : ∀ (f f2 : Nat) (b : List UInt8) (s : Nat), b.length < f → b.length < f2 → frB m f b s = frB m f2 b s ∧ frN m f b s = frN m f2 b s
  | f + 1, f2 + 1, b, s, h, h2 => by
    unfold frB frN
    by_cases hb : b.length < m
    · simp [hb]
    · rw [if_neg hb, if_neg hb, if_neg hb, if_neg hb]
      obtain ⟨q1, q2⟩ := frB_fuel hm f f2 (b.drop m) ((s + 1) % 256) (by rw [List.length_drop]; omega) (by rw [List.length_drop]; omega)
      rw [q1, q2]
      exact ⟨rfl, rfl⟩
  | 0, _, _, _, h, _ => by omega
  | _, 0, _, _, _, h => by omega

theorem fr_eq (hm : 0 < m) (b : List UInt8) (s : Nat) : fr m b s = hdB (min m b.length) s ++ (b.take m ++ (if b.length < m then [] else fr m (b.drop m) ((s + 1) % 256))) := by
  unfold fr
  rw [frB]
  by_cases hb : b.length < m
  · rw [if_pos hb, if_pos hb, Nat.min_eq_right (by omega), List.take_of_length_le (by omega), List.append_nil]
  · rw [if_neg hb, if_neg hb, Nat.min_eq_left (by omega), (frB_fuel hm b.length ((b.drop m).length + 1) (b.drop m) _ (by rw [List.length_drop]; omega) (by omega)).1]
theorem fn_eq (hm : 0 < m) (b : List UInt8) (s : Nat) : fn m b s = if b.length < m then (s + 1) % 256 else fn m (b.drop m) ((s + 1) % 256) := by
  unfold fn
  rw [frN]
  by_cases hb : b.length < m
  · rw [if_pos hb, if_pos hb]
  · rw [if_neg hb, if_neg hb, (frB_fuel hm b.length ((b.drop m).length + 1) (b.drop m) _ (by rw [List.length_drop]; omega) (by omega)).2]

/-- how long a payload's frames are -/
def flen (m n : Nat) : Nat := n + 4 * (n / m + 1)
theorem fr_len (hm : 0 < m) (b : List UInt8) (s : Nat) : (fr m b s).length = flen m b.length := by
  generalize hn : b.length = n
  induction n using Nat.strongRecOn generalizing b s with
  | _ n ih =>
    rw [fr_eq hm, List.length_append, hdB_len, List.length_append, List.length_take]
    by_cases hb : b.length < m
    · rw [if_pos hb, Nat.min_eq_right (by omega)]
      unfold flen
      rw [Nat.div_eq_of_lt (by omega)]
      simp; omega
    · rw [if_neg hb, Nat.min_eq_left (by omega), ih (n - m) (by omega) (b.drop m) _ (by rw [List.length_drop]; omega)]
      unfold flen
      have h1 : n / m = (n - m) / m + 1 := by
        rw [Nat.div_eq_sub_div hm (by omega)]
      omega

/-- payloads' frames, one behind the other; the number behind them; how long they are -/
def stm (m : Nat) : List (List UInt8) → Nat → List UInt8
  | [], _ => []
  | b :: r, s => fr m b s ++ stm m r (fn m b s)
def stn (m : Nat) : List (List UInt8) → Nat → Nat
  | [], s => s
  | b :: r, s => stn m r (fn m b s)
def stl (m : Nat) : List (List UInt8) → Nat
  | [] => 0
  | b :: r => flen m b.length + stl m r
theorem stm_len (hm : 0 < m) : ∀ (l : List (List UInt8)) (s : Nat), (stm m l s).length = stl m l
  | [], _ => rfl
  | b :: r, s => by rw [stm, List.length_append, fr_len hm, stm_len hm r, stl]
theorem stm_app : ∀ (l r : List (List UInt8)) (s : Nat), stm m (l ++ r) s = stm m l s ++ stm m r (stn m l s)
  | [], _, _ => rfl
  | b :: l, r, s => by rw [List.cons_append, stm, stm_app l r, stm, stn, List.append_assoc]
theorem stn_app : ∀ (l r : List (List UInt8)) (s : Nat), stn m (l ++ r) s = stn m r (stn m l s)
  | [], _, _ => rfl
  | b :: l, r, s => by rw [List.cons_append, stn, stn_app l r, stn]
theorem stl_app : ∀ (l r : List (List UInt8)), stl m (l ++ r) = stl m l + stl m r
  | [], _ => by simp [stl]
  | b :: l, r => by rw [List.cons_append, stl, stl_app l r, stl]; omega

theorem flen_mono {a b : Nat} (h : a ≤ b) : flen m a ≤ flen m b := by
  unfold flen
  have := Nat.div_le_div_right (c := m) h
  omega

end

/-- a reader amid payloads: bs are to come, R is yet to be fed -/
structure CIn (s : Rd) (m lim fin : Nat) (R : List UInt8) (bs : List (List UInt8)) : Prop where
  st : s.st = 0
  em : s.m = m
  el : s.lim = lim
  nx : s.nx < 256
  come : match bs with
    | [] => s.rest ++ R = [] ∧ s.body = [] ∧ s.nx = fin
    | cur :: r => ∃ tail, s.body ++ tail = cur ∧ s.rest ++ R = fr m tail s.nx ++ stm m r (fn m tail s.nx) ∧ stn m r (fn m tail s.nx) = fin

theorem fr_pos {m : Nat} (hm : 0 < m) (b : List UInt8) (s : Nat) : 4 + min m b.length ≤ (fr m b s).length := by
  rw [fr_eq hm, List.length_append, hdB_len, List.length_append, List.length_take]; omega

theorem pre_take {l r x y : List UInt8} {k : Nat} (h : l ++ r = x ++ y) (hx : x.length = k) (hl : k ≤ l.length) : l.take k = x ∧ l.drop k ++ r = y := by
  have h1 : (l ++ r).take k = x := by rw [h, ← hx, List.take_left]
  have h2 : (l ++ r).drop k = y := by rw [h, ← hx, List.drop_left]
  rw [List.take_append_of_le_length hl] at h1
  rw [List.drop_append_of_le_length hl] at h2
  exact ⟨h1, h2⟩

theorem fdL_str {m lim fin : Nat} (hm : 0 < m) (hm2 : m ≤ 16777215) : ∀ (f : Nat) (s : Rd) (out : List Pk) (R : List UInt8) (bs : List (List UInt8)), s.rest.length < f → CIn s m lim fin R bs → (∀ b ∈ bs, b.length ≤ lim) →
    ∃ outs bs2, (fdL f s out).2.1 = out ++ outs ∧ bs = outs.map Pk.body ++ bs2 ∧ (fdL f s out).2.2 = 0 ∧ CIn (fdL f s out).1 m lim fin R bs2 ∧ (∀ b r, bs2 = b :: r → stl m r < R.length)
  | 0, s, out, R, bs, hf, _, _ => by omega
  | f + 1, s, out, R, bs, hf, h, hl => by
    obtain ⟨hst, em, el, hnx, hcome⟩ := id h
    unfold fdL
    by_cases h1 : s.rest.length < 4
    · rw [if_pos h1]
      refine ⟨[], bs, by simp, by simp, rfl, h, fun b r hb => ?_⟩
      subst hb
      obtain ⟨tail, _, h3, _⟩ := hcome
      have h4 := congrArg List.length h3
      rw [List.length_append, List.length_append, stm_len hm] at h4
      have := fr_pos hm tail s.nx
      omega
    rw [if_neg h1]
    cases bs with
    | nil =>
      obtain ⟨h2, _⟩ := hcome
      have := congrArg List.length h2
      rw [List.length_append, List.length_nil] at this
      omega
    | cons cur r =>
      obtain ⟨tail, hbody, hrest, hfin⟩ := hcome
      obtain ⟨n, hn⟩ : ∃ n, n = min m tail.length := ⟨_, rfl⟩
      have hfr := fr_eq hm tail s.nx
      rw [← hn] at hfr
      obtain ⟨Y, hY⟩ : ∃ Y, Y = (if tail.length < m then [] else fr m (tail.drop m) ((s.nx + 1) % 256)) ++ stm m r (fn m tail s.nx) := ⟨_, rfl⟩
      have hrest2 : s.rest ++ R = hdB n s.nx ++ (tail.take m ++ Y) := by rw [hrest, hfr, hY]; simp only [List.append_assoc]
      obtain ⟨p1, p2⟩ := pre_take hrest2 (hdB_len _ _) (by omega)
      have hn24 : n < 256 ^ 3 := by
        show n < 16777216
        omega
      have ht3 : s.rest.take 3 = leB 3 n := by
        have : (s.rest.take 4).take 3 = (hdB n s.nx).take 3 := by rw [p1]
        rw [List.take_take] at this
        unfold hdB at this
        rw [List.take_left' (leB_len 3 n)] at this
        exact this
      have hlv : leV (s.rest.take 3) = n := by rw [ht3, leV_leB, Nat.mod_eq_of_lt hn24]
      have hg3 : (s.rest.getD 3 0).toNat = s.nx := by
        have h5 : s.rest[3]? = some (UInt8.ofNat s.nx) := by
          have h6 : (s.rest.take 4)[3]? = (hdB n s.nx)[3]? := by rw [p1]
          rw [List.getElem?_take_of_lt (by omega)] at h6
          rw [h6]
          unfold hdB
          rw [List.getElem?_append_right (by rw [leB_len]; omega), leB_len]
          rfl
        rw [List.getD, h5]
        simp
        omega
      have hcl := hl cur (List.mem_cons_self ..)
      have hbl := congrArg List.length hbody
      rw [List.length_append] at hbl
      have hck : ckE s = 0 := by
        unfold ckE
        rw [hlv, hg3, if_neg (by omega), if_neg (by simp), if_neg (by omega)]
      rw [if_neg (by simp [hck]), hlv]
      by_cases h3 : s.rest.length < 4 + n
      · rw [if_pos h3]
        refine ⟨[], cur :: r, by simp, by simp, rfl, h, fun b r2 hb => ?_⟩
        obtain ⟨rfl, rfl⟩ := List.cons.inj hb
        have h4 := congrArg List.length hrest
        rw [List.length_append, List.length_append, stm_len hm] at h4
        have := fr_pos hm tail s.nx
        omega
      rw [if_neg h3]
      have htk : (tail.take m).length = n := by rw [List.length_take]; omega
      obtain ⟨q1, q2⟩ := pre_take p2 htk (by rw [List.length_drop]; omega)
      rw [List.drop_drop] at q2
      have hS2b : (fdS2 s n).body = s.body ++ tail.take m := by rw [(fdS2_l s n).1, q1]
      have hS2r : (fdS2 s n).rest ++ R = Y := by rw [(fdS2_l s n).2]; exact q2
      have hS2n : (fdS2 s n).nx = (s.nx + 1) % 256 := rfl
      have hS2m : (fdS2 s n).m = s.m := fdS1_m s
      have hS2l : (fdS2 s n).lim = s.lim := fdS1_lim s
      have hS2s : (fdS2 s n).st = s.st := fdS1_st s
      have hr : (fdS2 s n).rest.length < f := by rw [(fdS2_l s n).2, List.length_drop]; omega
      have hfn := fn_eq hm tail s.nx
      by_cases h4 : n < s.m
      · rw [if_pos h4]
        have htm : tail.length < m := by omega
        rw [if_pos htm] at hY hfn
        rw [List.nil_append] at hY
        have htl : tail.take m = tail := List.take_of_length_le (by omega)
        rw [htl, hbody] at hS2b
        obtain ⟨outs, bs2, k1, k2, k3, k4, k5⟩ := fdL_str (lim := lim) (fin := fin) hm hm2 f { fdS2 s n with body := [], wi := false } (out ++ [⟨(fdS2 s n).sq, (fdS2 s n).nx, (fdS2 s n).body⟩]) R r hr (by
          refine ⟨by rw [← hst, ← hS2s], by rw [← em, ← hS2m], by rw [← el, ← hS2l], Nat.mod_lt _ (by omega), ?_⟩
          cases r with
          | nil => exact ⟨(by show (fdS2 s n).rest ++ R = []; rw [hS2r, hY]; rfl), rfl, (by show (s.nx + 1) % 256 = fin; rw [← hfin, hfn]; rfl)⟩
          | cons c2 r2 =>
            refine ⟨c2, rfl, ?_, ?_⟩
            · show (fdS2 s n).rest ++ R = fr m c2 ((s.nx + 1) % 256) ++ _
              rw [hS2r, hY, hfn]; rfl
            · rw [← hfin, hfn]; rfl) (fun b hb => hl b (List.mem_cons_of_mem _ hb))
        refine ⟨⟨(fdS2 s n).sq, (fdS2 s n).nx, (fdS2 s n).body⟩ :: outs, bs2, by rw [k1]; simp, ?_, k3, k4, k5⟩
        rw [List.map_cons, hS2b, k2]; rfl
      · rw [if_neg h4]
        have htm : ¬ tail.length < m := by omega
        rw [if_neg htm] at hY hfn
        obtain ⟨outs, bs2, k1, k2, k3, k4, k5⟩ := fdL_str (lim := lim) (fin := fin) hm hm2 f (fdS2 s n) out R (cur :: r) hr (by
          refine ⟨by rw [hS2s, hst], by rw [hS2m, em], by rw [hS2l, el], Nat.mod_lt _ (by omega), tail.drop m, ?_, ?_, ?_⟩
          · rw [hS2b, List.append_assoc, List.take_append_drop, hbody]
          · rw [hS2r, hY, hfn, hS2n]
          · rw [← hfin, hfn, hS2n]) hl
        exact ⟨outs, bs2, k1, k2, k3, k4, k5⟩

end Go.Proofs.Ytconnpileacfeaa

/- Walks: the law PacketHolds. -/
namespace Go.Proofs.Ytconnpileacfeaa
open Go.AM
set_option linter.unusedSimpArgs false
set_option linter.unusedVariables false

theorem hlives_ev (H : AM.Heap) : evT X 8 [] H = some (.bool true, H) :=
  evT_eq (Ev1.triedP (T := fun _ _ _ => none) Below.none (n := 400) (f := 8) (args := []) (v := .bool true) (by kernel_rfl) rfl H)

theorem pkL_at' {t : Nat} {p : Pk} : ∀ {i : Nat} {l : List Pk} {m : List AV}, PkL t l m → l[i]? = some p → ∃ v, m[i]? = some v ∧ PkA t p v
  | 0, q :: r, v :: l, h, hi => by
    simp at hi
    subst hi
    exact ⟨v, rfl, h.1⟩
  | i + 1, q :: r, v :: l, h, hi => by
    obtain ⟨w, h1, h2⟩ := pkL_at' (i := i) h.2 (by simpa using hi)
    exact ⟨w, by simpa using h1, h2⟩
  | _, [], _, _, hi => by simp at hi
  | _, _ :: _, [], h, _ => h.elim

section
variable (lim c : Nat) (rows : List (Nat × List UInt8))

def hoFr (o i : Nat) (tl : AM.Frame) : AM.Frame := [(1, .int .i64 (lim : Nat)), (2, .ro c (.pc (rows.map bRow)) 3), (7, .ptr o 0 0 0), (9, .int .i64 (i : Nat))] ++ tl

set_option maxRecDepth 100000 in
set_option maxHeartbeats 4000000 in
/-- is there one more to feed? -/
theorem ho_r9 (H : AM.Heap) (o i : Nat) :
    ∃ code, ((Try.f6.body).bind (codeAt [1, 1, 1, 1, 1, 0, 1, 0, 0, 0, 0])) = some code ∧ ((∃ r, rows[i]? = some r ∧ i < 60 ∧ r.2.length ≤ 3000 ∧ Run X (evT X) 6 0 code (hoFr lim c rows o i []) H ⟨.normal, hoFr lim c rows o i [(42, .bool true)], H⟩) ∨ Run X (evT X) 6 0 code (hoFr lim c rows o i []) H ⟨.normal, hoFr lim c rows o i [(42, .bool false)], H⟩) := by
  refine ⟨_, rfl, ?_⟩
  by_cases h1 : i < rows.length
  · have h1I : (i : Int) < (rows.length : Int) := by omega
    obtain ⟨⟨rc, rb⟩, hri⟩ : ∃ r, rows[i]? = some r := ⟨_, List.getElem?_eq_getElem h1⟩
    by_cases h2 : i < 60
    · have h2I : (i : Int) < 60 := by omega
      by_cases h3 : rb.length ≤ 3000
      · left
        have h3I : (rb.length : Int) ≤ 3000 := by omega
        refine ⟨(rc, rb), hri, h2, h3, ?_⟩
        unfold hoFr
        (refine ⟨0, ?_⟩; simp (maxSteps := 2000000) -implicitDefEqProofs [-getElem?_pos, List.getElem?_cons_zero, List.getElem?_cons_succ, go_sem, eqV, plen, loadV, storeV, h1, h1I, h2, h2I, h3, h3I, hri, bRow, retag])
      · right
        have h3I : ¬ (rb.length : Int) ≤ 3000 := by omega
        unfold hoFr
        (refine ⟨0, ?_⟩; simp (maxSteps := 2000000) -implicitDefEqProofs [-getElem?_pos, List.getElem?_cons_zero, List.getElem?_cons_succ, go_sem, eqV, plen, loadV, storeV, h1, h1I, h2, h2I, h3, h3I, hri, bRow, retag])
    · right
      have h2I : ¬ (i : Int) < 60 := by omega
      unfold hoFr
      (refine ⟨0, ?_⟩; simp (maxSteps := 2000000) -implicitDefEqProofs [-getElem?_pos, List.getElem?_cons_zero, List.getElem?_cons_succ, go_sem, eqV, plen, loadV, storeV, h1, h1I, h2, h2I])
  · right
    have h1I : ¬ (i : Int) < (rows.length : Int) := by omega
    unfold hoFr
    (refine ⟨0, ?_⟩; simp (maxSteps := 2000000) -implicitDefEqProofs [-getElem?_pos, List.getElem?_cons_zero, List.getElem?_cons_succ, go_sem, eqV, plen, loadV, storeV, h1, h1I])

set_option maxRecDepth 100000 in
set_option maxHeartbeats 4000000 in
theorem ho_r11 {H H' : AM.Heap} (o i O N : Nat) (e : Int) (rc : Nat) (rb : List UInt8) (hri : rows[i]? = some (rc, rb)) (hF : evT X 18 [.ptr o 0 0 0, .ro rc (.pb rb) 3] H = some (.tup [.sl O 0 N 0, .int .i64 e], H')) :
    ∃ code, ((Try.f6.body).bind (codeAt [1, 1, 1, 1, 1, 0, 1, 0, 0, 1, 0, 0, 0])) = some code ∧ Run X (evT X) 6 0 code (hoFr lim c rows o i [(42, .bool true)]) H ⟨.normal, hoFr lim c rows o i [(10, .sl O 0 N 0), (11, .int .i64 e)], H'⟩ := by
  refine ⟨_, rfl, ?_⟩
  have h1 := at_lt hri
  have h1I : (i : Int) < (rows.length : Int) := by omega
  unfold hoFr
  (refine ⟨0, ?_⟩; simp (maxSteps := 2000000) -implicitDefEqProofs [-getElem?_pos, List.getElem?_cons_zero, List.getElem?_cons_succ, go_sem, eqV, plen, loadV, storeV, h1, h1I, hri, bRow, retag, hF, assignV])

set_option maxRecDepth 100000 in
set_option maxHeartbeats 4000000 in
/-- no payload is longer than the limit -/
theorem ho_in {H : AM.Heap} (o i O : Nat) (e : Int) (out : List Pk) (hp : PkR 0 H O out.length 0 out) (hlen : ∀ p ∈ out, p.body.length ≤ lim) (hol : out.length ≤ 10000000) (hlim : lim ≤ 1073741824) :
    ∃ code, ((Try.f6.body).bind (codeAt [1, 1, 1, 1, 1, 0, 1, 0, 0, 1, 0, 0, 1, 0, 1])) = some code ∧ Tells (Goes fun fr H' => fr = hoFr lim c rows o i [(10, .sl O 0 out.length 0), (11, .int .i64 e), (12, .int .i64 (out.length : Nat)), (57, .bool false)] ∧ H' = H) X (evT X) 6 0 code (hoFr lim c rows o i [(10, .sl O 0 out.length 0), (11, .int .i64 e), (12, .int .i64 0)]) H := by
  refine ⟨_, rfl, ?_⟩
  obtain ⟨l, ob, τ, hτ, hf, hN, ho, hw⟩ := hp
  have hll := f2_len hf
  obtain ⟨q, gg, cap, zz, row, ids', tg⟩ := ob
  obtain ⟨q1, q2, q3, q4, q5⟩ := hw
  simp only at q1 q2 q3 q4 q5
  subst q1 q2 q3 q4 q5
  refine Tells.block (P := fun fr H' => fr = hoFr lim c rows o i [(10, .sl O 0 out.length 0), (11, .int .i64 e), (12, .int .i64 (out.length : Nat)), (57, .bool false)] ∧ H' = H) ?_
  refine Tells.loopP (fun k fr H' => ∃ j, k = out.length - j ∧ j ≤ out.length ∧ H' = H ∧ fr = hoFr lim c rows o i [(10, .sl O 0 out.length 0), (11, .int .i64 e), (12, .int .i64 (j : Nat))]) ?_ (k := out.length) ⟨0, rfl, by omega, rfl, rfl⟩
  rintro k fr H' ⟨j, rfl, hj, rfl, rfl⟩
  by_cases hjn : j = out.length
  · have hjI : ¬ ((j : Int) < (out.length : Int)) := by omega
    have hjN : ¬ (j < out.length) := by omega
    subst hjn
    refine Tells.of (o := ⟨.exit 2, hoFr lim c rows o i [(10, .sl O 0 out.length 0), (11, .int .i64 e), (12, .int .i64 (out.length : Nat)), (57, .bool false)], H'⟩) ⟨0, ?_⟩ (.inr ⟨by simp, rfl, rfl, rfl⟩)
    generalize out.length = N at *
    unfold hoFr
    simp (maxSteps := 2000000) -implicitDefEqProofs [-getElem?_pos, List.getElem?_cons_zero, List.getElem?_cons_succ, go_sem, eqV, plen, loadV, storeV, ho, hjI, hjN]
  · obtain ⟨p, hpj⟩ : ∃ p, out[j]? = some p := ⟨_, List.getElem?_eq_getElem (by omega)⟩
    obtain ⟨v, hv, cb, τ2, _, hb, _, rfl⟩ := pkL_at' hf hpj
    have hbl : p.body.length ≤ lim := hlen p (List.mem_of_getElem? hpj)
    have hblI : ¬ ((lim : Int) < (p.body.length : Int)) := by omega
    have hblN : ¬ (lim < p.body.length) := by omega
    have hjI : (j : Int) < (out.length : Int) := by omega
    have hjN : j < out.length := by omega
    have hjL : j < l.length := by omega
    have w1 : IntKind.i64.wrap ((j : Int) + 1) = ((j + 1 : Nat) : Int) := by rw [wrap_i64 (by omega) (by omega)]; omega
    refine Tells.of (o := ⟨.normal, hoFr lim c rows o i [(10, .sl O 0 out.length 0), (11, .int .i64 e), (12, .int .i64 ((j + 1 : Nat) : Int))], H'⟩) ⟨0, ?_⟩ (.inl ⟨rfl, out.length - (j + 1), by omega, j + 1, rfl, by omega, rfl, rfl⟩)
    generalize out.length = N at *
    unfold hoFr
    simp (maxSteps := 2000000) -implicitDefEqProofs [-getElem?_pos, List.getElem?_cons_zero, List.getElem?_cons_succ, go_sem, eqV, plen, loadV, storeV, ho, hjI, hjN, hjL, hv, hblI, hblN, w1, retag]

set_option maxRecDepth 100000 in
set_option maxHeartbeats 4000000 in
/-- it holds no more, and stopped where it said -/
theorem ho_r17 {H H1 H2 H3 : AM.Heap} (o i h : Nat) (e st : Int) (tl : AM.Frame) (v1 v2 : AV) (hlim : lim ≤ 1073741824) (hh : h ≤ lim + 4) (hst : e ≠ 0 → st = e ∨ e = 9) (hh1 : evT X 19 [.ptr o 0 0 0] H = some (.int .i64 (h : Nat), H1)) (hh2 : evT X 19 [.ptr o 0 0 0] H1 = some (.int .i64 (h : Nat), H2)) (hs : evT X 20 [.ptr o 0 0 0] H2 = some (.int .i64 st, H3)) :
    ∃ code, ((Try.f6.body).bind (codeAt [1, 1, 1, 1, 1, 0, 1, 0, 0, 1, 0, 0, 1, 1, 0])) = some code ∧ ∃ Hx, (Hx = H2 ∨ Hx = H3) ∧ Run X (evT X) 6 0 code (hoFr lim c rows o i [(10, v1), (11, .int .i64 e), (12, v2), (57, .bool false)]) H ⟨.normal, hoFr lim c rows o i [(91, .bool false)], Hx⟩ := by
  refine ⟨_, rfl, ?_⟩
  have w : IntKind.i64.wrap ((lim : Int) + 4) = ((lim + 4 : Nat) : Int) := by rw [wrap_i64 (by omega) (by omega)]; omega
  have g1 : ¬ (((lim + 4 : Nat) : Int) < (h : Int)) := by omega
  have g2 : ¬ ((h : Int) < 0) := by omega
  have g1N : ¬ (lim + 4 < h) := by omega
  generalize hL : lim + 4 = L at *
  by_cases he : e = 0
  · refine ⟨H2, .inl rfl, ?_⟩
    have he1 : (e != 0) = false := by simp [he]
    unfold hoFr
    (refine ⟨0, ?_⟩; simp (maxSteps := 2000000) -implicitDefEqProofs [-getElem?_pos, List.getElem?_cons_zero, List.getElem?_cons_succ, go_sem, eqV, plen, loadV, storeV, hh1, hh2, w, g1, g1N, g2, he1])
  · refine ⟨H3, .inr rfl, ?_⟩
    have he1 : (e != 0) = true := by simp [he]
    rcases hst he with rfl | rfl
    · have he2 : (st != st) = false := by simp
      unfold hoFr
      (refine ⟨0, ?_⟩; simp (maxSteps := 2000000) -implicitDefEqProofs [-getElem?_pos, List.getElem?_cons_zero, List.getElem?_cons_succ, go_sem, eqV, plen, loadV, storeV, hh1, hh2, hs, w, g1, g1N, g2, he1, he2])
    · by_cases h9 : st = 9
      · have he2 : (st != 9) = false := by simp [h9]
        unfold hoFr
        (refine ⟨0, ?_⟩; simp (maxSteps := 2000000) -implicitDefEqProofs [-getElem?_pos, List.getElem?_cons_zero, List.getElem?_cons_succ, go_sem, eqV, plen, loadV, storeV, hh1, hh2, hs, w, g1, g1N, g2, he2])
      · have he2 : (st != 9) = true := by simp [h9]
        unfold hoFr
        (refine ⟨0, ?_⟩; simp (maxSteps := 2000000) -implicitDefEqProofs [-getElem?_pos, List.getElem?_cons_zero, List.getElem?_cons_succ, go_sem, eqV, plen, loadV, storeV, hh1, hh2, hs, w, g1, g1N, g2, he2])

end

end Go.Proofs.Ytconnpileacfeaa

/- Walks: Pick. -/
namespace Go.Proofs.Ytconnpileacfeaa
open Go.AM
set_option linter.unusedSimpArgs false
set_option linter.unusedVariables false

/-- a number from 0 to below n -/
def pk (x : Int) (n : Nat) : Nat := (if x.tmod n < 0 then x.tmod n + n else x.tmod n).toNat

theorem tmod_bd {x : Int} {n : Nat} (h : 0 < n) : -(n : Int) < x.tmod n ∧ x.tmod n < n := by
  have hb : x.tmod n < n := Int.tmod_lt_of_pos x (by omega)
  refine ⟨?_, hb⟩
  by_cases hx : 0 ≤ x
  · have := Int.tmod_nonneg (n : Int) hx; omega
  · have h2 := Int.neg_tmod (-x) (n : Int)
    rw [Int.neg_neg] at h2
    have h3 := Int.tmod_lt_of_pos (-x) (b := (n : Int)) (by omega)
    omega

theorem pk_lt {x : Int} {n : Nat} (h : 0 < n) : pk x n < n := by
  unfold pk
  have := tmod_bd (x := x) h
  split <;> omega

section
variable (x : Int) (n : Nat)

set_option maxRecDepth 100000 in
theorem pick_code (h : 0 < n) (hn : n < 9223372036854775808) : ∃ code, Try.f30.body = some code ∧
    Run X (evT X) 30 0 code [(0, .int .i64 x), (1, .int .i64 (n : Nat))] [] ⟨.ret, [(4, .int .i64 (pk x n : Nat))], []⟩ := by
  refine ⟨_, rfl, 0, ?_⟩
  have hn0 : ¬ (n : Int) = 0 := by omega
  have hn1 : ¬ n = 0 := by omega
  have hbd := tmod_bd (x := x) h
  unfold pk at *
  generalize hq : x.tmod n = m at *
  by_cases hm : m < 0
  · rw [if_pos hm]
    have w : IntKind.i64.wrap (m + n) = (((m + n).toNat : Nat) : Int) := by rw [wrap_i64 (by omega) (by omega)]; omega
    generalize (m + n).toNat = z at *
    simp (maxSteps := 2000000) -implicitDefEqProofs [-getElem?_pos, List.getElem?_cons_zero, List.getElem?_cons_succ, go_sem, eqV, plen, loadV, storeV, hn0, hn1, hq, hm, w]
  · rw [if_neg hm]
    have w : ((m.toNat : Nat) : Int) = m := by omega
    rw [w]
    simp (maxSteps := 2000000) -implicitDefEqProofs [-getElem?_pos, List.getElem?_cons_zero, List.getElem?_cons_succ, go_sem, eqV, plen, loadV, storeV, hn0, hn1, hq, hm]

end

theorem pick_ev {H : AM.Heap} {x : Int} {n : Nat} (h : 0 < n) (hn : n < 9223372036854775808) : evT X 30 [.int .i64 x, .int .i64 (n : Nat)] H = some (.int .i64 (pk x n : Nat), H) := by
  obtain ⟨code, hcode, hr⟩ := pick_code x n h hn
  exact evT_eq (Ev1.toldP (l := [.int .i64 (pk x n : Nat)]) (evT_below X) Try.func30 hcode (args_flat (i := 0) rfl rfl (args_flat (i := 1) rfl rfl (args_nil 2))) rfl (by simp [gtag]) rfl rfl rfl ⟨_, ⟨rfl, rfl⟩, hr⟩)

end Go.Proofs.Ytconnpileacfeaa

/- Walks: bytes cut into chunks. -/
namespace Go.Proofs.Ytconnpileacfeaa
open Go.AM
set_option linter.unusedSimpArgs false
set_option linter.unusedVariables false

/-- a chunk as a cell -/
def ChA (x : List UInt8) (v : AV) : Prop := ∃ cb τ, (cb = 0 → x = []) ∧ v = .ro cb (.pb x) τ
def ChL : List (List UInt8) → List AV → Prop
  | [], [] => True
  | x :: r, v :: l => ChA x v ∧ ChL r l
  | _, _ => False
theorem chL_len : ∀ {l : List (List UInt8)} {m : List AV}, ChL l m → m.length = l.length
  | [], [], _ => rfl
  | _ :: _, _ :: _, h => by simp [chL_len h.2]
  | [], _ :: _, h => h.elim
  | _ :: _, [], h => h.elim
theorem chL_snoc {a : List UInt8} {b : AV} : ∀ {l : List (List UInt8)} {m : List AV}, ChL l m → ChA a b → ChL (l ++ [a]) (m ++ [b])
  | [], [], _, h => ⟨h, trivial⟩
  | _ :: _, _ :: _, h, h2 => ⟨h.1, chL_snoc h.2 h2⟩
  | [], _ :: _, h, _ => h.elim
  | _ :: _, [], h, _ => h.elim
theorem chL_ids : ∀ {l : List (List UInt8)} {m : List AV}, ChL l m → idsL m = []
  | [], [], _ => rfl
  | _ :: _, _ :: _, ⟨⟨cb, τ, _, rfl⟩, h⟩ => by simp [idsL, ids, chL_ids h]
  | [], _ :: _, h => h.elim
  | _ :: _, [], h => h.elim
theorem chL_ren {τ : Nat → Nat} : ∀ {l : List (List UInt8)} {m : List AV}, ChL l m → ChL l (renL (fun _ _ => none) τ m)
  | [], [], _ => trivial
  | _ :: _, _ :: _, ⟨⟨cb, t, h1, rfl⟩, h⟩ => ⟨⟨cb, τ t, h1, by simp [ren]⟩, chL_ren h⟩
  | [], _ :: _, h => h.elim
  | _ :: _, [], h => h.elim
theorem chL_at {x : List UInt8} : ∀ {i : Nat} {l : List (List UInt8)} {m : List AV}, ChL l m → l[i]? = some x → ∃ v, m[i]? = some v ∧ ChA x v
  | 0, q :: r, v :: l, h, hi => by
    simp at hi
    subst hi
    exact ⟨v, rfl, h.1⟩
  | i + 1, q :: r, v :: l, h, hi => by
    obtain ⟨w, h1, h2⟩ := chL_at (i := i) h.2 (by simpa using hi)
    exact ⟨w, by simpa using h1, h2⟩
  | _, [], _, _, hi => by simp at hi
  | _, _ :: _, [], h, _ => h.elim

/-- the chunks -/
def chk : List UInt8 → List Int → List (List UInt8)
  | b, [] => [b]
  | b, x :: r => if b.length = 0 then [b] else b.take (min (pk x 8) b.length) :: chk (b.drop (min (pk x 8) b.length)) r

theorem chk_flat : ∀ (b : List UInt8) (l : List Int), (chk b l).flatten = b
  | b, [] => by simp [chk]
  | b, x :: r => by
    unfold chk
    split
    · simp
    · rw [List.flatten_cons, chk_flat, List.take_append_drop]
theorem chk_len : ∀ (b : List UInt8) (l : List Int), (chk b l).length ≤ l.length + 1
  | b, [] => by simp [chk]
  | b, x :: r => by
    unfold chk
    split
    · simp
    · have := chk_len (b.drop (min (pk x 8) b.length)) r
      simp only [List.length_cons]; omega

/-- cells appended to a slice, some of them lent -/
theorem app_ch {H : AM.Heap} {o g τ : Nat} {ob : AM.Obj} {l : List AV} {v src : AV} (ho : H[o]? = some (some ob)) (h : RwT (.pc l) g τ ob) (hτ : τ = 0 ∨ τ = 1) (hsrc : srcV H src = some (.pc [v], 1)) (hn : l.length ≤ 1000000) :
    ∃ ob', RwT (.pc (l ++ [v])) (g + 1) 1 ob' ∧ appendV X H 43 (.sl o 0 l.length g) src = some (.sl o 0 (l.length + 1) (g + 1), upd H o (some ob')) := by
  have hlive : live H o g = some ob := by simp [live, ho, h.g]
  have hroom : roomOk X 22 (l.length + 1) = true := by simp [roomOk]; omega
  have hj : joinTag τ 1 = some 1 := by rcases hτ with rfl | rfl <;> rfl
  refine ⟨{ ob with p := .pc (l ++ [v]), g := g + 1, cap := (match ob.cap with | some c => if 0 + l.length + AM.plen (.pc [v]) ≤ c then some (c - 0) else none | none => none), z := (if AM.plen ob.p = 0 then ob.z else 1), tg := 1 }, ⟨rfl, rfl, h.row, h.ids, rfl⟩, ?_⟩
  unfold appendV
  simp only [und43, size22, zok22, hsrc, hlive, h.row, h.ids, h.p, h.tg]
  rw [if_neg (by simp)]
  have hc : True ∧ True ∧ 0 + l.length = AM.plen (.pc l) ∧ pesz (.pc l) = 1 ∧ roomOk X 22 (l.length + AM.plen (.pc [v])) = true := ⟨trivial, trivial, by simp [AM.plen], rfl, by simpa [AM.plen] using hroom⟩
  rw [if_pos hc]
  simp only [psub, Nat.zero_add, Nat.le_refl, if_true, List.drop_zero, List.take_length, papp, hj, pesz]
  simp [AM.plen]
  rfl

theorem bsC (H : AM.Heap) (c : Nat) (p : AV) (t : Nat) : buildSliceV X H 43 1 [(0, .ro c p t)] = some (.ro 1 (.pc [.ro c p t]) t, H) := by
  have hz : zeroAV X 22 = .ro 0 .pn 0 := by kernel_rfl
  have hm : mkRow X 22 [.ro c p t] = some (.pc [.ro c p t]) := rfl
  have hj : joinTags [t] = some t := by
    by_cases h : t = 0
    · subst h; rfl
    · simp [joinTags, joinTag, h]
  simp only [buildSliceV, und43, size22, hz]
  simp [cellsAV, scalars, scalar, setParts, litRow, hm, idsL, ids, tagsL, tags, hj]

section
variable (c1 : Nat) (cuts : List Int)

def chFr (c : Nat) (b : List UInt8) (o N g i : Nat) (tl : AM.Frame) : AM.Frame := [(0, .ro c (.pb b) 1), (1, .ro c1 (.pi .i64 cuts) 2), (5, .sl o 0 N g), (6, .int .i64 (i : Nat))] ++ tl

/-- a slice's beginning, a slice's end -/
theorem slBeg {c t n : Nat} {b : List UInt8} (hn : n ≤ b.length) (H : AM.Heap) : sliceV X H 22 (.ro c (.pb b) t) none (some (.int .i64 (n : Nat))) = some (.ro (if c = 0 then 0 else 2) (.pb (b.take n)) t) := by
  have h2 : (n : Int) ≤ (b.length : Int) := by omega
  simp [sliceV, bound, plen, pesz, psub, h2, hn]
theorem slEnd {c t n : Nat} {b : List UInt8} (hn : n ≤ b.length) (H : AM.Heap) : sliceV X H 22 (.ro c (.pb b) t) (some (.int .i64 (n : Nat))) none = some (.ro c (.pb (b.drop n)) t) := by
  have h2 : (n : Int) ≤ (b.length : Int) := by omega
  have h3 : (b.drop n).take (b.length - n) = b.drop n := List.take_of_length_le (by simp)
  simp [sliceV, bound, plen, pesz, psub, h2, hn, h3]
  omega

set_option maxRecDepth 100000 in
set_option maxHeartbeats 4000000 in
theorem ch_r3 {H : AM.Heap} (c : Nat) (b : List UInt8) (o N g i : Nat) : ∃ code, ((Try.f21.body).bind (codeAt [1, 1, 0, 1, 0, 0, 0, 0])) = some code ∧ Run X (evT X) 21 0 code (chFr c1 cuts c b o N g i []) H ⟨.normal, chFr c1 cuts c b o N g i [(16, .bool (decide (i < cuts.length ∧ 0 < b.length)))], H⟩ := by
  refine ⟨_, rfl, ?_⟩
  by_cases h1 : i < cuts.length
  · have h1I : (i : Int) < (cuts.length : Int) := by omega
    by_cases h2 : 0 < b.length
    · have h2I : (0 : Int) < (b.length : Int) := by omega
      rw [show decide (i < cuts.length ∧ 0 < b.length) = true from decide_eq_true ⟨h1, h2⟩]
      unfold chFr
      (refine ⟨0, ?_⟩; simp (maxSteps := 2000000) -implicitDefEqProofs [-getElem?_pos, List.getElem?_cons_zero, List.getElem?_cons_succ, go_sem, eqV, plen, loadV, storeV, h1, h1I, h2, h2I])
    · have h2I : ¬ (0 : Int) < (b.length : Int) := by omega
      rw [show decide (i < cuts.length ∧ 0 < b.length) = false from decide_eq_false (fun h => h2 h.2)]
      unfold chFr
      (refine ⟨0, ?_⟩; simp (maxSteps := 2000000) -implicitDefEqProofs [-getElem?_pos, List.getElem?_cons_zero, List.getElem?_cons_succ, go_sem, eqV, plen, loadV, storeV, h1, h1I, h2, h2I])
  · have h1I : ¬ (i : Int) < (cuts.length : Int) := by omega
    rw [show decide (i < cuts.length ∧ 0 < b.length) = false from decide_eq_false (fun h => h1 h.1)]
    unfold chFr
    (refine ⟨0, ?_⟩; simp (maxSteps := 2000000) -implicitDefEqProofs [-getElem?_pos, List.getElem?_cons_zero, List.getElem?_cons_succ, go_sem, eqV, plen, loadV, storeV, h1, h1I])

set_option maxRecDepth 100000 in
set_option maxHeartbeats 4000000 in
/-- one chunk more -/
theorem ch_r5 {H : AM.Heap} (c : Nat) (b : List UInt8) (o N g i : Nat) (x : Int) (hx : cuts[i]? = some x) (hb : b.length ≤ 1000000) : ∃ code, ((Try.f21.body).bind (codeAt [1, 1, 0, 1, 0, 0, 1, 0, 0, 0])) = some code ∧ Run X (evT X) 21 0 code (chFr c1 cuts c b o N g i [(16, .bool true)]) H ⟨.normal, chFr c1 cuts c b o N g i [(7, .int .i64 (min (pk x 8) b.length : Nat))], H⟩ := by
  refine ⟨_, rfl, ?_⟩
  have h1 := at_lt hx
  have h1I : (i : Int) < (cuts.length : Int) := by omega
  have hP := pick_ev (H := H) (x := x) (n := 8) (by omega) (by omega)
  have hmin : (if (b.length : Int) < (pk x 8 : Int) then (b.length : Int) else (pk x 8 : Int)) = ((min (pk x 8) b.length : Nat) : Int) := by
    split <;> omega
  have hmin2 : (if b.length < pk x 8 then (b.length : Int) else (pk x 8 : Int)) = ((min (pk x 8) b.length : Nat) : Int) := by
    split <;> omega
  simp only [Int.cast_ofNat_Int] at hP
  generalize hk : pk x 8 = k at *
  generalize min k b.length = n at *
  unfold chFr
  (refine ⟨0, ?_⟩; simp (maxSteps := 2000000) -implicitDefEqProofs [-getElem?_pos, List.getElem?_cons_zero, List.getElem?_cons_succ, go_sem, eqV, plen, loadV, storeV, h1, h1I, hx, hP, mmin, hmin, hmin2])

set_option maxRecDepth 100000 in
set_option maxHeartbeats 4000000 in
theorem ch_r67 {H : AM.Heap} (c : Nat) (b : List UInt8) (o g i n τ : Nat) (l : List AV) (acc : List (List UInt8)) (ob : AM.Obj) (hc : c = 0 → b = []) (hn : n ≤ b.length) (ho : H[o]? = some (some ob)) (hw : RwT (.pc l) g τ ob) (hτ : τ = 0 ∨ τ = 1) (hl : ChL acc l) (hN : acc.length ≤ 1000000) :
    ∃ H' l' ob', ChL (acc ++ [b.take n]) l' ∧ H'[o]? = some (some ob') ∧ RwT (.pc l') (g + 1) 1 ob' ∧ ∀ cd6 cd7, ((Try.f21.body).bind (codeAt [1, 1, 0, 1, 0, 0, 1, 0, 0, 1, 0])) = some cd6 → ((Try.f21.body).bind (codeAt [1, 1, 0, 1, 0, 0, 1, 0, 0, 1, 1])) = some cd7 → Run X (evT X) 21 0 (.seq cd6 cd7) (chFr c1 cuts c b o acc.length g i [(7, .int .i64 (n : Nat))]) H ⟨.normal, chFr c1 cuts c (b.drop n) o (acc.length + 1) (g + 1) i [], H'⟩ := by
  have hll := chL_len hl
  have hB := slBeg (c := c) (t := 1) hn H
  have hS := bsC H (if c = 0 then 0 else 2) (.pb (b.take n)) 1
  obtain ⟨ob', w1, w2⟩ := app_ch (v := .ro (if c = 0 then 0 else 2) (.pb (b.take n)) 1) (src := .ro 1 (.pc [.ro (if c = 0 then 0 else 2) (.pb (b.take n)) 1]) 1) ho hw hτ (by simp [srcV, payB, ptag]) (by omega)
  rw [hll] at w2
  have hE := slEnd (c := c) (t := 1) hn (upd H o (some ob'))
  refine ⟨upd H o (some ob'), _, ob', chL_snoc hl ⟨_, 1, ?_, rfl⟩, at_set ho, w1, fun cd6 cd7 e6 e7 => ?_⟩
  · intro h0
    by_cases h : c = 0
    · rw [hc h]; simp
    · rw [if_neg h] at h0; cases h0
  have r6 : Run X (evT X) 21 0 cd6 (chFr c1 cuts c b o acc.length g i [(7, .int .i64 (n : Nat))]) H ⟨.normal, chFr c1 cuts c b o (acc.length + 1) (g + 1) i [(7, .int .i64 (n : Nat))], upd H o (some ob')⟩ := by
    refine piece (P := fun cd => Run X (evT X) _ 0 cd _ _ _) ⟨_, rfl, ?_⟩ _ e6
    generalize (if c = 0 then 0 else 2) = c2 at *
    generalize acc.length = N at *
    unfold chFr
    (refine ⟨0, ?_⟩; simp (maxSteps := 2000000) -implicitDefEqProofs [-getElem?_pos, List.getElem?_cons_zero, List.getElem?_cons_succ, go_sem, eqV, plen, loadV, storeV, hB, hS, w2, assignV])
  refine Run.seq r6 (piece (P := fun cd => Run X (evT X) _ 0 cd _ _ _) ⟨_, rfl, ?_⟩ _ e7)
  generalize upd H o (some ob') = H' at *
  unfold chFr
  (refine ⟨0, ?_⟩; simp (maxSteps := 2000000) -implicitDefEqProofs [-getElem?_pos, List.getElem?_cons_zero, List.getElem?_cons_succ, go_sem, eqV, plen, loadV, storeV, hE, assignV])

theorem emC : rowOf (emptyRow X 22) .none 0 = ⟨.pc [], 0, .none, 0, true, false, 0⟩ := by kernel_rfl

set_option maxRecDepth 100000 in
set_option maxHeartbeats 4000000 in
theorem chunks_code (c : Nat) (b : List UInt8) (hc : c = 0 → b = []) (hb : b.length ≤ 1000000) (hcl : cuts.length ≤ 100000) : ∃ code, Try.f21.body = some code ∧
    Tells (Rets fun fr H1 => ∃ o g ob l, ChL (chk b cuts) l ∧ getF fr 4 = .sl o 0 (chk b cuts).length g ∧ H1[o]? = some (some ob) ∧ RwT (.pc l) g 1 ob) X (evT X) 21 0 code [(0, .ro c (.pb b) 1), (1, .ro c1 (.pi .i64 cuts) 2)] [] := by
  refine ⟨_, rfl, ?_⟩
  apply Tells.seq (fr' := [(0, .ro c (.pb b) 1), (1, .ro c1 (.pi .i64 cuts) 2)]) (H' := [some ⟨.pc [], 0, .none, 0, true, false, 0⟩])
  · (refine ⟨0, ?_⟩; simp (maxSteps := 2000000) -implicitDefEqProofs [-getElem?_pos, List.getElem?_cons_zero, List.getElem?_cons_succ, go_sem, eqV, plen, loadV, storeV, assignV, emC])
  apply Tells.seq (fr' := [(0, .ro c (.pb b) 1), (1, .ro c1 (.pi .i64 cuts) 2), (5, .sl 1 0 0 0)]) (H' := [some ⟨.pc [], 0, .none, 0, true, false, 0⟩, some ⟨.pc [], 0, .none, 0, true, false, 0⟩])
  · (refine ⟨0, ?_⟩; simp (maxSteps := 2000000) -implicitDefEqProofs [-getElem?_pos, List.getElem?_cons_zero, List.getElem?_cons_succ, go_sem, eqV, plen, loadV, storeV, assignV, emC])
  apply Tells.assoc
  apply Tells.seq (fr' := chFr c1 cuts c b 1 0 0 0 []) (H' := [some ⟨.pc [], 0, .none, 0, true, false, 0⟩, some ⟨.pc [], 0, .none, 0, true, false, 0⟩])
  · unfold chFr
    (refine ⟨0, ?_⟩; simp (maxSteps := 2000000) -implicitDefEqProofs [-getElem?_pos, List.getElem?_cons_zero, List.getElem?_cons_succ, go_sem, eqV, plen, loadV, storeV])
  apply Tells.andThen (P := fun fr H => ∃ c2 b2 o g i l ob acc τ, fr = chFr c1 cuts c2 b2 o acc.length g i [(16, .bool false)] ∧ (c2 = 0 → b2 = []) ∧ ChL acc l ∧ H[o]? = some (some ob) ∧ RwT (.pc l) g τ ob ∧ (τ = 0 ∨ τ = 1) ∧ acc ++ [b2] = chk b cuts)
  · refine Tells.block (P := fun fr H => ∃ c2 b2 o g i l ob acc τ, fr = chFr c1 cuts c2 b2 o acc.length g i [(16, .bool false)] ∧ (c2 = 0 → b2 = []) ∧ ChL acc l ∧ H[o]? = some (some ob) ∧ RwT (.pc l) g τ ob ∧ (τ = 0 ∨ τ = 1) ∧ acc ++ [b2] = chk b cuts) ?_
    refine Tells.loopP (fun k fr H => ∃ b2 o g i l ob acc τ, k = cuts.length - i ∧ i ≤ cuts.length ∧ acc.length = i ∧ fr = chFr c1 cuts c b2 o acc.length g i [] ∧ (c = 0 → b2 = []) ∧ b2.length ≤ 1000000 ∧ ChL acc l ∧ H[o]? = some (some ob) ∧ RwT (.pc l) g τ ob ∧ (τ = 0 ∨ τ = 1) ∧ acc ++ chk b2 (cuts.drop i) = chk b cuts) ?_ (k := cuts.length) ⟨b, 1, 0, 0, [], _, [], 0, rfl, by omega, rfl, rfl, hc, hb, trivial, rfl, ⟨rfl, rfl, rfl, rfl, rfl⟩, .inl rfl, rfl⟩
    rintro k fr H ⟨b2, o, g, i, l, ob, acc, τ, rfl, hi, hai, rfl, hc2, hb2, hl, ho, hw, hτ, hX⟩
    apply Tells.assoc
    apply Tells.seq (piece (ch_r3 c1 cuts c b2 o acc.length g i) _ rfl)
    by_cases hgo : i < cuts.length ∧ 0 < b2.length
    · rw [show decide (i < cuts.length ∧ 0 < b2.length) = true from decide_eq_true hgo]
      apply Tells.seq (fr' := chFr c1 cuts c b2 o acc.length g i [(16, .bool true)]) (H' := H)
      · exact Run.cond (d := true) rfl ⟨0, rfl⟩
      obtain ⟨x, hx⟩ : ∃ x, cuts[i]? = some x := ⟨_, List.getElem?_eq_getElem hgo.1⟩
      have hdr : cuts.drop i = x :: cuts.drop (i + 1) := by
        obtain ⟨h1, h2⟩ := List.getElem?_eq_some_iff.1 hx
        rw [List.drop_eq_getElem_cons h1, h2]
      rw [hdr, chk, if_neg (by omega)] at hX
      have r5 := ch_r5 c1 cuts (H := H) c b2 o acc.length g i x hx hb2
      obtain ⟨n, hn⟩ : ∃ n, n = min (pk x 8) b2.length := ⟨_, rfl⟩
      rw [← hn] at hX r5
      obtain ⟨H', l', ob', k1, k2, k3, k4⟩ := ch_r67 c1 cuts (H := H) c b2 o g i n τ l acc ob hc2 (by omega) ho hw hτ hl (by omega)
      have w1 : IntKind.i64.wrap ((i : Int) + 1) = ((i + 1 : Nat) : Int) := by rw [wrap_i64 (by omega) (by omega)]; omega
      apply Tells.andThen (P := fun fr H'' => fr = chFr c1 cuts c (b2.drop n) o (acc.length + 1) (g + 1) i [] ∧ H'' = H')
      · refine Tells.blk ?_ (fun o h => by rw [h.1]; simp)
        exact Tells.seq (piece r5 _ rfl) (Tells.of (k4 _ _ rfl rfl) ⟨rfl, rfl, rfl⟩)
      rintro fr H'' ⟨rfl, rfl⟩
      refine Tells.of (o := ⟨.normal, chFr c1 cuts c (b2.drop n) o (acc.length + 1) (g + 1) (i + 1) [], H''⟩) ⟨0, ?_⟩ (.inl ⟨rfl, cuts.length - (i + 1), by omega, b2.drop n, o, g + 1, i + 1, l', ob', acc ++ [b2.take n], 1, rfl, by omega, by simp [hai], by simp, fun h => by rw [hc2 h]; simp, by simp; omega, k1, k2, k3, .inr rfl, by rw [← hX]; simp⟩)
      unfold chFr
      generalize acc.length + 1 = N at *
      simp (maxSteps := 2000000) -implicitDefEqProofs [-getElem?_pos, List.getElem?_cons_zero, List.getElem?_cons_succ, go_sem, eqV, plen, loadV, storeV, w1]
    · rw [show decide (i < cuts.length ∧ 0 < b2.length) = false from decide_eq_false hgo]
      refine Tells.of (o := ⟨.exit 0, chFr c1 cuts c b2 o acc.length g i [(16, .bool false)], H⟩) (Run.seq_out (Run.cond (d := false) rfl ⟨0, rfl⟩) (by simp)) (.inr ⟨by simp, rfl, c, b2, o, g, i, l, ob, acc, τ, rfl, hc2, hl, ho, hw, hτ, ?_⟩)
      rw [← hX]
      congr 1
      by_cases hil : i < cuts.length
      · have hb0 : b2.length = 0 := by omega
        have hdr := List.drop_eq_getElem_cons hil
        rw [hdr, chk, if_pos hb0]
      · rw [List.drop_of_length_le (by omega)]; rfl
  rintro fr H ⟨c2, b2, o, g, i, l, ob, acc, τ, rfl, hc2, hl, ho, hw, hτ, hX⟩
  have hll := chL_len hl
  have hcl2 := chk_len b cuts
  rw [← hX] at hcl2 ⊢
  simp only [List.length_append, List.length_cons, List.length_nil] at hcl2 ⊢
  have hS := bsC H c2 (.pb b2) 1
  obtain ⟨ob', w1, w2⟩ := app_ch (v := .ro c2 (.pb b2) 1) (src := .ro 1 (.pc [.ro c2 (.pb b2) 1]) 1) ho hw hτ (by simp [srcV, payB, ptag]) (by omega)
  rw [hll] at w2
  refine Tells.of (o := ⟨.ret, [(4, .sl o 0 (acc.length + 1) (g + 1))], upd H o (some ob')⟩) ⟨0, ?_⟩ ⟨rfl, o, g + 1, ob', _, chL_snoc hl ⟨c2, 1, hc2, rfl⟩, rfl, at_set ho, w1⟩
  unfold chFr
  generalize acc.length = N at *
  simp (maxSteps := 2000000) -implicitDefEqProofs [-getElem?_pos, List.getElem?_cons_zero, List.getElem?_cons_succ, go_sem, eqV, plen, loadV, storeV, hS, w2, assignV]

end

theorem chunks_ev {H : AM.Heap} {bo g t c1 : Nat} {ob : AM.Obj} {b : List UInt8} {cuts : List Int} (ho : H[bo]? = some (some ob)) (hw : Rw (.pb b) g ob) (hb : b.length ≤ 1000000) (hcl : cuts.length ≤ 100000) :
    ∃ ob' l, ChL (chk b cuts) l ∧ Rw (.pc l) 0 ob' ∧ evT X 21 [.sl bo 0 b.length g, .ro c1 (.pi .i64 cuts) t] H = some (.sl H.length 0 (chk b cuts).length 0, upd H bo none ++ [some ob']) := by
  have hlive : live H bo g = some ob := by simp [live, ho, hw.g]
  have hrw0 : X.rw 21 0 = false := rfl
  have hrw1 : X.rw 21 1 = false := rfl
  have hl : lendArgs X 21 H 0 [.sl bo 0 b.length g, .ro c1 (.pi .i64 cuts) t] = some ([.ro (if ob.z = 0 ∧ AM.plen ob.p = 0 then 0 else 2) (.pb b) 1, .ro c1 (.pi .i64 cuts) 2], [⟨[bo], [0]⟩, ⟨[], [t]⟩]) := by
    simp only [lendArgs, hrw0, hrw1, lendV, lend1, hlive, hw.ids, hw.p, hw.tg, psub]
    simp
  have hc0 : (if ob.z = 0 ∧ AM.plen ob.p = 0 then 0 else 2) = 0 → b = [] := by
    intro h
    split at h
    · rename_i h2
      rw [hw.p] at h2
      exact List.eq_nil_of_length_eq_zero h2.2
    · cases h
  obtain ⟨code, hcode, o, ⟨he, o1, g1, ob1, l, h1, h4, h5, h6⟩, hr⟩ := chunks_code c1 cuts _ b hc0 hb hcl
  obtain ⟨ob', l', k1, k2, k3⟩ := Ev1.newBor (C := X) (H := H) (n := (chk b cuts).length) (rest := []) (P := ChL (chk b cuts)) (evT_below X) Try.func21 hcode hl rfl (by simp [idsL, ids]) (by simp [gtag]) rfl rfl rfl (fun l h => chL_ids h) (fun l τ h => chL_ren h)
    ⟨o, ⟨he, o1, g1, ob1, l, h1, by show some [getF o.fr 4] = _; rw [h4], h5, h6.p, h6.g, h6.row, h6.ids, h6.tg⟩, by rw [par21]; exact hr⟩
  exact ⟨ob', l', k1, k2, evT_eq k3⟩

end Go.Proofs.Ytconnpileacfeaa
