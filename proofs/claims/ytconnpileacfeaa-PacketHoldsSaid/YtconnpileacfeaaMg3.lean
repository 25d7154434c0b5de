/- HC to HI: texts of this claim, one behind the other; what each shows stands at its head. -/
import Derived.Test.YtconnpileacfeaaAm4
import Derived.Test.YtconnpileacfeaaMg2
/- Walks: a reader that a caller holds, fed: within. -/
namespace Go.Proofs.Ytconnpileacfeaa
open Go.AM
set_option linter.unusedSimpArgs false
set_option linter.unusedVariables false
variable {mm : Nat}

theorem SlC.at0 {t : Nat} {H H' : AM.Heap} {o : Nat} {oa : Option Nat} {v : AV} {l : List UInt8} (h : SlC t H o oa v l) (hk : ∀ a, oa = some a → H'[a]? = H[a]?) : SlC t H' o oa v l := by
  cases oa with
  | none => exact h
  | some a =>
    obtain ⟨⟨off, g, τ, ob, L, h1, h2, ho, h3⟩, hne⟩ := h
    exact ⟨⟨off, g, τ, ob, L, h1, h2, by rw [hk a rfl]; exact ho, h3⟩, hne⟩

/-- there is a reader: none tells -/
theorem hnone_ev {t : Nat} {H : AM.Heap} {o : Nat} {s : Rd} {oa oc : Option Nat} (h : RdC t H o s oa oc) (hm : 0 < s.m) :
    ∃ H', evT X 28 [.ptr o 0 0 0] H = some (.bool false, H') ∧ RdC t H' o s oa oc ∧ H'.length = H.length ∧ ∀ j, j ∉ rdπ o oa oc → H'[j]? = H[j]? := by
  have hw : ∀ E, RdC 2 E 0 s (oa.map fun _ => 1) (oc.map fun _ => 2) → ∃ code, Try.f28.body = some code ∧ Tells (Rets fun fr E' => resultsV X fr E' Try.f28.results.toList = some [.bool false] ∧ RdC 2 E' 0 s (oa.map fun _ => 1) (oc.map fun _ => 2)) X (evT X) 28 (rdπ o oa oc).length code [(0, .ptr 0 0 0 0)] E := by
    intro E hE
    obtain ⟨⟨vr, vb, τ, _, h0, _⟩, _⟩ := id hE
    obtain ⟨code, hc, hr⟩ := none_code (s := s) (m := (rdπ o oa oc).length) vr vb E τ h0 hm
    exact ⟨code, hc, ⟨_, ⟨rfl, rfl, hE⟩, hr⟩⟩
  obtain ⟨_, _, _, _, _, hE⟩ := h.into (n := 2)
  obtain ⟨code, hc, _⟩ := hw _ hE
  have := look_ev (f := 28) (l := [.bool false]) Try.func28 hc rfl (by rw [par28]; rfl) rfl rfl rfl (fun E hE => by
    obtain ⟨code2, hc2, hr⟩ := hw E hE
    rw [hc] at hc2
    obtain rfl := Option.some.inj hc2
    exact hr) h
  simpa [resultV] using this

section
variable {H : AM.Heap} {s : Rd} {oa oc : Option Nat} (c : Nat) (b : List UInt8)

set_option maxRecDepth 100000 in
set_option maxHeartbeats 4000000 in
theorem hf_b0 {H1 : AM.Heap} {vr vb : AV} {τ : Nat} (hn : evT X 28 [.ptr 0 0 0 0] H = some (.bool false, H1)) (h0 : H1[0]? = some (some (rdBx s vr vb τ))) (hst : s.st = 0) :
    ∃ code, ((Try.f18.body).bind (codeAt [1, 0])) = some code ∧ Run X (evT X) 18 mm code [(0, .ptr 0 0 0 0), (1, .ro c (.pb b) 2)] H ⟨.normal, [(0, .ptr 0 0 0 0), (1, .ro c (.pb b) 2), (12, .bool false)], H1⟩ := by
  refine ⟨_, rfl, 0, ?_⟩
  simp only [rdBx, Rd.pay, hst] at h0
  simp (maxSteps := 2000000) -implicitDefEqProofs [-getElem?_pos, List.getElem?_cons_zero, List.getElem?_cons_succ, go_sem, eqV, plen, loadV, storeV, hn, h0]

set_option maxRecDepth 100000 in
set_option maxHeartbeats 4000000 in
theorem hf_b0s {H1 : AM.Heap} {vr vb : AV} {τ : Nat} (hn : evT X 28 [.ptr 0 0 0 0] H = some (.bool false, H1)) (h0 : H1[0]? = some (some (rdBx s vr vb τ))) (hst : s.st ≠ 0) :
    ∃ code, ((Try.f18.body).bind (codeAt [1, 0])) = some code ∧ Run X (evT X) 18 mm code [(0, .ptr 0 0 0 0), (1, .ro c (.pb b) 2)] H ⟨.ret, [(4, .sl H1.length 0 0 0), (5, .int .i64 9)], H1 ++ [some nilK]⟩ := by
  refine ⟨_, rfl, 0, ?_⟩
  have h1 : (s.st == 0) = false := by simp [hst]
  simp only [rdBx, Rd.pay] at h0
  simp (maxSteps := 2000000) -implicitDefEqProofs [-getElem?_pos, List.getElem?_cons_zero, List.getElem?_cons_succ, go_sem, eqV, plen, loadV, storeV, hn, h0, hst, h1, assignV, emK]

/-- bytes appended to what a reader holds -/
theorem SlC.app {v : AV} {l : List UInt8} (h : SlC 3 H 0 oa v l) (hH : 0 < H.length) (hb : l.length + b.length ≤ 900000) : ∃ a v' H', appendV X H 22 v (.ro c (.pb b) 2) = some (v', H') ∧ SlO 3 H' a v' (l ++ b) ∧ 0 < a ∧ (oa = some a ∨ (oa = none ∧ a = H.length)) ∧ (∀ j, j ≠ a → j < H.length → H'[j]? = H[j]?) ∧ (oa = none → H'.length = H.length + 1) ∧ (∀ x, oa = some x → H'.length = H.length) := by
  have hsrc : srcV H (.ro c (.pb b) 2) = some (.pb b, 0) := by simp [srcV, payB, ptag]
  cases oa with
  | none =>
    obtain ⟨τ, hτ, rfl, rfl⟩ := h
    have hb2 : b.length ≤ 900000 := by simpa using hb
    have hroom : roomOk X 5 b.length = true := by simp [roomOk]; omega
    have hat : (H ++ [some (⟨.pb b, 0, .none, 0, true, false, 0⟩ : AM.Obj)])[H.length]? = some (some ⟨.pb b, 0, .none, 0, true, false, 0⟩) := by simp
    refine ⟨H.length, .sl H.length 0 b.length 0, H ++ [some ⟨.pb b, 0, .none, 0, true, false, 0⟩], ?_, ⟨0, 0, 0, _, b, .inl rfl, rfl, hat, ⟨rfl, rfl, rfl, rfl, rfl⟩, rfl, by omega, by omega⟩, hH, .inr ⟨rfl, rfl⟩, fun j h1 h2 => by rw [List.getElem?_append_left h2], fun _ => (by simp), fun x h => (by cases h)⟩
    simp only [appendV, und22, size5, zok5, hsrc]
    simp [payB, plen, hroom, papp, emptyRow, pesz]
  | some a =>
    obtain ⟨⟨off, g, τ, ob, L, hτ, rfl, ho, hw, h1, h2, h3⟩, hne⟩ := h
    obtain ⟨ob', w1, w2⟩ := app_off (C := X) (T := 22) (e := 5) (src := .ro c (.pb b) 2) und22 und5 size5 bytes5 zok5 ho hw h2 (.inl hsrc) (by omega)
    rw [h1] at w1 w2
    refine ⟨a, _, _, w2, ⟨0, g + 1, τ, ob', l ++ b, hτ, by rw [List.length_append], at_set ho, w1, rfl, by omega, by simp; omega⟩, by omega, .inl rfl, fun j h1 h2 => by unfold upd; rw [List.getElem?_set_ne (by omega)], fun h => (by cases h), fun x _ => (by simp [upd])⟩

set_option maxRecDepth 100000 in
set_option maxHeartbeats 4000000 in
theorem hf_r5 (h : RdC 3 H 0 s oa oc) (hb : s.rest.length + b.length ≤ 900000) : ∃ a H', RdI 3 H' { s with rest := s.rest ++ b } a oc ∧ (oa = some a ∨ (oa = none ∧ a = H.length)) ∧ (oa = none → H'.length = H.length + 1) ∧ (∀ x, oa = some x → H'.length = H.length) ∧
    ∃ code, ((Try.f18.body).bind (codeAt [1, 1, 0])) = some code ∧ Run X (evT X) 18 mm code [(0, .ptr 0 0 0 0), (1, .ro c (.pb b) 2), (12, .bool false)] H ⟨.normal, [(0, .ptr 0 0 0 0)], H'⟩ := by
  obtain ⟨⟨vr, vb, τ, hτ, h0, hr, hbd⟩, hne, hfr⟩ := id h
  obtain ⟨a, v', H', hA, hS, a0, hoa, hk, hl1, hl2⟩ := hr.app c b (at_lt h0) hb
  have hH := at_lt h0
  have k0 : H'[0]? = some (some (rdBx s vr vb τ)) := by rw [hk 0 (by omega) hH]; exact h0
  refine ⟨a, upd H' 0 (some (rdBx { s with rest := s.rest ++ b } v' vb τ)), ⟨⟨v', vb, τ, hτ, at_set k0, hS.ne (by omega), ?_⟩, a0⟩, hoa, fun h => by rw [← hl1 h]; simp [upd], fun x h => by rw [← hl2 x h]; simp [upd], _, rfl, ?_⟩
  · cases oc with
    | none => exact hbd
    | some c2 =>
      have hac : c2 ≠ a := by
        rcases hoa with h1 | ⟨h1, _⟩
        · exact Ne.symm (hne a c2 h1 rfl)
        · exact absurd (hfr h1) (by simp)
      obtain ⟨hbo, hc0⟩ := hbd
      have hlt := hbo.lt
      obtain ⟨off, g, τ1, ob, L, e1, e2, ho, e3⟩ := hbo
      refine ⟨⟨off, g, τ1, ob, L, e1, e2, at_ne (by rw [hk c2 hac hlt]; exact ho) (by omega), e3⟩, by omega, hac⟩
  · obtain ⟨off, g, τ1, ob, L, e1, rfl, ho', e3⟩ := hS
    clear e3
    generalize (s.rest ++ b).length = N at *
    simp only [rdBx, Rd.pay] at h0 k0 ⊢
    (refine ⟨0, ?_⟩; simp (maxSteps := 2000000) -implicitDefEqProofs [-getElem?_pos, List.getElem?_cons_zero, List.getElem?_cons_succ, go_sem, eqV, plen, loadV, storeV, h0, k0, hA])

/-- how a held reader fed tells -/
def hdR (s : Rd) (b : List UInt8) : Rd × List Pk × Int := if s.st ≠ 0 then (s, [], 9) else fdL ((s.rest ++ b).length + 1) { s with rest := s.rest ++ b } []
def hfQ (oa1 oc1 : Option Nat) (x : Rd × List Pk × Int) (fr : AM.Frame) (E : AM.Heap) : Prop := ∃ O g oa oc, getF fr 4 = .sl O 0 x.2.1.length g ∧ getF fr 5 = .int .i64 x.2.2 ∧ RdC 3 E 0 x.1 oa oc ∧ PkR 3 E O x.2.1.length g x.2.1 ∧ 0 < O ∧ (∀ a, oa = some a → a ≠ O) ∧ (∀ c, oc = some c → c ≠ O) ∧ Kp oc1 oc E ∧ (∀ a, oa1 = some a → oa = some a)

theorem RdC.keep {t : Nat} {H H' : AM.Heap} {o : Nat} {s : Rd} {oa oc : Option Nat} (h : RdC t H o s oa oc) (hk : ∀ j, j < H.length → H'[j]? = H[j]?) : RdC t H' o s oa oc := by
  obtain ⟨⟨vr, vb, τ, hτ, h0, hr, hb⟩, hne, hfr⟩ := h
  refine ⟨⟨vr, vb, τ, hτ, by rw [hk _ (at_lt h0)]; exact h0, hr.at0 ?_, hb.at0 ?_⟩, hne, hfr⟩
  · intro a ha
    obtain ⟨ob, L, h1, _⟩ := hr.ob.2.2 a ha
    exact hk a (at_lt h1)
  · intro a ha
    obtain ⟨ob, L, h1, _⟩ := hb.ob.2.2 a ha
    exact hk a (at_lt h1)
theorem RdC.lt {t : Nat} {H : AM.Heap} {o : Nat} {s : Rd} {oa oc : Option Nat} (h : RdC t H o s oa oc) : o < H.length ∧ (∀ a, oa = some a → a < H.length ∧ a ≠ o) ∧ (∀ c, oc = some c → c < H.length ∧ c ≠ o) := by
  obtain ⟨⟨vr, vb, τ, hτ, h0, hr, hb⟩, hne, hfr⟩ := h
  refine ⟨at_lt h0, ?_, ?_⟩
  · intro a ha
    obtain ⟨ob, L, h1, _⟩ := hr.ob.2.2 a ha
    subst ha
    exact ⟨at_lt h1, hr.2⟩
  · intro a ha
    obtain ⟨ob, L, h1, _⟩ := hb.ob.2.2 a ha
    subst ha
    exact ⟨at_lt h1, hb.2⟩
theorem RdC.cat {t : Nat} {H r : AM.Heap} {o : Nat} {s : Rd} {oa oc : Option Nat} (h : RdC t H o s oa oc) : RdC t (H ++ r) o s oa oc := h.keep fun j hj => List.getElem?_append_left hj

theorem pkR0 {t : Nat} {H : AM.Heap} {O : Nat} (h : H[O]? = some (some nilK)) : PkR t H O 0 0 [] := ⟨[], nilK, 0, .inl rfl, trivial, rfl, h, ⟨rfl, rfl, rfl, rfl, rfl⟩⟩

set_option maxRecDepth 100000 in
set_option maxHeartbeats 4000000 in
theorem hfeed_code {E : AM.Heap} {oa1 oc1 : Option Nat} (h : RdC 3 E 0 s oa1 oc1) (hm : 0 < s.m) (hnx : s.nx < 256) (hb : s.rest.length + s.body.length + b.length ≤ 900000) : ∃ code, Try.f18.body = some code ∧
    Tells (Rets (hfQ oa1 oc1 (hdR s b))) X (evT X) 18 mm code [(0, .ptr 0 0 0 0), (1, .ro c (.pb b) 2)] E := by
  refine ⟨_, rfl, ?_⟩
  have h1 : RdC 3 (E ++ [some nilK]) 0 s oa1 oc1 := h.cat
  obtain ⟨E2, hn, h2, hl2, hk2⟩ := hnone_ev h1 hm
  apply Tells.seq (fr' := [(0, .ptr 0 0 0 0), (1, .ro c (.pb b) 2)]) (H' := E ++ [some nilK])
  · (refine ⟨0, ?_⟩; simp (maxSteps := 2000000) -implicitDefEqProofs [-getElem?_pos, List.getElem?_cons_zero, List.getElem?_cons_succ, go_sem, eqV, plen, loadV, storeV, assignV, emK])
  obtain ⟨⟨vr, vb, τ, _, h02, _⟩, _⟩ := id h2
  by_cases hst : s.st ≠ 0
  · have hlt := h2.lt
    rw [show hdR s b = (s, [], 9) by unfold hdR; rw [if_pos hst]]
    exact Tells.of (o := ⟨.ret, [(4, .sl E2.length 0 0 0), (5, .int .i64 9)], E2 ++ [some nilK]⟩) (Run.seq_out (piece (hf_b0s c b hn h02 hst) _ rfl) (by simp)) ⟨rfl, E2.length, 0, oa1, oc1, rfl, rfl, h2.cat, pkR0 (by simp), by omega, fun a ha => by have := hlt.2.1 a ha; omega, fun a ha => by have := hlt.2.2 a ha; omega, fun c h => .inl h, fun a h => h⟩
  have hst0 : s.st = 0 := by simpa using hst
  apply Tells.seq (piece (hf_b0 c b hn h02 hst0) _ rfl)
  obtain ⟨a, E3, h3, ha3, hl3, hl3', hr3⟩ := hf_r5 (mm := mm) c b h2 (by omega)
  apply Tells.seq (piece hr3 _ rfl)
  apply Tells.seq (fr' := fdFr E3.length ([] : List Pk).length 0 []) (H' := E3 ++ [some nilK])
  · unfold fdFr
    (refine ⟨0, ?_⟩; simp (maxSteps := 2000000) -implicitDefEqProofs [-getElem?_pos, List.getElem?_cons_zero, List.getElem?_cons_succ, go_sem, eqV, plen, loadV, storeV, assignV, emK])
  have hR : hdR s b = fdL ((s.rest ++ b).length + 1) { s with rest := s.rest ++ b } [] := by unfold hdR; rw [if_neg hst]
  rw [hR]
  have h3c : RdI 3 (E3 ++ [some nilK]) { s with rest := s.rest ++ b } a oc1 := h3.rdC.cat.rdI
  have hlt3 := h3.rdC.lt
  have hoff : Off E3.length a oc1 := ⟨by omega, by have := hlt3.2.1 a rfl; omega, fun c hc => by have := hlt3.2.2 c hc; omega⟩
  have hfin : ∀ fr H, fdQ a oc1 (fdL ((s.rest ++ b).length + 1) { s with rest := s.rest ++ b } []) fr H → hfQ oa1 oc1 (fdL ((s.rest ++ b).length + 1) { s with rest := s.rest ++ b } []) fr H := by
    rintro fr H ⟨O, g, oc, q4, q5, hI, hp, ⟨o1, o2, o3⟩, hK⟩
    refine ⟨O, g, some a, oc, q4, q5, hI.rdC, hp, o1, fun x hx => by cases hx; omega, o3, hK, fun x hx => ?_⟩
    rcases ha3 with h | ⟨h, _⟩
    · rw [← h]; exact hx
    · rw [h] at hx; cases hx
  have hL := fd_loop (mm := mm) (H0 := E3 ++ [some nilK]) { s with rest := s.rest ++ b } a E3.length 0 oc1 [] ((s.rest ++ b).length + 1) h3c (pkR0 (by simp)) hoff ⟨hnx, by simp; omega⟩ (by simp)
  apply Tells.or (P := fdP a oc1 (fdL ((s.rest ++ b).length + 1) { s with rest := s.rest ++ b } []))
  · refine (piece hL _ rfl).mono ?_
    rintro o (h | ⟨h1, h2⟩)
    · exact .inl h
    · exact .inr ⟨by rw [h2.1]; simp, h2.1, hfin _ _ h2.2⟩
  rintro fr H ⟨O, g, oc, tl, rfl, htl, he, h1, h2, h3, h4⟩
  refine Tells.of (o := ⟨.ret, [(4, .sl O 0 (fdL ((s.rest ++ b).length + 1) { s with rest := s.rest ++ b } []).2.1.length g), (5, .int .i64 0)], H⟩) ⟨0, ?_⟩ ⟨rfl, hfin _ _ ⟨O, g, oc, rfl, by rw [he]; rfl, h1, h2, h3, h4⟩⟩
  clear hfin hL hn
  generalize (fdL ((s.rest ++ b).length + 1) { s with rest := s.rest ++ b } []).2.1.length = N
  unfold fdFr
  rcases htl with rfl | ⟨v, rfl⟩
  · simp (maxSteps := 2000000) -implicitDefEqProofs [-getElem?_pos, List.getElem?_cons_zero, List.getElem?_cons_succ, go_sem, eqV, plen, loadV, storeV, assignV]
  · simp (maxSteps := 2000000) -implicitDefEqProofs [-getElem?_pos, List.getElem?_cons_zero, List.getElem?_cons_succ, go_sem, eqV, plen, loadV, storeV, assignV]

end

end Go.Proofs.Ytconnpileacfeaa

/- Events: a reader that a caller holds, fed. -/
namespace Go.Proofs.Ytconnpileacfeaa
open Go.AM
set_option linter.unusedSimpArgs false
set_option linter.unusedVariables false

/-- what lies behind a reader that was handed over with n objects, and payloads, can be brought back -/
def NewC (E : AM.Heap) (n O : Nat) (oa oc : Option Nat) : Prop := ∃ new, (reach E reachFuel (List.range n ++ [O]) []).filter (fun o => decide (n ≤ o)) = new ∧ n ≤ O ∧ (∃ i, ∀ k, idxOf new O k = some (k + i) ∧ new[i]? = some O) ∧ O ∈ new ∧
  (∀ a, oa = some a → a < n ∨ (n ≤ a ∧ a ∈ new)) ∧ (∀ a, oc = some a → a < n ∨ (n ≤ a ∧ a ∈ new)) ∧ ∀ k, (k < n ∨ k ∈ new) → ∀ ob, obAt E k = some ob → okTags 3 ob ∧ ∀ l, ob.p ≠ .pm l

theorem newC_of {E : AM.Heap} {n O N g : Nat} {s : Rd} {oa oc : Option Nat} {out : List Pk} {new : List Nat} (h : RdC 3 E 0 s oa oc) (hout : PkR 3 E O N g out) (hR : (reach E reachFuel (List.range n ++ [O]) []).filter (fun o => decide (n ≤ o)) = new) (hO : n ≤ O) (hi : ∃ i, ∀ k, idxOf new O k = some (k + i) ∧ new[i]? = some O)
    (h1 : ∀ a, oa = some a → a < n ∨ (n ≤ a ∧ a ∈ new)) (h2 : ∀ a, oc = some a → a < n ∨ (n ≤ a ∧ a ∈ new)) (h3 : ∀ k, (k < n ∨ k ∈ new) → k ∈ rdπ 0 oa oc ∨ k = O ∨ E[k]? = some none) : NewC E n O oa oc := by
  refine ⟨new, hR, hO, hi, ?_, h1, h2, fun k hk ob hob => ?_⟩
  · obtain ⟨i, hi⟩ := hi
    exact List.mem_of_getElem? (hi 0).2
  · rcases h3 k hk with h4 | rfl | h4
    · exact h.ok h4 hob
    · obtain ⟨l, oo, τo, hτo, hf, hN, ho, hw⟩ := hout
      have hob : oo = ob := by simpa [obAt, ho] using hob
      rw [← hob]
      exact ⟨⟨by rw [hw.p]; exact pkL_tags hf, by rw [hw.tg]; exact hτo⟩, by rw [hw.p]; simp⟩
    · simp [obAt, h4] at hob

theorem newC {E : AM.Heap} {O N g : Nat} {s : Rd} {oa0 oc0 oa oc : Option Nat} {out : List Pk} (h : RdC 3 E 0 s oa oc) (hout : PkR 3 E O N g out) (O0 : 0 < O) (Oa : ∀ a, oa = some a → a ≠ O) (Oc : ∀ c, oc = some c → c ≠ O) (hK : Kp (oc0.map fun _ => 2) oc E) (hA : ∀ a, (oa0.map fun _ => 1) = some a → oa = some a) (hfr0 : oa0 = none → oc0 = none) :
    NewC E (rdπ 0 oa0 oc0).length O oa oc := by
  obtain ⟨⟨vr, vb, τ, hτ, h0, hr, hb⟩, hne, hfr⟩ := id h
  obtain ⟨ri, rt, ro⟩ := hr.ob
  obtain ⟨bi, bt, bo⟩ := hb.ob
  obtain ⟨_, hla, hlc⟩ := h.lt
  have hpid : ids (s.pay vr vb) = oa.toList ++ oc.toList := by rw [idsRd, ri, bi]
  obtain ⟨l, oo, τo, hτo, hf, hN, ho, hw⟩ := id hout
  have hoi := hw.ids
  cases oa0 with
  | none =>
    obtain rfl := hfr0 rfl
    cases oa with
    | none =>
      obtain rfl := hfr rfl
      refine newC_of (new := [O]) h hout ?_ O0 ⟨0, fun k => ⟨by simp [idxOf], rfl⟩⟩ (fun a h => by cases h) (fun a h => by cases h) ?_
      · show (reach E (99996 + 1 + 1 + 1 + 1) [0, O] []).filter (fun o => decide (1 ≤ o)) = [O]
        simp at hpid
        simp [reach, h0, rdBx, hpid, ho, hoi, show O ≠ 0 by omega, show 1 ≤ O by omega]
      · intro k hk
        simp [rdπ] at hk ⊢
        omega
    | some a =>
      obtain ⟨oba, L, ha, hai, _⟩ := ro a rfl
      have a0 := (hla a rfl).2
      have aO := Oa a rfl
      cases oc with
      | none =>
        refine newC_of (new := [a, O]) h hout ?_ O0 ⟨1, fun k => ⟨by simp [idxOf, aO], rfl⟩⟩ (fun x h => by cases h; exact .inr ⟨by simp [rdπ]; omega, by simp⟩) (fun a h => by cases h) ?_
        · show (reach E (99995 + 1 + 1 + 1 + 1 + 1) [0, O] []).filter (fun o => decide (1 ≤ o)) = [a, O]
          simp at hpid
          simp [reach, h0, rdBx, hpid, ho, hoi, ha, hai, a0, Ne.symm aO, show O ≠ 0 by omega, show 1 ≤ O by omega, show 1 ≤ a by omega]
        · intro k hk
          simp [rdπ] at hk ⊢
          omega
      | some c =>
        obtain ⟨obc, L2, hc, hci, _⟩ := bo c rfl
        have c0 := (hlc c rfl).2
        have cO := Oc c rfl
        have ac := hne a c rfl rfl
        refine newC_of (new := [a, c, O]) h hout ?_ O0 ⟨2, fun k => ⟨by simp [idxOf, aO, cO], rfl⟩⟩ (fun x h => by cases h; exact .inr ⟨by simp [rdπ]; omega, by simp⟩) (fun x h => by cases h; exact .inr ⟨by simp [rdπ]; omega, by simp⟩) ?_
        · show (reach E (99993 + 1 + 1 + 1 + 1 + 1 + 1 + 1) [0, O] []).filter (fun o => decide (1 ≤ o)) = [a, c, O]
          simp at hpid
          simp [reach, h0, rdBx, hpid, ho, hoi, ha, hai, hc, hci, a0, c0, Ne.symm aO, Ne.symm cO, Ne.symm ac, show O ≠ 0 by omega, show 1 ≤ O by omega, show 1 ≤ a by omega, show 1 ≤ c by omega]
        · intro k hk
          simp [rdπ] at hk ⊢
          omega
  | some a0 =>
    obtain rfl := hA 1 rfl
    obtain ⟨oba, L, ha, hai, _⟩ := ro 1 rfl
    have aO := Oa 1 rfl
    cases oc0 with
    | none =>
      cases oc with
      | none =>
        refine newC_of (new := [O]) h hout ?_ (by simp [rdπ]; omega) ⟨0, fun k => ⟨by simp [idxOf], rfl⟩⟩ (fun x h => by cases h; exact .inl (by simp [rdπ])) (fun a h => by cases h) ?_
        · show (reach E (99994 + 1 + 1 + 1 + 1 + 1 + 1) [0, 1, O] []).filter (fun o => decide (2 ≤ o)) = [O]
          simp at hpid
          simp [reach, h0, rdBx, hpid, ho, hoi, ha, hai, Ne.symm aO, show O ≠ 0 by omega, show 2 ≤ O by omega]
        · intro k hk
          simp [rdπ] at hk ⊢
          omega
      | some c =>
        obtain ⟨obc, L2, hc, hci, _⟩ := bo c rfl
        have c0 := (hlc c rfl).2
        have cO := Oc c rfl
        have ac := hne 1 c rfl rfl
        refine newC_of (new := [c, O]) h hout ?_ (by simp [rdπ]; omega) ⟨1, fun k => ⟨by simp [idxOf, cO], rfl⟩⟩ (fun x h => by cases h; exact .inl (by simp [rdπ])) (fun x h => by cases h; exact .inr ⟨by simp [rdπ]; omega, by simp⟩) ?_
        · show (reach E (99992 + 1 + 1 + 1 + 1 + 1 + 1 + 1 + 1) [0, 1, O] []).filter (fun o => decide (2 ≤ o)) = [c, O]
          simp at hpid
          simp [reach, h0, rdBx, hpid, ho, hoi, ha, hai, hc, hci, c0, Ne.symm aO, Ne.symm cO, Ne.symm ac, show O ≠ 0 by omega, show 2 ≤ O by omega, show 2 ≤ c by omega]
        · intro k hk
          simp [rdπ] at hk ⊢
          omega
    | some c0 =>
      have hK2 := hK 2 rfl
      have O2 : O ≠ 2 := by
        rintro rfl
        rcases hK2 with h | h
        · exact Oc 2 h rfl
        · rw [h] at ho; cases ho
      cases oc with
      | none =>
        have e2 : E[2]? = some none := by
          rcases hK2 with h | h
          · cases h
          · exact h
        refine newC_of (new := [O]) h hout ?_ (by simp [rdπ]; omega) ⟨0, fun k => ⟨by simp [idxOf], rfl⟩⟩ (fun x h => by cases h; exact .inl (by simp [rdπ])) (fun a h => by cases h) ?_
        · show (reach E (99993 + 1 + 1 + 1 + 1 + 1 + 1 + 1) [0, 1, 2, O] []).filter (fun o => decide (3 ≤ o)) = [O]
          simp at hpid
          simp [reach, h0, rdBx, hpid, ho, hoi, ha, hai, e2, Ne.symm aO, show O ≠ 0 by omega, show 3 ≤ O by omega]
        · intro k hk
          simp only [rdπ, Option.toList, List.length_cons, List.length_nil, List.length_append, List.mem_cons, List.not_mem_nil, or_false, List.append_nil] at hk ⊢
          by_cases hk2 : k = 2
          · subst hk2; exact .inr (.inr e2)
          · omega
      | some c =>
        obtain ⟨obc, L2, hc, hci, _⟩ := bo c rfl
        have c0 := (hlc c rfl).2
        have cO := Oc c rfl
        have ac := hne 1 c rfl rfl
        by_cases hc2 : c = 2
        · subst hc2
          refine newC_of (new := [O]) h hout ?_ (by simp [rdπ]; omega) ⟨0, fun k => ⟨by simp [idxOf], rfl⟩⟩ (fun x h => by cases h; exact .inl (by simp [rdπ])) (fun x h => by cases h; exact .inl (by simp [rdπ])) ?_
          · show (reach E (99991 + 1 + 1 + 1 + 1 + 1 + 1 + 1 + 1 + 1) [0, 1, 2, O] []).filter (fun o => decide (3 ≤ o)) = [O]
            simp at hpid
            simp [reach, h0, rdBx, hpid, ho, hoi, ha, hai, hc, hci, Ne.symm aO, O2, show O ≠ 0 by omega, show 3 ≤ O by omega]
          · intro k hk
            simp [rdπ] at hk ⊢
            omega
        · have e2 : E[2]? = some none := by
            rcases hK2 with h | h
            · exact absurd (Option.some.inj h) hc2
            · exact h
          refine newC_of (new := [c, O]) h hout ?_ (by simp [rdπ]; omega) ⟨1, fun k => ⟨by simp [idxOf, cO], rfl⟩⟩ (fun x h => by cases h; exact .inl (by simp [rdπ])) (fun x h => by cases h; exact .inr ⟨by simp [rdπ]; omega, by simp⟩) ?_
          · show (reach E (99991 + 1 + 1 + 1 + 1 + 1 + 1 + 1 + 1 + 1) [0, 1, 2, O] []).filter (fun o => decide (3 ≤ o)) = [c, O]
            simp at hpid
            simp [reach, h0, rdBx, hpid, ho, hoi, ha, hai, hc, hci, e2, c0, Ne.symm aO, Ne.symm cO, Ne.symm ac, O2, show O ≠ 0 by omega, show 3 ≤ O by omega, show 3 ≤ c by omega]
          · intro k hk
            simp only [rdπ, Option.toList, List.length_cons, List.length_nil, List.length_append, List.mem_cons, List.not_mem_nil, or_false, List.append_nil] at hk ⊢
            by_cases hk2 : k = 2
            · subst hk2; exact .inr (.inr e2)
            · simp; omega

end Go.Proofs.Ytconnpileacfeaa

/- Events: a reader that a caller holds, fed, from outside. -/
namespace Go.Proofs.Ytconnpileacfeaa
open Go.AM
set_option linter.unusedSimpArgs false
set_option linter.unusedVariables false

set_option maxHeartbeats 4000000 in
theorem hfeed_ev {H : AM.Heap} {o c t : Nat} {b : List UInt8} {s : Rd} {oa oc : Option Nat} (h : RdC 0 H o s oa oc) (hm : 0 < s.m) (hnx : s.nx < 256) (hb : s.rest.length + s.body.length + b.length ≤ 900000) :
    ∃ O H' oa' oc', evT X 18 [.ptr o 0 0 0, .ro c (.pb b) t] H = some (.tup [.sl O 0 (hdR s b).2.1.length 0, .int .i64 (hdR s b).2.2], H') ∧ RdC 0 H' o (hdR s b).1 oa' oc' ∧ PkR 0 H' O (hdR s b).2.1.length 0 (hdR s b).2.1 ∧ H.length ≤ O ∧ H.length ≤ H'.length ∧ (∀ j, j < H.length → j ∉ rdπ o oa oc → H'[j]? = H[j]?) ∧ (∀ a, oa' = some a → a ≠ O ∧ (a ∈ rdπ o oa oc ∨ H.length ≤ a)) ∧ (∀ a, oc' = some a → a ≠ O ∧ (a ∈ rdπ o oa oc ∨ H.length ≤ a)) := by
  obtain ⟨hπ, hnd, hlt, hin, ⟨t', ht', htt⟩, hE⟩ := h.into (n := 3)
  have ht0 : t' = 0 := by omega
  subst ht0
  have hl : lendArgs X 18 H 1 [.ro c (.pb b) t] = some ([.ro c (.pb b) 2], [⟨[], [t]⟩]) := rfl
  obtain ⟨code, hcode, hrun⟩ := hfeed_code (mm := (rdπ o oa oc).length) c b hE hm hnx hb
  obtain ⟨⟨ex, fr, E⟩, ⟨he, O, g, oa1, oc1, q4, q5, hR, hp, O0, Oa, Oc, hK, hA⟩, hr⟩ := hrun
  simp only at he q4 q5 hR hp hK
  subst he
  have hlen : (rdπ o oa oc).length = (rdπ 0 oa oc).length := by rw [rdπ_len, rdπ_len]
  obtain ⟨new, hnew, hnO, ⟨i, hi⟩, hmO, hna, hnc, hok⟩ := newC hR hp O0 Oa Oc hK hA h.fr
  rw [← hlen] at hnew hnO hna hnc hok
  obtain ⟨l, oo, τo, hτo, hf, hN, hO, hw⟩ := id hp
  have hEv := Ev1.grp (C := X) (f := 18) (H := H) (o := o) (n := 3) (t := 0) (π := rdπ o oa oc) (new := new) (xs := [.ro c (.pb b) t]) (ys := [.ro c (.pb b) 2]) (lents := [⟨[], [t]⟩]) (l := [.sl O 0 (hdR s b).2.1.length g, .int .i64 (hdR s b).2.2]) (evT_below X) Try.func18 hcode rfl hπ hin hl (by simp [idsL, ids]) (by simp [disjoint]) rfl (by simp [gtag]) ht'
    (by rw [par18]; exact hr) (.inr rfl) (by show some [getF fr 4, getF fr 5] = _; rw [q4, q5])
    (by
      rw [show ids (resultV [AV.sl O 0 (hdR s b).2.1.length g, .int .i64 (hdR s b).2.2]) = [O] by simp [resultV, noTups, ids, idsL]]
      exact hnew)
    (by simp [resultV, noTups, tags, tagsL])
    hok
  have hlO : live E O g = some oo := by simp [live, hO, hw.g]
  have hbO : backN H (rdπ o oa oc) new E O g = some (H.length + i, 0) := by
    unfold backN; rw [hlO]
    simp only
    rw [if_neg (by omega), (hi H.length).1]; rfl
  have hobO : obAt E O = some oo := by simp [obAt, hO]
  have hπ0 : (rdπ o oa oc)[0]? = some o := rfl
  have hg : ∀ ob, obAt H o = some ob → ob.g = 0 := by
    intro ob hob
    obtain ⟨⟨vr, vb, τ, _, h0, _⟩, _⟩ := h
    have : rdBx s vr vb τ = ob := by simpa [obAt, h0] using hob
    rw [← this]; rfl
  obtain ⟨oa', oc', b1, b2, b3, b4⟩ := hR.back (t := 0) (H := H) (π := rdπ o oa oc) (new := new) hnd hlt hπ0 hg hna hnc
  have hatO : At H (rdπ o oa oc) new O (H.length + i) := .inr ⟨hnO, i, (hi 0).2, rfl⟩
  have hAt : ∀ a a', At H (rdπ o oa oc) new a a' → a' ∈ rdπ o oa oc ∨ H.length ≤ a' := by
    rintro a a' (⟨_, h⟩ | ⟨_, j, _, rfl⟩)
    · exact .inl (List.mem_of_getElem? h)
    · exact .inr (by omega)
  refine ⟨H.length + i, _, oa', oc', evT_eq (by simpa [resultV, noTups, AM.ren, renL, hbO] using hEv), b1, ?_, by omega, by rw [List.length_append, putBack_length]; omega, fun j hj hjo => grp_rest hj hjo, ?_, ?_⟩
  · refine ⟨renL (backN H (rdπ o oa oc) new E) (bk 3 0) l, renObj (backN H (rdπ o oa oc) new E) (bk 3 0) 0 oo, 0, .inl rfl, pkL_ren (.inl (by simp [bk])) (.inl (by simp [bk])) hf, rfl, ?_, ?_⟩
    · rw [List.getElem?_append_right (by rw [putBack_length]; omega), putBack_length, Nat.add_sub_cancel_left, List.getElem?_map, (hi 0).2]
      simp [hobO]
    · exact ⟨by simp [renObj, hw.p, AM.ren], rfl, hw.row, hw.ids, by simp [renObj, bk]⟩
  · intro a' ha'
    obtain ⟨a, e1, e2⟩ := b2 a' ha'
    exact ⟨At.inj hnd hlt e2 hatO (Oa a e1), hAt a a' e2⟩
  · intro a' ha'
    obtain ⟨a, e1, e2⟩ := b3 a' ha'
    exact ⟨At.inj hnd hlt e2 hatO (Oc a e1), hAt a a' e2⟩

end Go.Proofs.Ytconnpileacfeaa

/- Events: a reader that a caller holds: what it holds, where it stopped, what is next. -/
namespace Go.Proofs.Ytconnpileacfeaa
open Go.AM
set_option linter.unusedSimpArgs false
set_option linter.unusedVariables false

/-- how many bytes are held -/
def hlR (s : Rd) : Nat := if s.st ≠ 0 then 0 else s.rest.length + s.body.length

/-- a slice as it lies: nil, or an object's -/
theorem SlC.forms {t : Nat} {H : AM.Heap} {o : Nat} {oa : Option Nat} {v : AV} {l : List UInt8} (h : SlC t H o oa v l) : (∃ τ, v = .ro 0 .pn τ ∧ l.length = 0) ∨ ∃ a off g ob, v = .sl a off l.length g ∧ H[a]? = some (some ob) ∧ ob.g = g := by
  cases oa with
  | none =>
    obtain ⟨τ, _, rfl, rfl⟩ := h
    exact .inl ⟨τ, rfl, rfl⟩
  | some a =>
    obtain ⟨⟨off, g, τ, ob, L, hτ, rfl, ho, hw, _⟩, _⟩ := h
    exact .inr ⟨a, off, g, ob, rfl, ho, hw.g⟩

section
variable {s : Rd} {m : Nat} {oa oc : Option Nat} {E : AM.Heap}

set_option maxRecDepth 100000 in
set_option maxHeartbeats 4000000 in
theorem held_code (h : RdC 2 E 0 s oa oc) (hm : 0 < s.m) (hb : s.rest.length + s.body.length ≤ 900000) : ∃ code, Try.f19.body = some code ∧
    Tells (Rets fun fr E' => resultsV X fr E' Try.f19.results.toList = some [.int .i64 (hlR s : Nat)] ∧ RdC 2 E' 0 s oa oc) X (evT X) 19 m code [(0, .ptr 0 0 0 0)] E := by
  refine ⟨_, rfl, ?_⟩
  obtain ⟨E', hn, h', _⟩ := hnone_ev h hm
  obtain ⟨⟨vr, vb, τ, hτ, h0, hr, hbd⟩, _⟩ := id h'
  have l1 := hr.forms
  have l2 := hbd.forms
  have w : IntKind.i64.wrap ((s.rest.length : Int) + (s.body.length : Int)) = ((s.rest.length + s.body.length : Nat) : Int) := by rw [wrap_i64 (by omega) (by omega)]; omega
  simp only [rdBx, Rd.pay] at h0
  by_cases hst : s.st = 0
  · refine Tells.of (o := ⟨.ret, [(2, .int .i64 (hlR s : Nat))], E'⟩) ⟨0, ?_⟩ ⟨rfl, rfl, h'⟩
    rw [show hlR s = s.rest.length + s.body.length by unfold hlR; rw [if_neg (by simpa using hst)]]
    simp only [hst] at h0
    generalize s.rest.length = N at *
    generalize s.body.length = M at *
    clear hr hbd
    rcases l1 with ⟨τ1, rfl, rfl⟩ | ⟨a, off, g, ob, rfl, ha, hg⟩ <;> rcases l2 with ⟨τ2, rfl, rfl⟩ | ⟨c, off2, g2, oc, rfl, hc, hg2⟩
    · have w0 : IntKind.i64.wrap 0 = 0 := rfl
      simp (maxSteps := 2000000) -implicitDefEqProofs [-getElem?_pos, List.getElem?_cons_zero, List.getElem?_cons_succ, go_sem, eqV, plen, loadV, storeV, hn, h0, w, w0, assignV]
    · simp only [Int.natCast_zero, Int.zero_add, Nat.zero_add] at w ⊢
      simp (maxSteps := 2000000) -implicitDefEqProofs [-getElem?_pos, List.getElem?_cons_zero, List.getElem?_cons_succ, go_sem, eqV, plen, loadV, storeV, hn, h0, hc, hg2, w]
    · simp only [Int.natCast_zero, Int.add_zero, Nat.add_zero] at w ⊢
      simp (maxSteps := 2000000) -implicitDefEqProofs [-getElem?_pos, List.getElem?_cons_zero, List.getElem?_cons_succ, go_sem, eqV, plen, loadV, storeV, hn, h0, ha, hg, w]
    · simp (maxSteps := 2000000) -implicitDefEqProofs [-getElem?_pos, List.getElem?_cons_zero, List.getElem?_cons_succ, go_sem, eqV, plen, loadV, storeV, hn, h0, ha, hg, hc, hg2, w]
  · refine Tells.of (o := ⟨.ret, [(2, .int .i64 (hlR s : Nat))], E'⟩) ⟨0, ?_⟩ ⟨rfl, rfl, h'⟩
    rw [show hlR s = 0 by unfold hlR; rw [if_pos hst]]
    have h1 : (s.st == 0) = false := by simp [hst]
    simp (maxSteps := 2000000) -implicitDefEqProofs [-getElem?_pos, List.getElem?_cons_zero, List.getElem?_cons_succ, go_sem, eqV, plen, loadV, storeV, hn, h0, h1, hst]

set_option maxRecDepth 100000 in
set_option maxHeartbeats 4000000 in
theorem stopped_code (h : RdC 2 E 0 s oa oc) (hm : 0 < s.m) : ∃ code, Try.f20.body = some code ∧
    Tells (Rets fun fr E' => resultsV X fr E' Try.f20.results.toList = some [.int .i64 s.st] ∧ RdC 2 E' 0 s oa oc) X (evT X) 20 m code [(0, .ptr 0 0 0 0)] E := by
  refine ⟨_, rfl, ?_⟩
  obtain ⟨E', hn, h', _⟩ := hnone_ev h hm
  obtain ⟨⟨vr, vb, τ, hτ, h0, hr, hbd⟩, _⟩ := id h'
  simp only [rdBx, Rd.pay] at h0
  refine Tells.of (o := ⟨.ret, [(2, .int .i64 s.st)], E'⟩) ⟨0, ?_⟩ ⟨rfl, rfl, h'⟩
  simp (maxSteps := 2000000) -implicitDefEqProofs [-getElem?_pos, List.getElem?_cons_zero, List.getElem?_cons_succ, go_sem, eqV, plen, loadV, storeV, hn, h0]

set_option maxRecDepth 100000 in
set_option maxHeartbeats 4000000 in
theorem next_code (h : RdC 2 E 0 s oa oc) (hm : 0 < s.m) : ∃ code, Try.f22.body = some code ∧
    Tells (Rets fun fr E' => resultsV X fr E' Try.f22.results.toList = some [.int .u8 (s.nx : Nat)] ∧ RdC 2 E' 0 s oa oc) X (evT X) 22 m code [(0, .ptr 0 0 0 0)] E := by
  refine ⟨_, rfl, ?_⟩
  obtain ⟨E', hn, h', _⟩ := hnone_ev h hm
  obtain ⟨⟨vr, vb, τ, hτ, h0, hr, hbd⟩, _⟩ := id h'
  simp only [rdBx, Rd.pay] at h0
  refine Tells.of (o := ⟨.ret, [(2, .int .u8 (s.nx : Nat))], E'⟩) ⟨0, ?_⟩ ⟨rfl, rfl, h'⟩
  simp (maxSteps := 2000000) -implicitDefEqProofs [-getElem?_pos, List.getElem?_cons_zero, List.getElem?_cons_succ, go_sem, eqV, plen, loadV, storeV, hn, h0]

end

section
variable {t : Nat} {H : AM.Heap} {o : Nat} {s : Rd} {oa oc : Option Nat}

theorem held_ev (h : RdC t H o s oa oc) (hm : 0 < s.m) (hb : s.rest.length + s.body.length ≤ 900000) : ∃ H', evT X 19 [.ptr o 0 0 0] H = some (.int .i64 (hlR s : Nat), H') ∧ RdC t H' o s oa oc ∧ H'.length = H.length ∧ ∀ j, j ∉ rdπ o oa oc → H'[j]? = H[j]? := by
  obtain ⟨_, _, _, _, _, hE⟩ := h.into (n := 2)
  obtain ⟨code, hc, _⟩ := held_code (m := 0) hE hm hb
  have := look_ev (f := 19) (l := [.int .i64 (hlR s : Nat)]) Try.func19 hc rfl (by rw [par19]; rfl) rfl rfl rfl (fun E hE => by
    obtain ⟨code2, hc2, hr⟩ := held_code (m := (rdπ o oa oc).length) hE hm hb
    rw [hc] at hc2
    obtain rfl := Option.some.inj hc2
    exact hr) h
  simpa [resultV] using this

theorem stopped_ev (h : RdC t H o s oa oc) (hm : 0 < s.m) : ∃ H', evT X 20 [.ptr o 0 0 0] H = some (.int .i64 s.st, H') ∧ RdC t H' o s oa oc ∧ H'.length = H.length ∧ ∀ j, j ∉ rdπ o oa oc → H'[j]? = H[j]? := by
  obtain ⟨_, _, _, _, _, hE⟩ := h.into (n := 2)
  obtain ⟨code, hc, _⟩ := stopped_code (m := 0) hE hm
  have := look_ev (f := 20) (l := [.int .i64 s.st]) Try.func20 hc rfl (by rw [par20]; rfl) rfl rfl rfl (fun E hE => by
    obtain ⟨code2, hc2, hr⟩ := stopped_code (m := (rdπ o oa oc).length) hE hm
    rw [hc] at hc2
    obtain rfl := Option.some.inj hc2
    exact hr) h
  simpa [resultV] using this

theorem next_ev (h : RdC t H o s oa oc) (hm : 0 < s.m) : ∃ H', evT X 22 [.ptr o 0 0 0] H = some (.int .u8 (s.nx : Nat), H') ∧ RdC t H' o s oa oc ∧ H'.length = H.length ∧ ∀ j, j ∉ rdπ o oa oc → H'[j]? = H[j]? := by
  obtain ⟨_, _, _, _, _, hE⟩ := h.into (n := 2)
  obtain ⟨code, hc, _⟩ := next_code (m := 0) hE hm
  have := look_ev (f := 22) (l := [.int .u8 (s.nx : Nat)]) Try.func22 hc rfl (by rw [par22]; rfl) rfl rfl rfl (fun E hE => by
    obtain ⟨code2, hc2, hr⟩ := next_code (m := (rdπ o oa oc).length) hE hm
    rw [hc] at hc2
    obtain rfl := Option.some.inj hc2
    exact hr) h
  simpa [resultV] using this

end

end Go.Proofs.Ytconnpileacfeaa

/- Plain: a reader holds no more than its limit and four bytes. -/
namespace Go.Proofs.Ytconnpileacfeaa
open Go.AM
set_option linter.unusedSimpArgs false
set_option linter.unusedVariables false

structure HIn (s : Rd) (m lim B : Nat) : Prop where
  em : s.m = m
  el : s.lim = lim
  nx : s.nx < 256
  body : s.body.length ≤ lim
  sz : s.rest.length + s.body.length ≤ B
  held : s.st = 0 → s.rest.length + s.body.length ≤ lim + 4

theorem fdS2_l (s : Rd) (n : Nat) : (fdS2 s n).body = s.body ++ (s.rest.drop 4).take n ∧ (fdS2 s n).rest = s.rest.drop (4 + n) := ⟨rfl, rfl⟩

theorem ckE_lim {s : Rd} (h : ckE s = 0) : s.body.length + leV (s.rest.take 3) ≤ s.lim ∧ leV (s.rest.take 3) ≤ s.m := by
  unfold ckE at h
  by_cases h1 : s.m < leV (s.rest.take 3)
  · rw [if_pos h1] at h; cases h
  rw [if_neg h1] at h
  by_cases h2 : (s.rest.getD 3 0).toNat ≠ s.nx
  · rw [if_pos h2] at h; cases h
  rw [if_neg h2] at h
  by_cases h3 : s.lim < s.body.length + leV (s.rest.take 3)
  · rw [if_pos h3] at h; cases h
  omega

theorem fdS1_lim (s : Rd) : (fdS1 s).lim = s.lim := by unfold fdS1; split <;> rfl
theorem fdS1_st (s : Rd) : (fdS1 s).st = s.st := by unfold fdS1; split <;> rfl

theorem fdL_hold : ∀ (f : Nat) (s : Rd) (out : List Pk), s.rest.length < f → s.st = 0 → s.nx < 256 → s.body.length ≤ s.lim → (∀ p ∈ out, p.body.length ≤ s.lim) →
    HIn (fdL f s out).1 s.m s.lim (s.rest.length + s.body.length) ∧ (∀ p ∈ (fdL f s out).2.1, p.body.length ≤ s.lim) ∧ (fdL f s out).1.st = (fdL f s out).2.2
  | 0, s, out, hf, _, _, _, _ => by omega
  | f + 1, s, out, hf, hst, hnx, hb, ho => by
    unfold fdL
    by_cases h1 : s.rest.length < 4
    · rw [if_pos h1]
      exact ⟨⟨rfl, rfl, hnx, hb, Nat.le_refl _, fun _ => by show s.rest.length + s.body.length ≤ _; omega⟩, ho, hst⟩
    rw [if_neg h1]
    by_cases h2 : ckE s ≠ 0
    · rw [if_pos h2]
      exact ⟨⟨rfl, rfl, hnx, hb, Nat.le_refl _, fun h => absurd h h2⟩, ho, rfl⟩
    rw [if_neg h2]
    obtain ⟨l1, l2⟩ := ckE_lim (by simpa using h2)
    by_cases h3 : s.rest.length < 4 + leV (s.rest.take 3)
    · rw [if_pos h3]
      exact ⟨⟨rfl, rfl, hnx, hb, Nat.le_refl _, fun _ => by show s.rest.length + s.body.length ≤ _; omega⟩, ho, hst⟩
    rw [if_neg h3]
    generalize leV (s.rest.take 3) = n at *
    have hbd : (fdS2 s n).body.length = s.body.length + n := by
      rw [(fdS2_l s n).1, List.length_append, List.length_take, List.length_drop]; omega
    have hr : (fdS2 s n).rest.length = s.rest.length - (4 + n) := by rw [(fdS2_l s n).2, List.length_drop]
    have hm : (fdS2 s n).m = s.m := fdS1_m s
    have hl : (fdS2 s n).lim = s.lim := fdS1_lim s
    have hs : (fdS2 s n).st = s.st := fdS1_st s
    have hx : (fdS2 s n).nx < 256 := Nat.mod_lt _ (by omega)
    by_cases h4 : n < s.m
    · rw [if_pos h4]
      obtain ⟨⟨q1, q2, q3, q4, q5, q6⟩, q7, q8⟩ := fdL_hold f { fdS2 s n with body := [], wi := false } (out ++ [⟨(fdS2 s n).sq, (fdS2 s n).nx, (fdS2 s n).body⟩]) (by show (fdS2 s n).rest.length < f; omega) (by show (fdS2 s n).st = 0; rw [hs, hst]) hx (by simp) (by
        intro p hp
        show p.body.length ≤ (fdS2 s n).lim
        rw [hl]
        rcases List.mem_append.1 hp with hp | hp
        · exact ho p hp
        · simp only [List.mem_cons, List.not_mem_nil, or_false] at hp
          rw [hp]
          show (fdS2 s n).body.length ≤ _
          omega)
      refine ⟨⟨by rw [q1]; exact hm, by rw [q2]; exact hl, q3, by rw [← hl]; exact q4, ?_, fun h => by rw [← hl]; exact q6 h⟩, fun p hp => by rw [← hl]; exact q7 p hp, q8⟩
      refine Nat.le_trans q5 ?_
      show (fdS2 s n).rest.length + 0 ≤ _
      omega
    · rw [if_neg h4]
      obtain ⟨⟨q1, q2, q3, q4, q5, q6⟩, q7, q8⟩ := fdL_hold f (fdS2 s n) out (by omega) (by rw [hs, hst]) hx (by omega) (by rw [hl]; exact ho)
      exact ⟨⟨by rw [q1]; exact hm, by rw [q2]; exact hl, q3, by rw [← hl]; exact q4, by omega, fun h => by rw [← hl]; exact q6 h⟩, fun p hp => by rw [← hl]; exact q7 p hp, q8⟩

theorem hdR_hold {s : Rd} {m lim B : Nat} (b : List UInt8) (h : HIn s m lim B) : HIn (hdR s b).1 m lim (B + b.length) ∧ (∀ p ∈ (hdR s b).2.1, p.body.length ≤ lim) ∧ ((hdR s b).2.2 ≠ 0 → (hdR s b).1.st = (hdR s b).2.2 ∨ (hdR s b).2.2 = 9) := by
  obtain ⟨h1, h2, h3, h4, h5, h6⟩ := h
  unfold hdR
  by_cases hst : s.st ≠ 0
  · rw [if_pos hst]
    exact ⟨⟨h1, h2, h3, h4, by show s.rest.length + s.body.length ≤ _; omega, h6⟩, fun p hp => (by cases hp), fun _ => .inr rfl⟩
  · rw [if_neg hst]
    obtain ⟨⟨q1, q2, q3, q4, q5, q6⟩, q7, q8⟩ := fdL_hold ((s.rest ++ b).length + 1) { s with rest := s.rest ++ b } [] (by simp) (by simpa using hst) h3 (by show s.body.length ≤ s.lim; omega) (fun p hp => (by cases hp))
    refine ⟨⟨by rw [q1]; exact h1, by rw [q2]; exact h2, q3, by rw [← h2]; exact q4, Nat.le_trans q5 (by simp; omega), fun h => by rw [← h2]; exact q6 h⟩, fun p hp => by rw [← h2]; exact q7 p hp, fun _ => .inl q8⟩

end Go.Proofs.Ytconnpileacfeaa

/- Walks: the law PacketHolds. -/
namespace Go.Proofs.Ytconnpileacfeaa
open Go.AM
set_option linter.unusedSimpArgs false
set_option linter.unusedVariables false

theorem hlives_ev (H : AM.Heap) : evT X 8 [] H = some (.bool true, H) :=
  evT_eq (Ev1.triedP (T := fun _ _ _ => none) Below.none (n := 400) (f := 8) (args := []) (v := .bool true) (by kernel_rfl) rfl H)

theorem pkL_at' {t : Nat} {p : Pk} : ∀ {i : Nat} {l : List Pk} {m : List AV}, PkL t l m → l[i]? = some p → ∃ v, m[i]? = some v ∧ PkA t p v
  | 0, q :: r, v :: l, h, hi => by
    simp at hi
    subst hi
    exact ⟨v, rfl, h.1⟩
  | i + 1, q :: r, v :: l, h, hi => by
    obtain ⟨w, h1, h2⟩ := pkL_at' (i := i) h.2 (by simpa using hi)
    exact ⟨w, by simpa using h1, h2⟩
  | _, [], _, _, hi => by simp at hi
  | _, _ :: _, [], h, _ => h.elim

section
variable (lim c : Nat) (rows : List (Nat × List UInt8))

def hoFr (o i : Nat) (tl : AM.Frame) : AM.Frame := [(1, .int .i64 (lim : Nat)), (2, .ro c (.pc (rows.map bRow)) 3), (7, .ptr o 0 0 0), (9, .int .i64 (i : Nat))] ++ tl

set_option maxRecDepth 100000 in
set_option maxHeartbeats 4000000 in
/-- is there one more to feed? -/
theorem ho_r9 (H : AM.Heap) (o i : Nat) :
    ∃ code, ((Try.f6.body).bind (codeAt [1, 1, 1, 1, 1, 0, 1, 0, 0, 0, 0])) = some code ∧ ((∃ r, rows[i]? = some r ∧ i < 60 ∧ r.2.length ≤ 3000 ∧ Run X (evT X) 6 0 code (hoFr lim c rows o i []) H ⟨.normal, hoFr lim c rows o i [(42, .bool true)], H⟩) ∨ Run X (evT X) 6 0 code (hoFr lim c rows o i []) H ⟨.normal, hoFr lim c rows o i [(42, .bool false)], H⟩) := by
  refine ⟨_, rfl, ?_⟩
  by_cases h1 : i < rows.length
  · have h1I : (i : Int) < (rows.length : Int) := by omega
    obtain ⟨⟨rc, rb⟩, hri⟩ : ∃ r, rows[i]? = some r := ⟨_, List.getElem?_eq_getElem h1⟩
    by_cases h2 : i < 60
    · have h2I : (i : Int) < 60 := by omega
      by_cases h3 : rb.length ≤ 3000
      · left
        have h3I : (rb.length : Int) ≤ 3000 := by omega
        refine ⟨(rc, rb), hri, h2, h3, ?_⟩
        unfold hoFr
        (refine ⟨0, ?_⟩; simp (maxSteps := 2000000) -implicitDefEqProofs [-getElem?_pos, List.getElem?_cons_zero, List.getElem?_cons_succ, go_sem, eqV, plen, loadV, storeV, h1, h1I, h2, h2I, h3, h3I, hri, bRow, retag])
      · right
        have h3I : ¬ (rb.length : Int) ≤ 3000 := by omega
        unfold hoFr
        (refine ⟨0, ?_⟩; simp (maxSteps := 2000000) -implicitDefEqProofs [-getElem?_pos, List.getElem?_cons_zero, List.getElem?_cons_succ, go_sem, eqV, plen, loadV, storeV, h1, h1I, h2, h2I, h3, h3I, hri, bRow, retag])
    · right
      have h2I : ¬ (i : Int) < 60 := by omega
      unfold hoFr
      (refine ⟨0, ?_⟩; simp (maxSteps := 2000000) -implicitDefEqProofs [-getElem?_pos, List.getElem?_cons_zero, List.getElem?_cons_succ, go_sem, eqV, plen, loadV, storeV, h1, h1I, h2, h2I])
  · right
    have h1I : ¬ (i : Int) < (rows.length : Int) := by omega
    unfold hoFr
    (refine ⟨0, ?_⟩; simp (maxSteps := 2000000) -implicitDefEqProofs [-getElem?_pos, List.getElem?_cons_zero, List.getElem?_cons_succ, go_sem, eqV, plen, loadV, storeV, h1, h1I])

set_option maxRecDepth 100000 in
set_option maxHeartbeats 4000000 in
theorem ho_r11 {H H' : AM.Heap} (o i O N : Nat) (e : Int) (rc : Nat) (rb : List UInt8) (hri : rows[i]? = some (rc, rb)) (hF : evT X 18 [.ptr o 0 0 0, .ro rc (.pb rb) 3] H = some (.tup [.sl O 0 N 0, .int .i64 e], H')) :
    ∃ code, ((Try.f6.body).bind (codeAt [1, 1, 1, 1, 1, 0, 1, 0, 0, 1, 0, 0, 0])) = some code ∧ Run X (evT X) 6 0 code (hoFr lim c rows o i [(42, .bool true)]) H ⟨.normal, hoFr lim c rows o i [(10, .sl O 0 N 0), (11, .int .i64 e)], H'⟩ := by
  refine ⟨_, rfl, ?_⟩
  have h1 := at_lt hri
  have h1I : (i : Int) < (rows.length : Int) := by omega
  unfold hoFr
  (refine ⟨0, ?_⟩; simp (maxSteps := 2000000) -implicitDefEqProofs [-getElem?_pos, List.getElem?_cons_zero, List.getElem?_cons_succ, go_sem, eqV, plen, loadV, storeV, h1, h1I, hri, bRow, retag, hF, assignV])

set_option maxRecDepth 100000 in
set_option maxHeartbeats 4000000 in
/-- no payload is longer than the limit -/
theorem ho_in {H : AM.Heap} (o i O : Nat) (e : Int) (out : List Pk) (hp : PkR 0 H O out.length 0 out) (hlen : ∀ p ∈ out, p.body.length ≤ lim) (hol : out.length ≤ 10000000) (hlim : lim ≤ 1073741824) :
    ∃ code, ((Try.f6.body).bind (codeAt [1, 1, 1, 1, 1, 0, 1, 0, 0, 1, 0, 0, 1, 0, 1])) = some code ∧ Tells (Goes fun fr H' => fr = hoFr lim c rows o i [(10, .sl O 0 out.length 0), (11, .int .i64 e), (12, .int .i64 (out.length : Nat)), (57, .bool false)] ∧ H' = H) X (evT X) 6 0 code (hoFr lim c rows o i [(10, .sl O 0 out.length 0), (11, .int .i64 e), (12, .int .i64 0)]) H := by
  refine ⟨_, rfl, ?_⟩
  obtain ⟨l, ob, τ, hτ, hf, hN, ho, hw⟩ := hp
  have hll := f2_len hf
  obtain ⟨q, gg, cap, zz, row, ids', tg⟩ := ob
  obtain ⟨q1, q2, q3, q4, q5⟩ := hw
  simp only at q1 q2 q3 q4 q5
  subst q1 q2 q3 q4 q5
  refine Tells.block (P := fun fr H' => fr = hoFr lim c rows o i [(10, .sl O 0 out.length 0), (11, .int .i64 e), (12, .int .i64 (out.length : Nat)), (57, .bool false)] ∧ H' = H) ?_
  refine Tells.loopP (fun k fr H' => ∃ j, k = out.length - j ∧ j ≤ out.length ∧ H' = H ∧ fr = hoFr lim c rows o i [(10, .sl O 0 out.length 0), (11, .int .i64 e), (12, .int .i64 (j : Nat))]) ?_ (k := out.length) ⟨0, rfl, by omega, rfl, rfl⟩
  rintro k fr H' ⟨j, rfl, hj, rfl, rfl⟩
  by_cases hjn : j = out.length
  · have hjI : ¬ ((j : Int) < (out.length : Int)) := by omega
    have hjN : ¬ (j < out.length) := by omega
    subst hjn
    refine Tells.of (o := ⟨.exit 2, hoFr lim c rows o i [(10, .sl O 0 out.length 0), (11, .int .i64 e), (12, .int .i64 (out.length : Nat)), (57, .bool false)], H'⟩) ⟨0, ?_⟩ (.inr ⟨by simp, rfl, rfl, rfl⟩)
    generalize out.length = N at *
    unfold hoFr
    simp (maxSteps := 2000000) -implicitDefEqProofs [-getElem?_pos, List.getElem?_cons_zero, List.getElem?_cons_succ, go_sem, eqV, plen, loadV, storeV, ho, hjI, hjN]
  · obtain ⟨p, hpj⟩ : ∃ p, out[j]? = some p := ⟨_, List.getElem?_eq_getElem (by omega)⟩
    obtain ⟨v, hv, cb, τ2, _, hb, _, rfl⟩ := pkL_at' hf hpj
    have hbl : p.body.length ≤ lim := hlen p (List.mem_of_getElem? hpj)
    have hblI : ¬ ((lim : Int) < (p.body.length : Int)) := by omega
    have hblN : ¬ (lim < p.body.length) := by omega
    have hjI : (j : Int) < (out.length : Int) := by omega
    have hjN : j < out.length := by omega
    have hjL : j < l.length := by omega
    have w1 : IntKind.i64.wrap ((j : Int) + 1) = ((j + 1 : Nat) : Int) := by rw [wrap_i64 (by omega) (by omega)]; omega
    refine Tells.of (o := ⟨.normal, hoFr lim c rows o i [(10, .sl O 0 out.length 0), (11, .int .i64 e), (12, .int .i64 ((j + 1 : Nat) : Int))], H'⟩) ⟨0, ?_⟩ (.inl ⟨rfl, out.length - (j + 1), by omega, j + 1, rfl, by omega, rfl, rfl⟩)
    generalize out.length = N at *
    unfold hoFr
    simp (maxSteps := 2000000) -implicitDefEqProofs [-getElem?_pos, List.getElem?_cons_zero, List.getElem?_cons_succ, go_sem, eqV, plen, loadV, storeV, ho, hjI, hjN, hjL, hv, hblI, hblN, w1, retag]

set_option maxRecDepth 100000 in
set_option maxHeartbeats 4000000 in
/-- it holds no more, and stopped where it said -/
theorem ho_r17 {H H1 H2 H3 : AM.Heap} (o i h : Nat) (e st : Int) (tl : AM.Frame) (v1 v2 : AV) (hlim : lim ≤ 1073741824) (hh : h ≤ lim + 4) (hst : e ≠ 0 → st = e ∨ e = 9) (hh1 : evT X 19 [.ptr o 0 0 0] H = some (.int .i64 (h : Nat), H1)) (hh2 : evT X 19 [.ptr o 0 0 0] H1 = some (.int .i64 (h : Nat), H2)) (hs : evT X 20 [.ptr o 0 0 0] H2 = some (.int .i64 st, H3)) :
    ∃ code, ((Try.f6.body).bind (codeAt [1, 1, 1, 1, 1, 0, 1, 0, 0, 1, 0, 0, 1, 1, 0])) = some code ∧ ∃ Hx, (Hx = H2 ∨ Hx = H3) ∧ Run X (evT X) 6 0 code (hoFr lim c rows o i [(10, v1), (11, .int .i64 e), (12, v2), (57, .bool false)]) H ⟨.normal, hoFr lim c rows o i [(91, .bool false)], Hx⟩ := by
  refine ⟨_, rfl, ?_⟩
  have w : IntKind.i64.wrap ((lim : Int) + 4) = ((lim + 4 : Nat) : Int) := by rw [wrap_i64 (by omega) (by omega)]; omega
  have g1 : ¬ (((lim + 4 : Nat) : Int) < (h : Int)) := by omega
  have g2 : ¬ ((h : Int) < 0) := by omega
  have g1N : ¬ (lim + 4 < h) := by omega
  generalize hL : lim + 4 = L at *
  by_cases he : e = 0
  · refine ⟨H2, .inl rfl, ?_⟩
    have he1 : (e != 0) = false := by simp [he]
    unfold hoFr
    (refine ⟨0, ?_⟩; simp (maxSteps := 2000000) -implicitDefEqProofs [-getElem?_pos, List.getElem?_cons_zero, List.getElem?_cons_succ, go_sem, eqV, plen, loadV, storeV, hh1, hh2, w, g1, g1N, g2, he1])
  · refine ⟨H3, .inr rfl, ?_⟩
    have he1 : (e != 0) = true := by simp [he]
    rcases hst he with rfl | rfl
    · have he2 : (st != st) = false := by simp
      unfold hoFr
      (refine ⟨0, ?_⟩; simp (maxSteps := 2000000) -implicitDefEqProofs [-getElem?_pos, List.getElem?_cons_zero, List.getElem?_cons_succ, go_sem, eqV, plen, loadV, storeV, hh1, hh2, hs, w, g1, g1N, g2, he1, he2])
    · by_cases h9 : st = 9
      · have he2 : (st != 9) = false := by simp [h9]
        unfold hoFr
        (refine ⟨0, ?_⟩; simp (maxSteps := 2000000) -implicitDefEqProofs [-getElem?_pos, List.getElem?_cons_zero, List.getElem?_cons_succ, go_sem, eqV, plen, loadV, storeV, hh1, hh2, hs, w, g1, g1N, g2, he2])
      · have he2 : (st != 9) = true := by simp [h9]
        unfold hoFr
        (refine ⟨0, ?_⟩; simp (maxSteps := 2000000) -implicitDefEqProofs [-getElem?_pos, List.getElem?_cons_zero, List.getElem?_cons_succ, go_sem, eqV, plen, loadV, storeV, hh1, hh2, hs, w, g1, g1N, g2, he2])

end

end Go.Proofs.Ytconnpileacfeaa

/- Walks: the law PacketHolds, whole. -/
namespace Go.Proofs.Ytconnpileacfeaa
open Go.AM
set_option linter.unusedSimpArgs false
set_option linter.unusedVariables false

section
variable (c : Nat) (rows : List (Nat × List UInt8))

theorem HIn.grow {s : Rd} {m lim B B2 : Nat} (h : HIn s m lim B) (hB : B ≤ B2) : HIn s m lim B2 := ⟨h.em, h.el, h.nx, h.body, Nat.le_trans h.sz hB, h.held⟩
theorem fdL_out (f : Nat) (s : Rd) (out : List Pk) : (fdL f s out).2.1.length ≤ out.length + s.rest.length := by
  induction f generalizing s out with
  | zero => show out.length ≤ _; omega
  | succ f ih =>
    unfold fdL
    by_cases h1 : s.rest.length < 4
    · rw [if_pos h1]; show out.length ≤ _; omega
    rw [if_neg h1]
    by_cases h2 : ckE s ≠ 0
    · rw [if_pos h2]; show out.length ≤ _; omega
    rw [if_neg h2]
    by_cases h3 : s.rest.length < 4 + leV (s.rest.take 3)
    · rw [if_pos h3]; show out.length ≤ _; omega
    rw [if_neg h3]
    generalize leV (s.rest.take 3) = n at *
    have hr : (fdS2 s n).rest.length = s.rest.length - (4 + n) := by rw [(fdS2_l s n).2, List.length_drop]
    by_cases h4 : n < s.m
    · rw [if_pos h4]
      refine Nat.le_trans (ih _ _) ?_
      simp only [List.length_append, List.length_cons, List.length_nil]
      rw [hr]; omega
    · rw [if_neg h4]
      refine Nat.le_trans (ih _ _) ?_
      omega

set_option maxRecDepth 100000 in
set_option maxHeartbeats 4000000 in
theorem holds_code (n lim : Int) (hr : ∀ r ∈ rows, r.1 = 0 → r.2 = []) : ∃ code, Try.f6.body = some code ∧
    Tells (Rets fun fr H => getF fr 6 = .bool true) X (evT X) 6 0 code [(0, .int .i64 n), (1, .int .i64 lim), (2, .ro c (.pc (rows.map bRow)) 3)] [] := by
  refine ⟨_, rfl, ?_⟩
  have hL := fun H => hlives_ev H
  apply Tells.seq (fr' := [(0, .int .i64 n), (1, .int .i64 lim), (2, .ro c (.pc (rows.map bRow)) 3)]) (H' := [])
  · (refine ⟨0, ?_⟩; simp (maxSteps := 2000000) -implicitDefEqProofs [-getElem?_pos, List.getElem?_cons_zero, List.getElem?_cons_succ, go_sem, eqV, plen, loadV, storeV])
  apply Tells.seq (fr' := [(0, .int .i64 n), (1, .int .i64 lim), (2, .ro c (.pc (rows.map bRow)) 3), (14, .bool false)]) (H' := [])
  · (refine ⟨0, ?_⟩; simp (maxSteps := 2000000) -implicitDefEqProofs [-getElem?_pos, List.getElem?_cons_zero, List.getElem?_cons_succ, go_sem, eqV, plen, loadV, storeV, hL, unV])
  by_cases hbad : newBad n lim = true
  · have hN := new_ev' (H := []) hbad
    refine Tells.of (o := ⟨.ret, [(6, .bool true)], []⟩) ⟨0, ?_⟩ ⟨rfl, rfl⟩
    simp (maxSteps := 2000000) -implicitDefEqProofs [-getElem?_pos, List.getElem?_cons_zero, List.getElem?_cons_succ, go_sem, eqV, plen, loadV, storeV, hN, assignV, eqV, isNil, nilFor]
  have hgood : newBad n lim = false := by simpa using hbad
  have hbd := hgood
  unfold newBad at hbd
  simp only [Bool.or_eq_false_iff, decide_eq_false_iff_not] at hbd
  obtain ⟨n, rfl⟩ : ∃ k : Nat, n = (k : Nat) := ⟨n.toNat, by omega⟩
  obtain ⟨lim, rfl⟩ : ∃ k : Nat, lim = (k : Nat) := ⟨lim.toNat, by omega⟩
  have hm : 0 < n := by omega
  have hm2 : n ≤ 16777215 := by omega
  have hlim : lim ≤ 1073741824 := by omega
  have hN := new_ev (H := []) hgood
  simp only [List.length_nil, List.nil_append] at hN
  apply Tells.seq (fr' := [(1, .int .i64 (lim : Nat)), (2, .ro c (.pc (rows.map bRow)) 3), (7, .ptr 0 0 0 0), (8, .int .i64 0)]) (H' := [some (rdBx { m := n, lim := lim } (.ro 0 .pn 0) (.ro 0 .pn 0) 0)])
  · simp only [rdBx, Rd.pay] at hN ⊢
    (refine ⟨0, ?_⟩; simp (maxSteps := 2000000) -implicitDefEqProofs [-getElem?_pos, List.getElem?_cons_zero, List.getElem?_cons_succ, go_sem, eqV, plen, loadV, storeV, hN, assignV])
  apply Tells.seq (fr' := [(1, .int .i64 (lim : Nat)), (2, .ro c (.pc (rows.map bRow)) 3), (7, .ptr 0 0 0 0), (22, .bool false)]) (H' := [some (rdBx { m := n, lim := lim } (.ro 0 .pn 0) (.ro 0 .pn 0) 0)])
  · (refine ⟨0, ?_⟩; simp (maxSteps := 2000000) -implicitDefEqProofs [-getElem?_pos, List.getElem?_cons_zero, List.getElem?_cons_succ, go_sem, eqV, plen, loadV, storeV])
  apply Tells.seq (fr' := [(1, .int .i64 (lim : Nat)), (2, .ro c (.pc (rows.map bRow)) 3), (7, .ptr 0 0 0 0), (26, .bool false)]) (H' := [some (rdBx { m := n, lim := lim } (.ro 0 .pn 0) (.ro 0 .pn 0) 0)])
  · exact ⟨0, rfl⟩
  apply Tells.assoc
  apply Tells.seq (fr' := hoFr lim c rows 0 0 []) (H' := [some (rdBx { m := n, lim := lim } (.ro 0 .pn 0) (.ro 0 .pn 0) 0)])
  · exact ⟨0, rfl⟩
  have hR0 : RdC 0 [some (rdBx { m := n, lim := lim } (.ro 0 .pn 0) (.ro 0 .pn 0) 0)] 0 { m := n, lim := lim } none none := ⟨⟨_, _, 0, .inl rfl, rfl, ⟨0, .inl rfl, rfl, rfl⟩, ⟨0, .inl rfl, rfl, rfl⟩⟩, fun a c h => (by cases h), fun _ => rfl⟩
  apply Tells.or (P := fun fr H => ∃ i, fr = hoFr lim c rows 0 i [(42, .bool false)])
  · refine Tells.blockOr (Q := fun o => o.ex = .ret ∧ getF o.fr 6 = .bool true) (P := fun fr H => ∃ i, fr = hoFr lim c rows 0 i [(42, .bool false)]) ?_
    refine Tells.loopP (fun k fr H => ∃ i s oa oc, k = 60 - i ∧ i ≤ 60 ∧ fr = hoFr lim c rows 0 i [] ∧ RdC 0 H 0 s oa oc ∧ HIn s n lim (3000 * i)) ?_ (k := 60) ⟨0, _, none, none, rfl, by omega, rfl, hR0, ⟨rfl, rfl, by simp, by simp, by simp, by simp⟩⟩
    rintro k fr H ⟨i, s, oa, oc, rfl, hi, rfl, hC, hI⟩
    obtain ⟨code9, hc9, h9⟩ := ho_r9 lim c rows H 0 i
    apply Tells.assoc
    rcases h9 with ⟨⟨rc, rb⟩, hri, hi60, h3, h9⟩ | h9
    · apply Tells.seq (piece (P := fun cd => Run X (evT X) 6 0 cd (hoFr lim c rows 0 i []) H ⟨.normal, hoFr lim c rows 0 i [(42, .bool true)], H⟩) ⟨code9, hc9, h9⟩ _ rfl)
      apply Tells.seq (fr' := hoFr lim c rows 0 i [(42, .bool true)]) (H' := H)
      · exact Run.cond (d := true) rfl ⟨0, rfl⟩
      have hsz := hI.sz
      have hms := hI.em
      obtain ⟨O, H1, oa1, oc1, hF, hC1, hp1, hO1, _⟩ := hfeed_ev (c := rc) (t := 3) (b := rb) hC (by omega) hI.nx (by simp only at h3; omega)
      obtain ⟨hI1, hb1, hst1⟩ := hdR_hold rb hI
      have hol : (hdR s rb).2.1.length ≤ 10000000 := by
        unfold hdR
        by_cases hst : s.st ≠ 0
        · rw [if_pos hst]; simp
        · rw [if_neg hst]
          refine Nat.le_trans (fdL_out _ _ _) ?_
          simp only [List.length_append, List.length_nil] at h3 ⊢
          omega
      generalize hdR s rb = x at *
      obtain ⟨s1, out, e⟩ := x
      simp only at hF hC1 hp1 hI1 hb1 hst1 hol h3
      have hI2 : HIn s1 n lim (3000 * (i + 1)) := hI1.grow (by omega)
      have hsz2 := hI2.sz
      have hms2 := hI2.em
      obtain ⟨H2, hh1, hC2, _⟩ := held_ev hC1 (by omega) (by omega)
      obtain ⟨H3, hh2, hC3, _⟩ := held_ev hC2 (by omega) (by omega)
      obtain ⟨H4, hs4, hC4, _⟩ := stopped_ev hC3 (by omega)
      have hhl : hlR s1 ≤ lim + 4 := by
        unfold hlR
        by_cases hst : s1.st ≠ 0
        · rw [if_pos hst]; omega
        · rw [if_neg hst]; exact hI2.held (by simpa using hst)
      have w1 : IntKind.i64.wrap ((i : Int) + 1) = ((i + 1 : Nat) : Int) := by rw [wrap_i64 (by omega) (by omega)]; omega
      obtain ⟨code17, hc17, Hx, hHx, h17⟩ := ho_r17 lim c rows 0 i (hlR s1) e s1.st [] (.sl O 0 out.length 0) (.int .i64 (out.length : Nat)) hlim hhl hst1 hh1 hh2 hs4
      apply Tells.andThen (P := fun fr H' => fr = hoFr lim c rows 0 i [(91, .bool false)] ∧ H' = Hx)
      · refine Tells.blk ?_ (fun o h => by rw [h.1]; simp)
        apply Tells.seq (piece (ho_r11 lim c rows 0 i O out.length e rc rb hri hF) _ rfl)
        apply Tells.assoc
        apply Tells.seq (fr' := hoFr lim c rows 0 i [(10, .sl O 0 out.length 0), (11, .int .i64 e), (12, .int .i64 0)]) (H' := H1)
        · unfold hoFr
          generalize out.length = N at *
          (refine ⟨0, ?_⟩; simp (maxSteps := 2000000) -implicitDefEqProofs [-getElem?_pos, List.getElem?_cons_zero, List.getElem?_cons_succ, go_sem, eqV, plen, loadV, storeV])
        apply Tells.andThen (piece (ho_in lim c rows 0 i O e out hp1 hb1 hol hlim) _ rfl)
        rintro fr H' ⟨rfl, rfl⟩
        apply Tells.seq (piece (P := fun cd => Run X (evT X) 6 0 cd _ _ ⟨.normal, hoFr lim c rows 0 i [(91, .bool false)], Hx⟩) ⟨code17, hc17, h17⟩ _ rfl)
        exact Tells.of (o := ⟨.normal, hoFr lim c rows 0 i [(91, .bool false)], Hx⟩) (Run.cond (d := false) rfl ⟨0, rfl⟩) ⟨rfl, rfl, rfl⟩
      rintro fr H' ⟨rfl, rfl⟩
      have hCx : ∃ oa2 oc2, RdC 0 H' 0 s1 oa2 oc2 := by
        rcases hHx with rfl | rfl
        · exact ⟨_, _, hC3⟩
        · exact ⟨_, _, hC4⟩
      obtain ⟨oa2, oc2, hC5⟩ := hCx
      refine Tells.of (o := ⟨.normal, hoFr lim c rows 0 (i + 1) [], H'⟩) ⟨0, ?_⟩ (.inl ⟨rfl, 60 - (i + 1), by omega, i + 1, s1, oa2, oc2, rfl, by omega, rfl, hC5, hI2⟩)
      unfold hoFr
      simp (maxSteps := 2000000) -implicitDefEqProofs [-getElem?_pos, List.getElem?_cons_zero, List.getElem?_cons_succ, go_sem, eqV, plen, loadV, storeV, w1]
    · apply Tells.seq (piece (P := fun cd => Run X (evT X) 6 0 cd (hoFr lim c rows 0 i []) H ⟨.normal, hoFr lim c rows 0 i [(42, .bool false)], H⟩) ⟨code9, hc9, h9⟩ _ rfl)
      exact Tells.of (o := ⟨.exit 0, hoFr lim c rows 0 i [(42, .bool false)], H⟩) (Run.seq_out (Run.cond (d := false) rfl ⟨0, rfl⟩) (by simp)) (.inr ⟨by simp, .inl ⟨rfl, i, rfl⟩⟩)
  rintro fr H ⟨i, rfl⟩
  refine Tells.of (o := ⟨.ret, [(6, .bool true)], H⟩) ⟨0, ?_⟩ ⟨rfl, rfl⟩
  unfold hoFr
  simp (maxSteps := 2000000) -implicitDefEqProofs [-getElem?_pos, List.getElem?_cons_zero, List.getElem?_cons_succ, go_sem, eqV, plen, loadV, storeV]

end

end Go.Proofs.Ytconnpileacfeaa
