/- The abstract machine, part 4: a deterministic evaluator for the program's code and the proof that what it tells is so. Conditions: none beyond the theorems' own. -/
import Derived.Test.YteblpjhkgdpchaaAm3
set_option linter.unusedSimpArgs false
set_option linter.unusedVariables false
set_option maxRecDepth 100000
set_option maxHeartbeats 8000000
namespace Go.AM
open Go
def Ny (H:Heap):AV→Nat
  | .ro _ _ t=>t
  | .sl o _ _ g=>match live H o g with
    | some ob=>ob.tg
    | none=>0
  | _=>0
section
variable {C:Ctx} {H:Heap} {f:Nat} {T:Cf}
theorem QY {k:Nat} {a p:AV} (ha:eG H a = some p):dR H k a = some (.ro (tY H a) p k,⟨slO a,[Ny H a]⟩):=by
  cases a <;> simp only [eG,reduceCtorEq] at ha
  case ro c q t' =>
    simp only [Option.some.injEq] at ha
    subst ha
    rfl
  case sl o off len g =>
    split at ha
    · rename_i ob hl
      split at ha
      · cases ha
      · rename_i hb
        simp [dR,dO,hl,hb,ha,tY,Ny,slO]
    · cases ha
theorem Tz {aK:List eU} {v:AV} {H1:Heap} {o g k k':Nat} {ob:Obj} (hi:ids v = [o]) (ht:tags v = []) (hl:live H1 o g = some ob) (hob:ob.ids = false) (hp:ids ob.p = []) (hpt:tags ob.p = []) (hpm:∀ l,ob.p ≠ .pm l) (htg:ob.tg = k) (hb:dS aK k = some k') :
    wrap H [] aK v H1 = some (ren (fun o' g'=>if o' = o∧g' = g then some (H.length,0) else none) (fun t=>t) v,H ++ [some { ob with g:=0,tg:=k' }]):=by
  obtain ⟨h1,h2⟩:=bD.1 hl
  unfold wrap
  have hat:aX H1 o = some ob:=by simp [aX,h1]
  have hρ:ren (bJ H [] [o] H1) (bQ aK) v = ren (fun o' g'=>if o' = o∧g' = g then some (H.length,0) else none) (fun t=>t) v:=by
    have key:∀ o' g',o' ∈ ids v→bJ H [] [o] H1 o' g' = if o' = o∧g' = g then some (H.length,0) else none:=by
      intro o' g' hm
      rw [hi] at hm
      simp only [List.mem_singleton] at hm
      subst hm
      unfold bJ
      by_cases hg:g' = g
      · subst hg
        rw [hl]
        simp [idxOf]
      · have:live H1 o' g' = none:=by
          simp only [live,h1]
          rw [if_neg (fun e=>hg (e.symm.trans h2))]
        rw [this]
        simp [hg]
    exact fZ v (fun o' g' hm=>key o' g' hm) (by simp [ht])
  have hto:dn ob = [k]:=by
    unfold dn
    rw [hob,htg]
    cases hq:ob.p <;> first | rfl | exact absurd hq (hpm _)
  have hB1:bQ aK k = k':=by unfold bQ;rw [hb];rfl
  have htN:uS v = []:=List.eq_nil_iff_forall_not_mem.2 fun t h=>by have:=Gs h;rw [ht] at this;cases this
  have aes:lN ob = []:=by unfold lN;rw [if_pos (by simp [hob,hpt])]
  have hfn:∀ l:List Nat,l.filter (fun o=>([]:List Nat).contains o) = []:=fun l=>by simp
  simp only [List.length_nil,List.range_zero,List.nil_append,hi,Ar h1 hob,ht,au,bU,htN,aes,List.append_nil,List.map_nil,hat,hto,List.map_cons,Nat.zero_le,decide_true,List.filter_cons_of_pos,List.filter_nil,bP]
  simp only [List.all_cons,List.all_nil,hb,Option.isSome_some,Bool.and_true,if_true,List.flatMap_nil,hfn,strike,Option.map_some,Option.some.injEq,Prod.mk.injEq]
  refine ⟨hρ,?_⟩
  have hr:ren (bJ H [] [o] H1) (bQ aK) ob.p = ob.p:=iO ob.p hp (by rw [hpt];simp)
  simp only [aT,hr,htg,hB1]
theorem Ev1.newT (hT:Below C T) {args xs:List AV} {aK:List eU} {fn:Func} {c:Code} {n tg0:Nat} {bo:List Nat} {p:AV} {rest:List AV}
    (hF:C.P.funcs[f]? = some fn) (hb:fn.body = some c) (hl:aH C f H 0 args = some (xs,aK)) (h0:aK[0]? = some ⟨bo,[tg0]⟩) (hi:aB xs = []) (hn:xs.length + 1 < dM) (hri:aB rest = []) (hrt:aU rest = []) (hnt:fG rest = true)
    (hpi:ids p = []) (hpt:tags p = []) (hpm:∀ l,p ≠ .pm l)
    (h:aj (rF fun fr H1=>∃ o g τ ob,(τ = 0∨τ = 1)∧aQ C fr H1 fn.results.toList = some (.sl o 0 n g :: rest)∧H1[o]? = some (some ob)∧RwT p g τ ob) C T f 0 c (numbered 0 (coerce C xs (aF C f))) []) :
    ∃ τ ob,Ev1 C f args H (aO (.sl H.length 0 n 0 :: rest),H ++ [some ob])∧RwT p 0 τ ob∧(τ = 0∨τ = tg0):=by
  obtain ⟨⟨ex,fr,H1⟩,⟨he,o,g,τ,ob,hτ,hr,ho,hw⟩,hrun⟩:=h
  simp only at he hr ho
  subst he
  have h0':(aK ++ [⟨[],au (([]:List Nat).map (aX H))⟩])[0]? = some ⟨bo,[tg0]⟩:=by
    cases aK with
    | nil=>cases h0
    | cons x r=>exact h0
  have hbk:∃ k',dS (aK ++ [⟨[],au (([]:List Nat).map (aX H))⟩]) τ = some k'∧(k' = 0∨k' = tg0):=by
    rcases hτ with rfl | rfl
    · exact ⟨0,rfl,.inl rfl⟩
    · refine ⟨tg0,?_,.inr rfl⟩
      unfold dS
      rw [if_neg (by omega),show 1 - 1 = 0 by omega,h0']
      simp [dU,eH]
      exact fun e=>e.symm
  obtain ⟨k',hk',hk2⟩:=hbk
  refine ⟨k',{ ob with g:=0,tg:=k' },?_,⟨hw.p,rfl,hw.row,hw.ids,rfl⟩,hk2⟩
  refine Ev1.of (out:=⟨.ret,fr,H1⟩) (l:=.sl o 0 n g :: rest) hT hF hb hl ?_ ?_ (.inr rfl) hr ?_
  · rw [hi,dH]
    simp only [Bool.and_eq_true,decide_eq_true_eq]
    exact ⟨List.all_eq_true.2 fun x _=>jU x.objs,hn⟩
  · rw [hi,dH,fC xs hi (fun _ _=>rfl)]
    exact hrun
  · rw [hi,dH]
    rw [Tz (o:=o) (g:=g) (k:=τ) (k':=k') (ob:=ob) (by rw [kS (l:=.sl o 0 n g :: rest) hnt];simp [aB,ids,hri]) (by rw [jP (l:=.sl o 0 n g :: rest) hnt];simp [aU,tags,hrt]) (by simp [live,ho,hw.g]) hw.ids (by rw [hw.p];exact hpi) (by rw [hw.p];exact hpt) (by rw [hw.p];exact hpm) hw.tg hk']
    rw [yc (w:=.sl H.length 0 n 0) (by simp [ren]) (fC rest hri (fun t ht=>rfl)) (by exact hnt) (by exact hnt)]
theorem Ev1.bQ (hT:Below C T) {args xs:List AV} {aK:List eU} {fn:Func} {c:Code} {tg0:Nat} {bo:List Nat} {l:List AV}
    (hF:C.P.funcs[f]? = some fn) (hb:fn.body = some c) (hl:aH C f H 0 args = some (xs,aK)) (h0:aK[0]? = some ⟨bo,[tg0]⟩) (hi:aB xs = []) (hn:xs.length + 1 < dM)
    (h:aj (rF fun fr H1=>aQ C fr H1 fn.results.toList = some l) C T f 0 c (numbered 0 (coerce C xs (aF C f))) [])
    (hv:ids (aO l) = []) (ht:∀ k ∈ tags (aO l),k = 0∨k = 1) (htN:uS (aO l) = []):Ev1 C f args H (ren (fun _ _=>none) (fun k=>if k = 1 then tg0 else 0) (aO l),H):=by
  obtain ⟨⟨ex,fr,H1⟩,⟨he,hr⟩,hrun⟩:=h
  simp only at he hr
  subst he
  have h0':(aK ++ [⟨[],au (([]:List Nat).map (aX H))⟩])[0]? = some ⟨bo,[tg0]⟩:=by
    cases aK with
    | nil=>cases h0
    | cons x r=>exact h0
  have hbt:∀ k ∈ tags (aO l),dS (aK ++ [⟨[],au (([]:List Nat).map (aX H))⟩]) k = some (if k = 1 then tg0 else 0):=by
    intro k hk
    rcases ht k hk with rfl | rfl
    · rfl
    · unfold dS
      rw [if_neg (by omega),show 1 - 1 = 0 by omega,h0',if_pos rfl]
      simp [dU,eH]
      exact fun e=>e.symm
  refine Ev1.of (out:=⟨.ret,fr,H1⟩) hT hF hb hl ?_ ?_ (.inr rfl) hr ?_
  · rw [hi,dH]
    simp only [Bool.and_eq_true,decide_eq_true_eq]
    exact ⟨List.all_eq_true.2 fun x _=>jU x.objs,hn⟩
  · rw [hi,dH,fC xs hi (fun _ _=>rfl)]
    exact hrun
  · rw [hi,dH]
    clear h0'
    unfold wrap
    generalize (aK ++ [⟨[],au (([]:List Nat).map (aX H))⟩]:List eU) = L at *
    have hfn:∀ l:List Nat,l.filter (fun o=>([]:List Nat).contains o) = []:=fun l=>by simp
    simp only [List.length_nil,List.range_zero,List.nil_append,hv,dH,List.filter_nil,List.map_nil,au,bU,htN,List.append_nil,List.flatMap_nil,hfn]
    rw [if_pos (List.all_eq_true.2 fun k hk=>by rw [hbt k hk];rfl)]
    simp only [strike,bP,Option.some.injEq,Prod.mk.injEq,and_true]
    exact fZ _ (fun o g h=>by rw [hv] at h;cases h) (fun k hk=>by unfold AM.bQ;rw [hbt k hk];rfl)
end
end Go.AM
