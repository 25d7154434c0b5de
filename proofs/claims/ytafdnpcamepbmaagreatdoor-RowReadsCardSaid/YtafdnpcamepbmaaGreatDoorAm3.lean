/- The abstract machine, part 3: a deterministic evaluator for the program's code and the proof that what it tells is so. Conditions: none beyond the theorems' own. -/
import Derived.Attr
import Derived.ChangeCalls
import Derived.LaidHandle
import Derived.LaidLaws
import Derived.Lib.LaidTab
import Derived.MakeChecks
import Derived.ProofKit
import Derived.Stop.Joined
import Derived.Test.YtafdnpcamepbmaaGreatDoorAm2
set_option linter.unusedSimpArgs false
set_option linter.unusedVariables false
set_option maxRecDepth 100000
set_option maxHeartbeats 8000000
namespace Go.AM
open Go.ChangeShapes Go.WideShapes Go.ChangeAt Go.RowKit
def T0 (n:Nat) (t b:Nat):Prop:=n≤b∨t ≠ 0
def start (W:World):Kx:=⟨fun _=>default,[],W⟩
theorem start_own (W:World) (b:Nat):¬ Own (start W) b:=by
  rintro ⟨o,ob,h,_⟩
  simp [start] at h
def GOk (C:Ctx) (W:World):Prop:=∀ g p,C.G g = some p→plen p ≠ 0∧g < W.heap.size∧RP W (fun b=>b < W.heap.size) p (fun j=>W.cell? ⟨g,j,none⟩)
theorem GOk.none {C:Ctx} (hG:∀ g,C.G g = none) (W:World):GOk C W:=fun g p h=>by rw [hG] at h;cases h
theorem start_inv {C:Ctx} {W:World} (hG:GOk C W):Inv C (start W) (T0 W.heap.size) where
  obj:=fun o ob h=>by simp [start] at h
  inj:=fun o o' ob ob' h=>by simp [start] at h
  own:=fun b h=>absurd h (start_own W b)
  new:=fun b h=>.inl h
  mono:=fun t b h=>by
    rcases h with h | h
    · exact .inl h
    · exact absurd rfl h
  glob:=fun g p h=>by
    obtain ⟨h1,h2,h3⟩:=hG g p h
    have hn:∀ b,b < W.heap.size→NT (start W) (T0 W.heap.size) gtag b:=fun b hb=>⟨.inr (by simp [gtag]),start_own W b,hb⟩
    exact ⟨h1,hn g h2,RP_mono (w':=(start W).w) (fun b hb=>⟨hn b hb,fun _ _ h=>h⟩) p _ _ (fun _ _ h=>h) h3⟩
def LawEnds (W:World) (e:Ending) (W':World):Prop :=
  e = .returned (.bool true)∧W'.os = W.os∧W'.output = W.output∧∀ b:Nat,b < W.heap.size→W'.heap[b]? = W.heap[b]?
theorem law_calls {C:Ctx} (hC:CtxOk C) {n f:Nat} {args:List AV} {vs:Array Value} {W:World} {H':Heap} (hG:GOk C W) (h:callF C n f args [] = some (.bool true,H'))
    (ha:ArgsRel (start W) (T0 W.heap.size) args vs.toList):Calls C.P f vs W (LawEnds W):=by
  have:=callF_ok hC n f args [] _ H' h (start W) (T0 W.heap.size) vs rfl (start_inv hG) ha
  refine Calls.mono this fun e W' he=>?_
  cases e with
  | panicked=>exact he.elim
  | outgrown=>exact he.elim
  | returned v =>
    obtain ⟨μ,hI,hE,hv⟩:=he
    simp only [VRel,V1Rel,SRel,RV] at hv
    subst hv
    refine ⟨rfl,hE.os,hE.output,fun b hb=>hE.exact b hb (start_own W b) ?_⟩
    rintro (h | h)
    · have:b < W.heap.size:=hb
      omega
    · exact h rfl
section
variable {H:Type} {enc:TypeId × Value→H}
theorem law_post {P:Program} {f:Func} {s:ChangeSpec} {apart fresh handsOn again:Bool} {W W':World} {args:Array Value} {ds gs:List (DataW H)} {before:List MemPlace} {rt:TypeId}
    (hrow:laidOutB P = true) (hmap:mapsRowed P = true) (hfull:∀ t e,t < P.types.size→P.underlying t = some (.slice e)→0 < P.cellsOf e) (hparams:∀ t ∈ f.params.toList,t < P.types.size)
    (hvars:s.vars = []) (hrt:f.resultTypes = #[rt]) (hb:P.underlying rt = some .bool)
    (hW:DataW.Whole enc P f.params.toList s.vars apart W args.toList ds gs before) (hfn:s.fn H ds = { results:=[.lit (.bool true)],args:=ds })
    (hos:W'.os = W.os) (hout:W'.output = W.output) (hsame:∀ b:Nat,b < W.heap.size→W'.heap[b]? = W.heap[b]?) :
    s.post enc P f apart fresh handsOn again W args (.bool true) W':=by
  have hlt:=hW.lt
  have hcell:∀ b off,b < W.heap.size→W'.cell? ⟨b,off,none⟩ = W.cell? ⟨b,off,none⟩:=fun b off h=>cell_of_heap (hsame b h) off
  have hfz:∀ a:Addr,a.block < W.heap.size→W'.frozen? a = W.frozen? a:=fun a h=>by unfold World.frozen?;rw [hsame _ h]
  have hat:∀ p ∈ before,W.sameAt W' p:=by
    intro p hp
    have:=hlt p hp
    cases p with
    | cell b off=>exact hcell b off this
    | map b=>exact hsame b this
  have K:=kids_rows hrow hmap
  obtain ⟨p,q,hA,hV,hps,hz,hn⟩:=id hW
  rw [hvars] at hV
  obtain ⟨rfl,rfl⟩:=trodVars_none hV
  simp only [List.append_nil] at hps
  subst hps
  -- the arguments again
  have again':∀ sp:Nat→Bool,(∀ x ∈ before,sp x.block = true)→DataW.TrodAll enc P W' 0 sp true f.params.toList args.toList ds before:=by
    intro sp hsp
    have carry:∀ {ts:List TypeId} {vs:List Value} {ds:List (DataW H)} {ps:List MemPlace},DataW.TrodAll enc P W 0 (fun _=>true) true ts vs ds ps→(∀ x ∈ ps,W.sameAt W' x)→DataW.TrodAll enc P W' 0 (fun _=>true) true ts vs ds ps:=by
      intro ts
      induction ts with
      | nil=>intro vs ds ps h _;cases vs <;> cases ds <;> first | exact h | exact h.elim
      | cons t ts ih =>
        intro vs ds ps h hs
        cases vs with
        | nil=>exact h.elim
        | cons v vs =>
          cases ds with
          | nil=>exact h.elim
          | cons d ds =>
            obtain ⟨a,b,⟨n,h1⟩,h2,e⟩:=h
            subst e
            exact ⟨a,b,⟨n,DataW.trod_carry n t _ _ h1 fun x hx=>hs x (List.mem_append_left _ hx)⟩,ih h2 fun x hx=>hs x (List.mem_append_right _ hx),rfl⟩
    exact DataW.TrodAll.respare K hfull hparams (carry hA hat) hsp
  have hres:∀ (b:Nat) (sp:Nat→Bool) (hd:Bool),DataW.TrodAll enc P W' b sp hd f.resultTypes.toList ((Value.bool true).resultList f.resultTypes.size) [.lit (.bool true)] []:=by
    intro b sp hd
    rw [hrt]
    exact trodAll_mk1 (shut_bool hb true)
  have hfn':s.fn H (ds ++ []) = { results:=[.lit (.bool true)],args:=ds }:=by rw [List.append_nil];exact hfn
  have hold:∀ x ∈ before,(fun b=>decide (b < W.heap.size)) x.block = true:=fun x hx=>by simpa using hlt x hx
  have hkept:W.keptBut W' (fun x=>x ∈ before∧x ∈ before ++ []):=by
    refine ⟨hos,hout,fun i hi=>?_⟩
    rw [hsame i hi]
    generalize W.heap[i]? = x
    rcases x with _ | x
    · rfl
    · cases x <;> simp
  refine ⟨ds,[],before,[],before,[],hW,?_,?_,?_,?_,fun _=>?_⟩
  · rw [hfn'];exact hres _ _ _
  · rw [hfn'];exact again' _ hold
  · rw [hfn',hvars];rfl
  · refine World.keptBut_mono (fun x hx=>?_) hkept
    exact ⟨hx.1,.inr (.inl hx.1)⟩
  · refine ⟨ok_one hrt rfl (okWide_bool_mk hb true),[.lit (.bool true)] ++ ds,[],([] ++ before) ++ [],⟨[] ++ before,[],?_,?_,rfl,?_,?_⟩,?_⟩
    · exact trodAll_append (again' _ (fun _ _=>rfl)) (hres _ _ _)
    · rw [hvars];rfl
    · intro b off hp
      have hp':MemPlace.cell b off ∈ before:=by simpa using hp
      rw [hfz ⟨b,off,none⟩ (hlt (MemPlace.cell b off) hp')]
      exact hz b off hp'
    · intro ha
      simpa using hn ha
    · intro x hx _
      simpa using hx
theorem law_lifted_laid {a:Assume} {D:Checked} {X:Ctx} (hX:X.P = D.prog) (hC:CtxOk X) {laid:List (String × DataW Unit)} (hG:∀ W:World,laidMetH D.prog laid W→GOk X W)
    {os:Os} {f:FuncId} {fn:Func} {s:ChangeSpec} {conds:List PathCond} {apart fresh handsOn again:Bool} {rt:TypeId}
    (own:ownKnob D.prog.godebug = none) (started:os.Started) (noInit:D.prog.inits.idxOf? f = none) (hfn:D.prog.funcs[f]? = some fn)
    (witness:∃ (w:World) (tape:Tape) (i:Input),w.os = os∧(w.forCall tape i).Shaped D.prog∧i.vars = []∧Input.okWide D.prog (w.forCall tape i) .any w.heap.size f i ∧
      ((s.pre enc D.prog fn conds apart (w.forCall tape i).memory i.args∧laidMetH D.prog laid (w.forCall tape i).memory)∧sizedMet enc D.prog fn (OpenSpec.ofChange s) apart (w.forCall tape i).memory i.args) ∧
      a.holds D.prog (lone (Frame.enter D.prog f i.args .normal) [] (w.forCall tape i)))
    (hrow:laidOutB D.prog = true) (hmap:mapsRowed D.prog = true) (hfull:∀ t e,t < D.prog.types.size→D.prog.underlying t = some (.slice e)→0 < D.prog.cellsOf e) (hparams:∀ t ∈ fn.params.toList,t < D.prog.types.size)
    (hvars:s.vars = []) (hrt:fn.resultTypes = #[rt]) (hb:D.prog.underlying rt = some .bool)
    (hspec:∀ ds:List (DataW H),ds.length = fn.params.toList.length→s.fn H ds = { results:=[.lit (.bool true)],args:=ds })
    (run:∀ (W:World) (base:Nat) (args:Array Value) (ds:List (DataW H)) (ps:List MemPlace),
      (∀ (j:Nat) t v,fn.params[j]? = some t→args[j]? = some v→Value.okWide D.prog W .any base t v) →
      DataW.TrodAll enc D.prog W 0 (fun _=>true) true fn.params.toList args.toList ds ps →
      ∃ n as H',callF X n f as [] = some (.bool true,H')∧ArgsRel (start W) (T0 W.heap.size) as args.toList) :
    ReturnsInHanded a D os f .any (fun w args=>(s.pre enc D.prog fn conds apart w args∧laidMetH D.prog laid w)∧sizedMet enc D.prog fn (OpenSpec.ofChange s) apart w args) (s.post enc D.prog fn apart fresh handsOn again):=by
  refine returnsInHanded_of_change_and (X:=fun w _=>laidMetH D.prog laid w) (fun _ _ _ hh h=>h.of_heap hh) own started noInit hfn witness ?_
  intro W base args ds gs before hval hW _ _ hL _
  obtain ⟨p,q,hA,hV,_,_,_⟩:=id hW
  obtain ⟨n,as,H',h1,h2⟩:=run W base args ds p hval hA
  have hcalls:=law_calls hC (hG W hL) h1 h2
  rw [hX] at hcalls
  refine Calls.mono hcalls fun e W' he=>?_
  obtain ⟨he,hos,hout,hsame⟩:=he
  exact ⟨_,he,law_post hrow hmap hfull hparams hvars hrt hb hW (hspec ds (trodAll_length hA).2) hos hout hsame⟩
end
def drawsAll (C:Ctx):Bool :=
  (List.range C.P.funcs.size).all fun f=>match C.P.funcs[f]? with
    | some fn=>match fn.body with
      | some c=>drawsOk C f c
      | none=>true
    | none=>true
theorem ctxOk_of {C:Ctx} (mix:C.P.follows .mixedOrders = true) (h:drawsAll C = true):CtxOk C where
  mix:=mix
  draws:=by
    intro f fn c hf hc
    have hlt:f < C.P.funcs.size:=(Array.getElem?_eq_some_iff.1 hf).1
    have:=List.all_eq_true.1 h f (List.mem_range.2 hlt)
    rw [hf] at this
    simp only [hc] at this
    exact this
def litVal:Lit→Value
  | .bool b=>.bool b
  | .int k n=>.int k n
  | .string b=>.string ⟨⟨b⟩⟩
  | _=>undef
mutual
def cellsD:DataW Unit→List Value
  | .lit l=>[litVal l]
  | .agg ps=>cellsDs ps
  | _=>[undef]
def cellsDs:List (DataW Unit)→List Value
  | []=>[]
  | d :: r=>cellsD d ++ cellsDs r
end
end Go.AM
namespace Go.AM
open Go.Lib
def GOne (W:World) (g:Nat) (p:AV):Prop:=plen p ≠ 0∧g < W.heap.size∧RP W (fun b=>b < W.heap.size) p (fun j=>W.cell? ⟨g,j,none⟩)
theorem tab_listed {P:Program} {W:World} {name:String} {k:IntKind} {zs:List Int} {g:Nat} {t e:TypeId} {n:Nat}
    (hg:P.globalNamed name = some g) (hty:(P.globals[g]?).map (·.type) = some t) (ht:P.underlying t = some (.array n e)) (he:P.underlying e = some (.int k)) (hce:P.cellsOf e = 1) (hct:P.cellsOf t = n) :
    ∀ {l:List (String × DataW Unit)} {ps:List MemPlace},DataW.LaidVars P W l ps→(name,(tabData k zs:DataW Unit)) ∈ l→TabIs P W name k zs
  | [],_,_,hm=>by simp at hm
  | (m,d) :: r,ps,h,hm=>by
    obtain ⟨g0,t0,cs,fuel,p,q,e1,e2,e3,e4,hr,_⟩:=h
    by_cases hx:(name,(tabData k zs:DataW Unit)) ∈ r
    · exact tab_listed hg hty ht he hce hct hr hx
    · have hd:(name,(tabData k zs:DataW Unit)) = (m,d):=by
        rcases List.mem_cons.1 hm with e0 | e0
        · exact e0
        · exact absurd e0 hx
      cases hd
      have:g0 = g:=Option.some.inj (e1.symm.trans hg)
      subst this
      have:t0 = t:=Option.some.inj (e2.symm.trans hty)
      subst this
      unfold TabIs
      rw [e3,← cells_of_tab ht he hce hct e4]
theorem tab_cells {P:Program} {W:World} {laid:List (String × DataW Unit)} {name:String} {k:IntKind} {zs:List Int} {g:Nat} {t e:TypeId} {n:Nat} (hm:(name,(tabData k zs:DataW Unit)) ∈ laid)
    (hg:P.globalNamed name = some g) (hty:(P.globals[g]?).map (·.type) = some t) (ht:P.underlying t = some (.array n e)) (he:P.underlying e = some (.int k)) (hce:P.cellsOf e = 1) (hct:P.cellsOf t = n)
    (h:laidMet P laid W):TabIs P W name k zs:=by
  obtain ⟨ps,hv,_⟩:=h
  exact tab_listed hg hty ht he hce hct hv hm
theorem gone_int {P:Program} {W:World} {name:String} {k:IntKind} {zs:List Int} {g:Nat} (h:TabIs P W name k zs) (hg:P.globalNamed name = some g) (hn:(zs.length != 0) = true):GOne W g (.pi k zs):=by
  have hc:∀ i,i < zs.length→W.cell? ⟨g,i,none⟩ = some (.int k (zs.getD i 0)):=fun i hi=>h.cell hg i hi
  refine ⟨by simpa [plen] using hn,block_lt_of_cell (hc 0 (Nat.pos_of_ne_zero (bne_iff_ne.1 hn))),?_⟩
  rw [RP]
  intro j z hz
  have hj:j < zs.length:=(List.getElem?_eq_some_iff.1 hz).1
  rw [hc j hj,List.getD_eq_getElem?_getD,hz]
  rfl
theorem gone_bytes {P:Program} {W:World} {name:String} {l:List UInt8} {g:Nat} (h:TabIs P W name .u8 (l.map fun b=>(b.toNat:Int))) (hg:P.globalNamed name = some g) (hn:(l.length != 0) = true):GOne W g (.pb l):=by
  have hc:∀ i,i < (l.map fun b=>(b.toNat:Int)).length→W.cell? ⟨g,i,none⟩ = some (.int .u8 ((l.map fun b=>(b.toNat:Int)).getD i 0)):=fun i hi=>h.cell hg i hi
  refine ⟨by simpa [plen] using hn,block_lt_of_cell (hc 0 (by rw [List.length_map];exact Nat.pos_of_ne_zero (bne_iff_ne.1 hn))),?_⟩
  rw [RP]
  intro j b hb
  have hj:j < l.length:=(List.getElem?_eq_some_iff.1 hb).1
  rw [hc j (by simpa using hj),List.getD_eq_getElem?_getD,List.getElem?_map,hb]
  rfl
def globF (L:List (Nat × AV)) (g:Nat):Option AV:=(L.find? fun x=>x.1 == g).map (·.2)
theorem gok_list {C:Ctx} {W:World} {L:List (Nat × AV)} (hC:C.G = globF L) (h:∀ x ∈ L,GOne W x.1 x.2):GOk C W:=by
  intro g p hp
  rw [hC] at hp
  unfold globF at hp
  obtain ⟨x,hx,rfl⟩:=Option.map_eq_some_iff.1 hp
  have h1:=h x (List.mem_of_find?_eq_some hx)
  have h2:=List.find?_some hx
  simp only [beq_iff_eq] at h2
  rw [← h2]
  exact h1
end Go.AM
namespace Go.AM
section
variable {C:Ctx}
def Ev1 (C:Ctx) (f:Nat) (args:List AV) (H:Heap) (r:AV × Heap):Prop:=∃ n0,∀ n,n0≤n→callF C n f args H = some r
def Below (C:Ctx) (T:Cf):Prop:=∀ f args H r,T f args H = some r→Ev1 C f args H r
theorem step_ev {T:Cf} (hT:Below C T) {fr:Frame} {H:Heap} {o:Oper} {r:AV × Heap} (h:step C T fr H o = some r):∃ n0,∀ n,n0≤n→step C (callF C n) fr H o = some r:=by
  obtain ⟨dst,op,type,pos,after,guard⟩:=o
  cases op <;> try exact ⟨0,fun _ _=>h⟩
  case makeFunc fn first caps=>cases fn <;> exact ⟨0,fun _ _=>h⟩
  case call c =>
    simp only [step,callV] at h ⊢
    cases hc:c.callee with
    | builtin b=>rw [hc] at h;exact ⟨0,fun _ _=>h⟩
    | value x =>
      rw [hc] at h
      simp only at h ⊢
      split at h
      · rename_i f caps he
        split at h
        · obtain ⟨n0,hn⟩:=hT _ _ _ _ h
          refine ⟨n0,fun n hl=>?_⟩
          rename_i hb
          rw [if_pos hb]
          exact hn n hl
        · cases h
      · cases h
    | invoke r n=>rw [hc] at h;cases h
theorem out1_ev {T:Cf} (hT:Below C T) {nt:Nat} {ops:Array Oper} {o:Oper} {fr:Frame} {H:Heap} {r:AV × Heap} (h:out1 C T nt ops o fr H = some r):∃ n0,∀ n,n0≤n→out1 C (callF C n) nt ops o fr H = some r:=by
  unfold out1 at h ⊢
  split at h
  · rename_i hd
    simp only [hd,if_true]
    split at h
    · exact step_ev hT h
    · exact ⟨0,fun _ _=>h⟩
    · cases h
  · cases h
theorem runOps_ev {T:Cf} (hT:Below C T) {nt:Nat} {ops:Array Oper}:∀ {l:List Oper} {fr:Frame} {H:Heap} {r:Frame × Heap},runOps C T nt ops l fr H = some r→∃ n0,∀ n,n0≤n→runOps C (callF C n) nt ops l fr H = some r
  | [],fr,H,r,h=>⟨0,fun _ _=>h⟩
  | o :: l,fr,H,r,h=>by
    rw [runOps_cons] at h
    split at h
    · rename_i v H1 hv
      obtain ⟨n0,h0⟩:=out1_ev hT hv
      obtain ⟨n1,h1⟩:=runOps_ev hT h
      refine ⟨max n0 n1,fun n hn=>?_⟩
      rw [runOps_cons,h0 n (by omega)]
      exact h1 n (by omega)
    · cases h
theorem runD_ev {T:Cf} (hT:Below C T) {nt:Nat} {ops:Array Oper}:∀ {l:List Oper} {fr:Frame} {H:Heap} {r:Frame × Heap × List Mark},runD C T nt ops l fr H = some r→∃ n0,∀ n,n0≤n→runD C (callF C n) nt ops l fr H = some r
  | [],fr,H,r,h=>⟨0,fun _ _=>h⟩
  | o :: l,fr,H,r,h=>by
    simp only [runD] at h
    split at h
    · rename_i v H1 hv
      split at h
      · rename_i fr' H2 ms hr
        obtain ⟨n0,h0⟩:=out1_ev hT hv
        obtain ⟨n1,h1⟩:=runD_ev hT hr
        refine ⟨max n0 n1,fun n hn=>?_⟩
        simp only [runD]
        rw [h0 n (by omega)]
        simp only
        rw [h1 n (by omega)]
        exact h
      · cases h
    · cases h
theorem exec_ev {T:Cf} (hT:Below C T) {f m k:Nat}:(c:Code)→∀ {fr:Frame} {H:Heap} {out:Out},exec C T f m k c fr H = some out→∃ n0,∀ n,n0≤n→∀ k',k≤k'→exec C (callF C n) f m k' c fr H = some out
  | .skip,fr,H,out,h=>⟨0,fun _ _ _ _=>h⟩
  | .region id ops draw,fr,H,out,h=>by
    simp only [exec] at h ⊢
    split at h
    · rename_i hd
      simp only [hd,if_true]
      split at h
      · rename_i fr' H' ms hr
        obtain ⟨n0,h0⟩:=runD_ev hT hr
        refine ⟨n0,fun n hn k' _=>?_⟩
        rw [h0 n hn]
        exact h
      · cases h
    · rename_i hd
      simp only [hd,Bool.false_eq_true,if_false]
      split at h
      · cases h
      · rename_i hd2
        simp only [hd2,Bool.false_eq_true,if_false]
        split at h
        · rename_i fr' H' hr
          obtain ⟨n0,h0⟩:=runOps_ev hT hr
          refine ⟨n0,fun n hn k' _=>?_⟩
          rw [h0 n hn]
          exact h
        · cases h
  | .seq a b,fr,H,out,h=>by
    simp only [exec] at h ⊢
    split at h
    · rename_i fr' H' ha
      obtain ⟨n0,h0⟩:=exec_ev hT a ha
      obtain ⟨n1,h1⟩:=exec_ev hT b h
      refine ⟨max n0 n1,fun n hn k' hk=>?_⟩
      rw [h0 n (by omega) k' hk]
      exact h1 n (by omega) k' hk
    · rename_i hne
      obtain ⟨n0,h0⟩:=exec_ev hT a h
      refine ⟨n0,fun n hn k' hk=>?_⟩
      rw [h0 n hn k' hk]
      obtain ⟨ex,fr',H'⟩:=out
      cases ex with
      | normal=>exact absurd h (hne _ _)
      | exit id=>rfl
      | ret=>rfl
  | .cond c a b,fr,H,out,h=>by
    simp only [exec] at h ⊢
    split at h
    · rename_i d hd
      cases d with
      | true=>exact exec_ev hT a h
      | false=>exact exec_ev hT b h
    · cases h
  | .block id c,fr,H,out,h=>by
    simp only [exec] at h ⊢
    split at h
    · rename_i id' fr' H' hc
      obtain ⟨n0,h0⟩:=exec_ev hT c hc
      refine ⟨n0,fun n hn k' hk=>?_⟩
      rw [h0 n hn k' hk]
      exact h
    · rename_i hne
      obtain ⟨n0,h0⟩:=exec_ev hT c h
      refine ⟨n0,fun n hn k' hk=>?_⟩
      rw [h0 n hn k' hk]
      obtain ⟨ex,fr',H'⟩:=out
      cases ex with
      | normal=>rfl
      | exit id=>exact absurd h (hne _ _ _)
      | ret=>rfl
  | .loop c,fr,H,out,h=>by
    simp only [exec] at h ⊢
    have key:∀ j,∀ {fr:Frame} {H:Heap},loopN (exec C T f m k c) j fr H = some out→∃ n0,∀ n,n0≤n→∀ k',k≤k'→∀ j',j≤j'→loopN (exec C (callF C n) f m k' c) j' fr H = some out:=by
      intro j
      induction j with
      | zero=>intro fr H h;simp [loopN] at h
      | succ j ih =>
        intro fr H h
        simp only [loopN] at h
        split at h
        · rename_i fr' H' hc
          obtain ⟨n0,h0⟩:=exec_ev hT c hc
          obtain ⟨n1,h1⟩:=ih h
          refine ⟨max n0 n1,fun n hn k' hk j' hj=>?_⟩
          obtain ⟨j',rfl⟩:∃ i,j' = i + 1:=⟨j' - 1,by omega⟩
          simp only [loopN]
          rw [h0 n (by omega) k' hk]
          exact h1 n (by omega) k' hk j' (by omega)
        · rename_i hne
          obtain ⟨n0,h0⟩:=exec_ev hT c h
          refine ⟨n0,fun n hn k' hk j' hj=>?_⟩
          obtain ⟨j',rfl⟩:∃ i,j' = i + 1:=⟨j' - 1,by omega⟩
          simp only [loopN]
          rw [h0 n hn k' hk]
          obtain ⟨ex,fr',H'⟩:=out
          cases ex with
          | normal=>exact absurd h (hne _ _)
          | exit id=>rfl
          | ret=>rfl
    obtain ⟨n0,h0⟩:=key k h
    exact ⟨n0,fun n hn k' hk=>h0 n hn k' hk k' hk⟩
  | .exit id,fr,H,out,h=>⟨0,fun _ _ _ _=>h⟩
  | .ret,fr,H,out,h=>⟨0,fun _ _ _ _=>h⟩
  | .scope ..,fr,H,out,h=>by simp [exec] at h
  | .label ..,fr,H,out,h=>by simp [exec] at h
  | .goto ..,fr,H,out,h=>by simp [exec] at h
  | .refuse ..,fr,H,out,h=>by simp [exec] at h
  | .rangeFunc ..,fr,H,out,h=>by simp [exec] at h
theorem runBody_ev {T:Cf} (hT:Below C T) {k f:Nat} {args:List AV} {H:Heap} {r:AV × Heap} (h:runBody C T k f args H = some r):∃ n0,∀ n,n0≤n→runBody C (callF C n) n f args H = some r:=by
  unfold runBody at h ⊢
  cases hF:C.P.funcs[f]? with
  | none=>rw [hF] at h;cases h
  | some fn =>
    rw [hF] at h
    simp only at h ⊢
    cases hb:fn.body with
    | none=>rw [hb] at h;cases h
    | some c =>
      rw [hb] at h
      simp only at h ⊢
      cases he:exec C T f H.length k c (numbered 0 args) H with
      | none=>rw [he] at h;cases h
      | some out =>
        obtain ⟨n0,h0⟩:=exec_ev hT c he
        refine ⟨max n0 k,fun n hn=>?_⟩
        rw [h0 n (by omega) n (by omega)]
        rw [he] at h
        exact h
theorem enter_ev {T:Cf} (hT:Below C T) {k f:Nat} {args:List AV} {H:Heap} {r:AV × Heap} (h:enterV C (runBody C T k) f args H = some r):Ev1 C f args H r:=by
  unfold enterV at h
  split at h
  · cases h
  · rename_i as lents hl
    simp only at h
    split at h
    · rename_i hc
      split at h
      · cases h
      · rename_i v H1 hb
        obtain ⟨n0,h0⟩:=runBody_ev hT hb
        refine ⟨n0 + 1,fun n hn=>?_⟩
        obtain ⟨n,rfl⟩:∃ i,n = i + 1:=⟨n - 1,by omega⟩
        show enterV C (runBody C (callF C n) n) f args H = some r
        unfold enterV
        rw [hl]
        simp only
        rw [if_pos hc,h0 n (by omega)]
        exact h
    · cases h
theorem Below.none:Below C (fun _ _ _=>none):=by intro f args H r h;cases h
def callT (C:Ctx) (T:Cf):Nat→Cf
  | 0,f,args,H=>T f args H
  | n + 1,f,args,H=>match T f args H with
    | some r=>some r
    | none=>enterV C (runBody C (callT C T n) n) f args H
theorem callT_below {T:Cf} (hT:Below C T):∀ n,Below C (callT C T n)
  | 0=>hT
  | n + 1=>by
    intro f args H r h
    simp only [callT] at h
    split at h
    · rename_i r' hr
      rw [← Option.some.inj h]
      exact hT _ _ _ _ hr
    · exact enter_ev (callT_below hT n) h
theorem loopN_mono {b b':Frame→Heap→Option Out} (hb:∀ fr H out,b fr H = some out→b' fr H = some out):∀ {j j':Nat} {fr:Frame} {H:Heap} {out:Out},j≤j'→loopN b j fr H = some out→loopN b' j' fr H = some out
  | 0,j',fr,H,out,_,h=>by simp [loopN] at h
  | j + 1,j',fr,H,out,hj,h=>by
    obtain ⟨j',rfl⟩:∃ i,j' = i + 1:=⟨j' - 1,by omega⟩
    simp only [loopN] at h ⊢
    split at h
    · rename_i fr' H' hc
      rw [hb _ _ _ hc]
      exact loopN_mono hb (by omega) h
    · rename_i hne
      rw [hb _ _ _ h]
      obtain ⟨ex,fr',H'⟩:=out
      cases ex with
      | normal=>exact absurd h (hne _ _)
      | exit id=>rfl
      | ret=>rfl
theorem exec_mono {T:Cf} {f m k k':Nat} (hk:k≤k'):(c:Code)→∀ (fr:Frame) (H:Heap) (out:Out),exec C T f m k c fr H = some out→exec C T f m k' c fr H = some out
  | .skip,fr,H,out,h=>h
  | .region id ops draw,fr,H,out,h=>h
  | .seq a b,fr,H,out,h=>by
    simp only [exec] at h ⊢
    split at h
    · rename_i fr' H' ha
      rw [exec_mono hk a _ _ _ ha]
      exact exec_mono hk b _ _ _ h
    · rename_i hne
      rw [exec_mono hk a _ _ _ h]
      obtain ⟨ex,fr',H'⟩:=out
      cases ex with
      | normal=>exact absurd h (hne _ _)
      | exit id=>rfl
      | ret=>rfl
  | .cond c a b,fr,H,out,h=>by
    simp only [exec] at h ⊢
    split at h
    · rename_i d hd
      cases d with
      | true=>exact exec_mono hk a _ _ _ h
      | false=>exact exec_mono hk b _ _ _ h
    · cases h
  | .block id c,fr,H,out,h=>by
    simp only [exec] at h ⊢
    split at h
    · rename_i id' fr' H' hc
      rw [exec_mono hk c _ _ _ hc]
      exact h
    · rename_i hne
      rw [exec_mono hk c _ _ _ h]
      obtain ⟨ex,fr',H'⟩:=out
      cases ex with
      | normal=>rfl
      | exit id=>exact absurd h (hne _ _ _)
      | ret=>rfl
  | .loop c,fr,H,out,h=>by
    simp only [exec] at h ⊢
    exact loopN_mono (exec_mono hk c) hk h
  | .exit id,fr,H,out,h=>h
  | .ret,fr,H,out,h=>h
  | .scope ..,fr,H,out,h=>by simp [exec] at h
  | .label ..,fr,H,out,h=>by simp [exec] at h
  | .goto ..,fr,H,out,h=>by simp [exec] at h
  | .refuse ..,fr,H,out,h=>by simp [exec] at h
  | .rangeFunc ..,fr,H,out,h=>by simp [exec] at h
def Run (C:Ctx) (T:Cf) (f m:Nat) (c:Code) (fr:Frame) (H:Heap) (out:Out):Prop:=∃ k,exec C T f m k c fr H = some out
variable {T:Cf} {f m:Nat} {fr fr':Frame} {H H':Heap} {out:Out}
theorem Run.seq {a b:Code} (h:Run C T f m a fr H ⟨.normal,fr',H'⟩) (h':Run C T f m b fr' H' out):Run C T f m (.seq a b) fr H out:=by
  obtain ⟨k0,h0⟩:=h
  obtain ⟨k1,h1⟩:=h'
  refine ⟨max k0 k1,?_⟩
  simp only [exec]
  rw [exec_mono (Nat.le_max_left k0 k1) a _ _ _ h0]
  exact exec_mono (Nat.le_max_right k0 k1) b _ _ _ h1
theorem Run.seq_out {a b:Code} (h:Run C T f m a fr H out) (hne:out.ex ≠ .normal):Run C T f m (.seq a b) fr H out:=by
  obtain ⟨k0,h0⟩:=h
  refine ⟨k0,?_⟩
  simp only [exec]
  rw [h0]
  obtain ⟨ex,fr',H'⟩:=out
  cases ex with
  | normal=>exact absurd rfl hne
  | exit id=>rfl
  | ret=>rfl
theorem Run.cond {c:Operand} {a b:Code} {d:Bool} (hc:evalO C fr c = .bool d) (h:Run C T f m (if d then a else b) fr H out):Run C T f m (.cond c a b) fr H out:=by
  obtain ⟨k0,h0⟩:=h
  refine ⟨k0,?_⟩
  simp only [exec]
  rw [hc]
  cases d <;> exact h0
theorem Run.block_exit {id:Nat} {c:Code} (h:Run C T f m c fr H ⟨.exit id,fr',H'⟩):Run C T f m (.block id c) fr H ⟨.normal,fr',H'⟩:=by
  obtain ⟨k0,h0⟩:=h
  refine ⟨k0,?_⟩
  simp only [exec]
  rw [h0]
  simp
theorem Run.block {id:Nat} {c:Code} (h:Run C T f m c fr H out) (hne:out.ex ≠ .exit id):Run C T f m (.block id c) fr H out:=by
  obtain ⟨k0,h0⟩:=h
  refine ⟨k0,?_⟩
  simp only [exec]
  rw [h0]
  obtain ⟨ex,fr',H'⟩:=out
  cases ex with
  | normal=>rfl
  | exit id' =>
    have:id' ≠ id:=fun e=>hne (by rw [e])
    simp [this]
  | ret=>rfl
theorem Run.loop_step {c:Code} (h:Run C T f m c fr H ⟨.normal,fr',H'⟩) (h':Run C T f m (.loop c) fr' H' out):Run C T f m (.loop c) fr H out:=by
  obtain ⟨k0,h0⟩:=h
  obtain ⟨k1,h1⟩:=h'
  refine ⟨max k0 k1 + 1,?_⟩
  simp only [exec] at h1 ⊢
  rw [loopN,exec_mono (show k0≤max k0 k1 + 1 by omega) c _ _ _ h0]
  exact loopN_mono (exec_mono (show k1≤max k0 k1 + 1 by omega) c) (by omega) h1
theorem Run.loop_out {c:Code} (h:Run C T f m c fr H out) (hne:out.ex ≠ .normal):Run C T f m (.loop c) fr H out:=by
  obtain ⟨k0,h0⟩:=h
  refine ⟨k0 + 1,?_⟩
  simp only [exec]
  rw [loopN,exec_mono (show k0≤k0 + 1 by omega) c _ _ _ h0]
  obtain ⟨ex,fr',H'⟩:=out
  cases ex with
  | normal=>exact absurd rfl hne
  | exit id=>rfl
  | ret=>rfl
theorem Run.loop_rule {c:Code} {σ:Type} (I:σ→Prop) (fr:σ→Frame) (H:σ→Heap) (out:σ→Out) (μ:σ→Nat)
    (step:∀ s,I s→(∃ s',I s'∧Run C T f m c (fr s) (H s) ⟨.normal,fr s',H s'⟩∧out s' = out s∧μ s' < μ s)∨(Run C T f m c (fr s) (H s) (out s)∧(out s).ex ≠ .normal)) (s:σ) (hs:I s) :
    Run C T f m (.loop c) (fr s) (H s) (out s):=by
  generalize hn:μ s = n
  induction n using Nat.strongRecOn generalizing s with
  | _ n ih =>
    rcases step s hs with ⟨s',h0,h1,h2,h3⟩ | ⟨h1,h2⟩
    · rw [← h2]
      exact Run.loop_step h1 (ih (μ s') (by omega) s' h0 rfl)
    · exact Run.loop_out h1 h2
theorem Ev1.of {T:Cf} (hT:Below C T) {f:Nat} {args:List AV} {H:Heap} {r:AV × Heap} {fn:Func} {c:Code} {as:List AV} {lents:List Lent} {out:Out} {l:List AV}
    (hF:C.P.funcs[f]? = some fn) (hb:fn.body = some c) (hl:lendArgs C f H 0 args = some (as,lents))
    (hc:((lents.all fun x=>disjoint x.objs (reach H reachFuel (idsL as) [])) && decide (as.length + 1 < gtag)) = true)
    (he:Run C T f ((reach H reachFuel (idsL as) []).length) c (numbered 0 (coerce C (renL (intoN H (reach H reachFuel (idsL as) [])) (fun t=>t) as) (paramsOf C f)))
      ((reach H reachFuel (idsL as) []).map fun o=>(obAt H o).map (renObj (intoN H (reach H reachFuel (idsL as) [])) (fun _=>as.length + 1) 0)) out)
    (hex:out.ex = .normal∨out.ex = .ret) (hr:resultsV C out.fr out.H fn.results.toList = some l)
    (hw:wrap H (reach H reachFuel (idsL as) []) (lents ++ [⟨[],tagsObjs ((reach H reachFuel (idsL as) []).map (obAt H))⟩]) (resultV l) out.H = some r):Ev1 C f args H r:=by
  obtain ⟨k,hk⟩:=he
  refine enter_ev hT (k:=k) ?_
  unfold enterV
  rw [hl]
  simp only
  rw [if_pos hc]
  have:runBody C T k f (coerce C (renL (intoN H (reach H reachFuel (idsL as) [])) (fun t=>t) as) (paramsOf C f))
      ((reach H reachFuel (idsL as) []).map fun o=>(obAt H o).map (renObj (intoN H (reach H reachFuel (idsL as) [])) (fun _=>as.length + 1) 0)) = some (resultV l,out.H):=by
    unfold runBody
    rw [hF]
    simp only
    rw [hb]
    simp only [List.length_map]
    rw [hk]
    obtain ⟨ex,fr',H'⟩:=out
    simp only at hex hr ⊢
    rcases hex with rfl | rfl <;> simp [hr]
  rw [this]
  exact hw
theorem lend1_free {H:Heap} {t:Nat} {a:AV} (hi:ids a = []):lend1 H t a = lend1 [] t a∧∀ r,lend1 H t a = some r→r.2.objs = []∧ids r.1 = []:=by
  cases a
  case sl o off len g=>simp [ids] at hi
  case ro c p t' =>
    refine ⟨rfl,fun r h=>?_⟩
    simp only [lend1,Option.some.injEq] at h
    subst h
    exact ⟨rfl,rfl⟩
  case rptr p i f t' =>
    refine ⟨rfl,fun r h=>?_⟩
    simp only [lend1,Option.some.injEq] at h
    subst h
    exact ⟨rfl,rfl⟩
  all_goals
    refine ⟨rfl,fun r h=>?_⟩
    simp only [lend1] at h
    split at h
    · simp only [Option.some.injEq] at h
      subst h
      exact ⟨rfl,hi⟩
    · cases h
theorem lendL_free {H:Heap} {t:Nat}:∀ {l:List AV},idsL l = []→lendL H t l = lendL [] t l∧∀ r,lendL H t l = some r→r.2.objs = []∧idsL r.1 = []
  | [],_=>⟨rfl,fun r h=>by simp only [lendL,Option.some.injEq] at h;subst h;exact ⟨rfl,rfl⟩⟩
  | a :: l,hi=>by
    simp only [idsL,List.append_eq_nil_iff] at hi
    obtain ⟨h1,h2⟩:=lend1_free (H:=H) (t:=t) hi.1
    obtain ⟨h3,h4⟩:=lendL_free (H:=H) (t:=t) hi.2
    refine ⟨by simp only [lendL,h1,h3],fun r h=>?_⟩
    simp only [lendL] at h
    split at h
    · rename_i a' x r' y e1 e2
      simp only [Option.some.injEq] at h
      subst h
      obtain ⟨q1,q2⟩:=h2 _ e1
      obtain ⟨q3,q4⟩:=h4 _ e2
      exact ⟨by simp only at q1 q3 ⊢;rw [q1,q3];rfl,by simp only [idsL] at q2 q4 ⊢;rw [q2,q4];rfl⟩
    · cases h
theorem lendV_free {H:Heap} {t:Nat} {a:AV} (hi:ids a = []):lendV H t a = lendV [] t a∧∀ r,lendV H t a = some r→r.2.objs = []∧ids r.1 = []:=by
  unfold lendV
  split
  · rename_i l
    obtain ⟨h1,h2⟩:=lendL_free (H:=H) (t:=t) (l:=l) (by simpa [ids] using hi)
    refine ⟨by rw [h1],fun r h=>?_⟩
    cases hl:lendL H t l with
    | none=>rw [hl] at h;cases h
    | some z =>
      rw [hl] at h
      simp only [Option.map_some,Option.some.injEq] at h
      subst h
      obtain ⟨q1,q2⟩:=h2 _ hl
      exact ⟨q1,by simpa [ids] using q2⟩
  · rename_i f l
    obtain ⟨h1,h2⟩:=lendL_free (H:=H) (t:=t) (l:=l) (by simpa [ids] using hi)
    refine ⟨by rw [h1],fun r h=>?_⟩
    cases hl:lendL H t l with
    | none=>rw [hl] at h;cases h
    | some z =>
      rw [hl] at h
      simp only [Option.map_some,Option.some.injEq] at h
      subst h
      obtain ⟨q1,q2⟩:=h2 _ hl
      exact ⟨q1,by simpa [ids] using q2⟩
  · exact lend1_free hi
theorem lendArgs_free {f:Nat} {H:Heap}:∀ {args:List AV} {i:Nat},idsL args = []→lendArgs C f H i args = lendArgs C f [] i args∧∀ r,lendArgs C f H i args = some r→(∀ x ∈ r.2,x.objs = [])∧idsL r.1 = []
  | [],i,_=>⟨rfl,fun r h=>by simp only [lendArgs,Option.some.injEq] at h;subst h;simp [idsL]⟩
  | a :: l,i,hi=>by
    simp only [idsL,List.append_eq_nil_iff] at hi
    obtain ⟨h1,h2⟩:=lendV_free (H:=H) (t:=i + 1) hi.1
    obtain ⟨h3,h4⟩:=lendArgs_free (f:=f) (H:=H) (i:=i + 1) hi.2
    have e:∀ H:Heap,lendArgs C f H i (a :: l) = match lendV H (i + 1) a,lendArgs C f H (i + 1) l with
        | some (a',x),some (r',y)=>some (a' :: r',x :: y)
        | _,_=>none:=by
      intro H
      clear h1 h2 h3 h4
      cases a
      case sl o off len g=>simp [ids] at hi
      all_goals
        simp only [lendArgs]
        generalize lendV H (i + 1) _ = x
        generalize lendArgs C f H (i + 1) l = y
        cases C.rw f i <;> rcases x with _ | ⟨_,_⟩ <;> rcases y with _ | ⟨_,_⟩ <;> rfl
    rw [e,e,h1,h3]
    refine ⟨rfl,fun r h=>?_⟩
    rw [← h1,← h3] at h
    split at h
    · rename_i a' x r' y e1 e2
      simp only [Option.some.injEq] at h
      subst h
      obtain ⟨q1,q2⟩:=h2 _ e1
      obtain ⟨q3,q4⟩:=h4 _ e2
      refine ⟨fun z hz=>?_,by simp only [idsL] at q2 q4 ⊢;rw [q2,q4];rfl⟩
      rcases List.mem_cons.1 hz with rfl | hz
      · exact q1
      · exact q3 z hz
    · cases h
theorem reach_nil (H:Heap) (acc:List Nat):∀ n,reach H n [] acc = acc
  | 0=>rfl
  | _ + 1=>rfl
def shiftN (n:Nat) (o g:Nat):Option (Nat × Nat):=some (o + n,g)
def shiftV (n:Nat) (v:AV):AV:=ren (shiftN n) (fun t=>t) v
def shiftH (n:Nat) (N:Heap):Heap:=N.map fun x=>x.map fun ob=>renObj (shiftN n) (fun t=>t) ob.g ob
mutual
theorem ren_shift {ρ ρ':Nat→Nat→Option (Nat × Nat)} {τ:Nat→Nat} {n:Nat} (h:∀ o g,ρ' o g = (ρ o g).map fun x=>(x.1 + n,x.2)):(v:AV)→ren ρ' τ v = shiftV n (ren ρ τ v)
  | .ptr o i f g=>by
    simp only [ren,h]
    rcases ρ o g with _ | ⟨a,b⟩ <;> simp [shiftV,ren,shiftN]
  | .sl o off len g=>by
    simp only [ren,h]
    rcases ρ o g with _ | ⟨a,b⟩ <;> simp [shiftV,ren,shiftN]
  | .map o g=>by
    simp only [ren,h]
    rcases ρ o g with _ | ⟨a,b⟩ <;> simp [shiftV,ren,shiftN]
  | .ro c p t=>by simp [ren,shiftV]
  | .rptr p i f t=>by simp [ren,shiftV]
  | .agg p=>by simp only [ren,shiftV,ren_shift h p]
  | .tup l=>by simp only [ren,shiftV,renL_shift h l]
  | .fn f l=>by simp only [ren,shiftV,renL_shift h l]
  | .pc l=>by simp only [ren,shiftV,renL_shift h l]
  | .pr e l=>by simp only [ren,shiftV,renL_shift h l]
  | .pm l=>by simp only [ren,shiftV,renL_shift h l]
  | .top=>by simp [ren,shiftV]
  | .bool _=>by simp [ren,shiftV]
  | .int _ _=>by simp [ren,shiftV]
  | .str _=>by simp [ren,shiftV]
  | .nilptr=>by simp [ren,shiftV]
  | .nilfn=>by simp [ren,shiftV]
  | .nilmap=>by simp [ren,shiftV]
  | .pn=>by simp [ren,shiftV]
  | .pb _=>by simp [ren,shiftV]
  | .pi _ _=>by simp [ren,shiftV]
theorem renL_shift {ρ ρ':Nat→Nat→Option (Nat × Nat)} {τ:Nat→Nat} {n:Nat} (h:∀ o g,ρ' o g = (ρ o g).map fun x=>(x.1 + n,x.2)):(l:List AV)→renL ρ' τ l = renL (shiftN n) (fun t=>t) (renL ρ τ l)
  | []=>rfl
  | a :: r=>by
    have h1:=ren_shift (τ:=τ) h a
    simp only [shiftV] at h1
    simp only [renL,h1,renL_shift h r]
end
theorem idxOf_shift:∀ (l:List Nat) (o i n:Nat),idxOf l o (i + n) = (idxOf l o i).map (· + n)
  | [],_,_,_=>rfl
  | a :: r,o,i,n=>by
    simp only [idxOf]
    split
    · rfl
    · rw [show i + n + 1 = (i + 1) + n by omega,idxOf_shift r o (i + 1) n]
theorem Ev1.frame {f:Nat} {args:List AV} {v:AV} {N:Heap} (h:Ev1 C f args [] (v,N)) (hi:idsL args = []) (H:Heap):Ev1 C f args H (shiftV H.length v,H ++ shiftH H.length N):=by
  obtain ⟨n0,h0⟩:=h
  refine ⟨n0 + 1,fun n hn=>?_⟩
  obtain ⟨n,rfl⟩:∃ i,n = i + 1:=⟨n - 1,by omega⟩
  have h1:=h0 (n + 1) (by omega)
  simp only [callF,enterV] at h1 ⊢
  obtain ⟨e1,e2⟩:=lendArgs_free (C:=C) (f:=f) (H:=H) (i:=0) hi
  rw [e1]
  split at h1
  · cases h1
  · rename_i as lents hl
    obtain ⟨e3,e4⟩:=e2 _ (e1.trans hl)
    simp only at e3 e4 h1 ⊢
    rw [e4] at h1 ⊢
    simp only [reach_nil,List.map_nil,List.length_nil] at h1 ⊢
    have hren:∀ (H H':Heap) (l:List AV),renL (intoN H []) (fun t=>t) l = renL (intoN H' []) (fun t=>t) l:=by
      intro H H' l
      have:intoN H [] = intoN H' []:=by
        funext o g
        unfold intoN
        split <;> split <;> simp [idxOf]
      rw [this]
    rw [hren H []]
    split at h1
    · rename_i hc
      rw [if_pos hc]
      split at h1
      · cases h1
      · rename_i u H1 hb
        unfold wrap at h1 ⊢
        simp only [List.length_nil,List.range_zero,List.nil_append,List.map_nil,tagsObjs,List.append_nil] at h1 ⊢
        split at h1
        · rename_i hu
          rw [if_pos hu]
          generalize (List.filter (fun o=>decide (0≤o)) (reach H1 reachFuel (ids u) [])) = new at h1 ⊢
          have hrho:∀ o g,backN H [] new H1 o g = (backN [] [] new H1 o g).map fun x=>(x.1 + H.length,x.2):=by
            intro o g
            unfold backN
            split
            · have:=idxOf_shift new o 0 H.length
              rw [Nat.zero_add] at this
              simp [this,Option.map_map,Function.comp_def]
            · rfl
          have hgone:∀ t,goneOf (lents ++ [⟨[],[]⟩]) t = []:=by
            intro t
            unfold goneOf
            split
            · rfl
            · split
              · rename_i x hx
                rcases List.mem_append.1 (List.mem_of_getElem? hx) with hx | hx
                · exact e3 x hx
                · simp only [List.mem_singleton] at hx
                  rw [hx]
              · rfl
          have hfl:∀ l:List Nat,l.flatMap (goneOf (lents ++ [⟨[],[]⟩])) = []:=fun l=>by simp [hgone]
          rw [hfl] at h1 ⊢
          simp only [strike,putBack,List.nil_append,Option.some.injEq,Prod.mk.injEq] at h1 ⊢
          obtain ⟨h2,h3⟩:=h1
          refine ⟨by rw [← h2];exact ren_shift hrho u,?_⟩
          rw [← h3]
          congr 1
          simp only [shiftH,List.map_map]
          refine List.map_congr_left fun o _=>?_
          simp only [Function.comp]
          cases obAt H1 o with
          | none=>rfl
          | some ob =>
            simp only [Option.map_some,renObj,Option.some.injEq]
            have:=ren_shift (τ:=backT (lents ++ [⟨[],[]⟩])) hrho ob.p
            simp only [shiftV] at this
            rw [this]
        · cases h1
    · cases h1
end
end Go.AM
namespace Go.AM
structure Row1 where
  f:Nat
  args:List AV
  res:AV
  N:Heap
def tabF (L:List Row1):Cf:=fun f args H =>
  match L.find? (fun e=>e.f == f && eqL e.args args) with
  | some e=>some (shiftV H.length e.res,H ++ shiftH H.length e.N)
  | none=>none
def RowsOk (C:Ctx) (L:List Row1):Prop:=∀ e ∈ L,Ev1 C e.f e.args [] (e.res,e.N)∧idsL e.args = []
theorem tabF_below {C:Ctx} {L:List Row1} (h:RowsOk C L):Below C (tabF L):=by
  intro f args H r hr
  unfold tabF at hr
  split at hr
  · rename_i e he
    simp only [Option.some.injEq] at hr
    subst hr
    obtain ⟨h1,h2⟩:=h e (List.mem_of_find?_eq_some he)
    have h3:=List.find?_some he
    simp only [Bool.and_eq_true,beq_iff_eq] at h3
    rw [← h3.1,← eqL_eq _ _ h3.2]
    exact Ev1.frame h1 h2 H
  · cases hr
theorem RowsOk.nil {C:Ctx}:RowsOk C []:=by intro e h;simp at h
def rowRun (C:Ctx) (T:Cf) (n:Nat) (e:Row1):Bool :=
  (idsL e.args).isEmpty && (match enterV C (runBody C (callT C T n) n) e.f e.args [] with
    | some (v,N)=>eqAV v e.res && eqH N e.N
    | none=>false)
theorem RowsOk.cons {C:Ctx} {T:Cf} (hT:Below C T) {L:List Row1} (hL:RowsOk C L) {n:Nat} {e:Row1} (h:rowRun C T n e = true):RowsOk C (e :: L):=by
  intro x hx
  rcases List.mem_cons.1 hx with rfl | hx
  · unfold rowRun at h
    simp only [Bool.and_eq_true,List.isEmpty_iff] at h
    refine ⟨?_,h.1⟩
    have h2:=h.2
    split at h2
    · rename_i v N hv
      simp only [Bool.and_eq_true] at h2
      rw [← eqAV_eq _ _ h2.1,← eqH_eq h2.2]
      exact enter_ev (callT_below hT n) hv
    · cases h2
  · exact hL x hx
end Go.AM
namespace Go.AM
def flatV:AV→Bool
  | .bool _ | .int _ _ | .str _ | .nilptr | .nilfn | .nilmap=>true
  | .agg (.pb _) | .agg (.pi _ _)=>true
  | _=>false
theorem flat_lend {H:Heap} {t:Nat} {a:AV} (h:flatV a = true):lendV H t a = some (a,⟨[],[]⟩):=by
  cases a <;> simp only [flatV,Bool.false_eq_true] at h <;> try rfl
  case agg p=>cases p <;> simp only [flatV,Bool.false_eq_true] at h <;> rfl
theorem flat_ids {a:AV} (h:flatV a = true):ids a = []∧tags a = []:=by
  cases a <;> simp only [flatV,Bool.false_eq_true] at h <;> try exact ⟨rfl,rfl⟩
  case agg p=>cases p <;> simp only [flatV,Bool.false_eq_true] at h <;> exact ⟨rfl,rfl⟩
def faV (H:Heap) (x:AV) (off:Nat):Option AV :=
  match x with
  | .ptr o i f g=>match live H o g with | some ob=>some (shiftBy ob.p o i f g off) | none=>none
  | .rptr p i f t=>some (shiftRo p i f t off)
  | _=>none
def fvV (C:Ctx) (x:AV) (off ty:Nat):Option AV :=
  match x with
  | .agg (.pc l) =>
    if isAggT C ty then
      if ((l.drop off).take (sizeT C ty)).length = sizeT C ty then (mkAgg C ty ((l.drop off).take (sizeT C ty))).map .agg else none
    else if okT C ty then l[off]? else none
  | _=>none
theorem fieldAddr_of {C:Ctx} {s:TypeId} {n off:Nat} {ty:TypeId} (h:((fieldsOf C s)[n]?).map (fun fd=>(fd.offset,fd.type)) = some (off,ty)) (hs:(sizeT C ty == 0) = false) (H:Heap) (x:AV) :
    fieldAddrV C H s x n = faV H x off:=by
  cases hf:(fieldsOf C s)[n]? with
  | none=>rw [hf] at h;cases h
  | some fd =>
    rw [hf] at h
    simp only [Option.map_some,Option.some.injEq,Prod.mk.injEq] at h
    obtain ⟨rfl,rfl⟩:=h
    have:¬ sizeT C fd.type = 0:=by simpa using hs
    unfold fieldAddrV faV
    rw [hf]
    simp only [if_neg this]
    cases x <;> rfl
theorem field_of {C:Ctx} {s:TypeId} {n off:Nat} {ty:TypeId} (h:((fieldsOf C s)[n]?).map (fun fd=>(fd.offset,fd.type)) = some (off,ty)) (x:AV) :
    fieldV C s x n = fvV C x off ty:=by
  cases hf:(fieldsOf C s)[n]? with
  | none=>rw [hf] at h;cases h
  | some fd =>
    rw [hf] at h
    simp only [Option.map_some,Option.some.injEq,Prod.mk.injEq] at h
    obtain ⟨rfl,rfl⟩:=h
    unfold fieldV fvV
    rw [hf]
    cases x <;> try rfl
    case agg p=>cases p <;> rfl
section
variable {C:Ctx} {f:Nat} {H:Heap}
theorem args_nil (i:Nat):lendArgs C f H i [] = some ([],[]):=rfl
theorem args_flat {i:Nat} {a:AV} {r as:List AV} {xs:List Lent} (hrw:C.rw f i = false) (h:flatV a = true) (hr:lendArgs C f H (i + 1) r = some (as,xs)) :
    lendArgs C f H i (a :: r) = some (a :: as,⟨[],[]⟩ :: xs):=by
  simp only [lendArgs,hrw,flat_lend h,hr]
theorem reach_none (H:Heap):reach H reachFuel [] [] = []:=reach_nil H [] reachFuel
mutual
theorem ren_flat {ρ:Nat→Nat→Option (Nat × Nat)} {τ:Nat→Nat}:(v:AV)→ids v = []→(∀ t ∈ tags v,τ t = t)→ren ρ τ v = v
  | .ptr ..,h,_=>by simp [ids] at h
  | .sl ..,h,_=>by simp [ids] at h
  | .map ..,h,_=>by simp [ids] at h
  | .ro c p t,_,ht=>by simp only [ren,ht t (by simp [tags])]
  | .rptr p i f t,_,ht=>by simp only [ren,ht t (by simp [tags])]
  | .agg p,h,ht=>by simp only [ids] at h;simp only [tags] at ht;simp only [ren,ren_flat p h ht]
  | .tup l,h,ht=>by simp only [ids] at h;simp only [tags] at ht;simp only [ren,renL_flat l h ht]
  | .fn f l,h,ht=>by simp only [ids] at h;simp only [tags] at ht;simp only [ren,renL_flat l h ht]
  | .pc l,h,ht=>by simp only [ids] at h;simp only [tags] at ht;simp only [ren,renL_flat l h ht]
  | .pr e l,h,ht=>by simp only [ids] at h;simp only [tags] at ht;simp only [ren,renL_flat l h ht]
  | .pm l,h,ht=>by simp only [ids] at h;simp only [tags] at ht;simp only [ren,renL_flat l h ht]
  | .top,_,_=>rfl
  | .bool _,_,_=>rfl
  | .int _ _,_,_=>rfl
  | .str _,_,_=>rfl
  | .nilptr,_,_=>rfl
  | .nilfn,_,_=>rfl
  | .nilmap,_,_=>rfl
  | .pn,_,_=>rfl
  | .pb _,_,_=>rfl
  | .pi _ _,_,_=>rfl
theorem renL_flat {ρ:Nat→Nat→Option (Nat × Nat)} {τ:Nat→Nat}:(l:List AV)→idsL l = []→(∀ t ∈ tagsL l,τ t = t)→renL ρ τ l = l
  | [],_,_=>rfl
  | a :: r,h,ht=>by
    simp only [idsL,List.append_eq_nil_iff] at h
    simp only [tagsL,List.mem_append] at ht
    simp only [renL,ren_flat a h.1 (fun t h'=>ht t (.inl h')),renL_flat r h.2 (fun t h'=>ht t (.inr h'))]
end
mutual
theorem ren_same {ρ ρ':Nat→Nat→Option (Nat × Nat)} {τ τ':Nat→Nat}:(v:AV)→(∀ o g,o ∈ ids v→ρ o g = ρ' o g)→(∀ t ∈ tags v,τ t = τ' t)→ren ρ τ v = ren ρ' τ' v
  | .ptr o i f g,h,_=>by simp only [ren,h o g (by simp [ids])]
  | .sl o a b g,h,_=>by simp only [ren,h o g (by simp [ids])]
  | .map o g,h,_=>by simp only [ren,h o g (by simp [ids])]
  | .ro c p t,_,ht=>by simp only [ren,ht t (by simp [tags])]
  | .rptr p i f t,_,ht=>by simp only [ren,ht t (by simp [tags])]
  | .agg p,h,ht=>by simp only [ids] at h;simp only [tags] at ht;simp only [ren,ren_same p h ht]
  | .tup l,h,ht=>by simp only [ids] at h;simp only [tags] at ht;simp only [ren,renL_same l h ht]
  | .fn f l,h,ht=>by simp only [ids] at h;simp only [tags] at ht;simp only [ren,renL_same l h ht]
  | .pc l,h,ht=>by simp only [ids] at h;simp only [tags] at ht;simp only [ren,renL_same l h ht]
  | .pr e l,h,ht=>by simp only [ids] at h;simp only [tags] at ht;simp only [ren,renL_same l h ht]
  | .pm l,h,ht=>by simp only [ids] at h;simp only [tags] at ht;simp only [ren,renL_same l h ht]
  | .top,_,_=>rfl
  | .bool _,_,_=>rfl
  | .int _ _,_,_=>rfl
  | .str _,_,_=>rfl
  | .nilptr,_,_=>rfl
  | .nilfn,_,_=>rfl
  | .nilmap,_,_=>rfl
  | .pn,_,_=>rfl
  | .pb _,_,_=>rfl
  | .pi _ _,_,_=>rfl
theorem renL_same {ρ ρ':Nat→Nat→Option (Nat × Nat)} {τ τ':Nat→Nat}:(l:List AV)→(∀ o g,o ∈ idsL l→ρ o g = ρ' o g)→(∀ t ∈ tagsL l,τ t = τ' t)→renL ρ τ l = renL ρ' τ' l
  | [],_,_=>rfl
  | a :: r,h,ht=>by
    simp only [idsL,List.mem_append] at h
    simp only [tagsL,List.mem_append] at ht
    simp only [renL,ren_same a (fun o g h'=>h o g (.inl h')) (fun t h'=>ht t (.inl h')),renL_same r (fun o g h'=>h o g (.inr h')) (fun t h'=>ht t (.inr h'))]
end
theorem disjoint_nil (l:List Nat):disjoint l [] = true:=disjoint_iff.2 fun _ _ h=>by simp at h
theorem wrap_plain {lents:List Lent} {v:AV} {H1:Heap} (hi:ids v = []) (ht:tags v = []):wrap H [] lents v H1 = some (v,H):=by
  unfold wrap
  simp only [List.length_nil,List.range_zero,List.nil_append,hi,reach_none,List.filter_nil,List.map_nil,ht,tagsObjs,List.append_nil,List.all_nil,if_true,List.flatMap_nil,strike,putBack]
  rw [ren_flat v hi (by simp [ht])]
def fresh (ob:Obj):Obj:={ ob with g:=0,tg:=0 }
def plainP:AV→Bool
  | .pb _ | .pi _ _ | .pn=>true
  | _=>false
theorem plainP_ren {ρ:Nat→Nat→Option (Nat × Nat)} {τ:Nat→Nat} {p:AV} (h:plainP p = true):ren ρ τ p = p:=by
  cases p <;> simp [plainP] at h <;> rfl
theorem reach_one {H1:Heap} {o:Nat} {ob:Obj} (ho:H1[o]? = some (some ob)) (hob:ob.ids = false):reach H1 reachFuel [o] [] = [o]:=by
  show reach H1 (99998 + 1 + 1) [o] [] = [o]
  simp [reach,ho,hob]
theorem wrap_new {lents:List Lent} {v:AV} {H1:Heap} {o g:Nat} {ob:Obj} (hi:ids v = [o]) (ht:tags v = []) (hl:live H1 o g = some ob) (hob:ob.ids = false) (hp:plainP ob.p = true) (htg:ob.tg = 0) :
    wrap H [] lents v H1 = some (ren (fun o' g'=>if o' = o∧g' = g then some (H.length,0) else none) (fun t=>t) v,H ++ [some (fresh ob)]):=by
  obtain ⟨h1,h2⟩:=live_iff.1 hl
  unfold wrap
  have hat:obAt H1 o = some ob:=by simp [obAt,h1]
  have htags:tagsOb ob = [0]:=by
    unfold tagsOb
    rw [hob,htg]
    cases hq:ob.p <;> simp [hq,plainP] at hp <;> simp
  have hρ:ren (backN H [] [o] H1) (backT lents) v = ren (fun o' g'=>if o' = o∧g' = g then some (H.length,0) else none) (fun t=>t) v:=by
    have key:∀ o' g',o' ∈ ids v→backN H [] [o] H1 o' g' = if o' = o∧g' = g then some (H.length,0) else none:=by
      intro o' g' hm
      rw [hi] at hm
      simp only [List.mem_singleton] at hm
      subst hm
      unfold backN
      by_cases hg:g' = g
      · subst hg
        rw [hl]
        simp [idxOf]
      · have:live H1 o' g' = none:=by
          simp only [live,h1]
          rw [if_neg (fun e=>hg (e.symm.trans h2))]
        rw [this]
        simp [hg]
    exact ren_same v (fun o' g' hm=>key o' g' hm) (by simp [ht])
  simp only [List.length_nil,List.range_zero,List.nil_append,hi,reach_one h1 hob,ht,tagsObjs,List.append_nil,List.map_nil,hat,htags,List.map_cons,Nat.zero_le,decide_true,List.filter_cons_of_pos,List.filter_nil,strike,putBack]
  have h0:backTag lents 0 = some 0:=rfl
  simp only [List.all_cons,List.all_nil,h0,Option.isSome_some,Bool.and_true,if_true,List.flatMap_cons,List.flatMap_nil,goneOf,List.append_nil,strike,Option.map_some,Option.some.injEq,Prod.mk.injEq]
  refine ⟨hρ,?_⟩
  simp only [renObj,plainP_ren hp,fresh,htg]
  rfl
variable {T:Cf}
theorem Ev1.plain (hT:Below C T) {args:List AV} {fn:Func} {c:Code} {as:List AV} {lents:List Lent} {out:Out} {l:List AV}
    (hF:C.P.funcs[f]? = some fn) (hb:fn.body = some c) (hl:lendArgs C f H 0 args = some (as,lents)) (hi:idsL as = []) (hn:as.length + 1 < gtag)
    (he:Run C T f 0 c (numbered 0 (coerce C as (paramsOf C f))) [] out) (hex:out.ex = .normal∨out.ex = .ret) (hr:resultsV C out.fr out.H fn.results.toList = some l)
    (hv:ids (resultV l) = []) (ht:tags (resultV l) = []):Ev1 C f args H (resultV l,H):=by
  refine Ev1.of hT hF hb hl ?_ ?_ hex hr ?_
  · rw [hi,reach_none]
    simp only [Bool.and_eq_true,decide_eq_true_eq]
    exact ⟨List.all_eq_true.2 fun x _=>disjoint_nil x.objs,hn⟩
  · rw [hi,reach_none,renL_flat as hi (fun _ _=>rfl)]
    exact he
  · rw [hi,reach_none]
    exact wrap_plain hv ht
theorem Ev1.fresh (hT:Below C T) {args:List AV} {fn:Func} {c:Code} {as:List AV} {lents:List Lent} {out:Out} {l:List AV} {o g:Nat} {ob:Obj}
    (hF:C.P.funcs[f]? = some fn) (hb:fn.body = some c) (hl:lendArgs C f H 0 args = some (as,lents)) (hi:idsL as = []) (hn:as.length + 1 < gtag)
    (he:Run C T f 0 c (numbered 0 (coerce C as (paramsOf C f))) [] out) (hex:out.ex = .normal∨out.ex = .ret) (hr:resultsV C out.fr out.H fn.results.toList = some l)
    (hv:ids (resultV l) = [o]) (ht:tags (resultV l) = []) (ho:live out.H o g = some ob) (hob:ob.ids = false) (hp:plainP ob.p = true) (htg:ob.tg = 0) :
    Ev1 C f args H (ren (fun o' g'=>if o' = o∧g' = g then some (H.length,0) else none) (fun t=>t) (resultV l),H ++ [some (AM.fresh ob)]):=by
  refine Ev1.of hT hF hb hl ?_ ?_ hex hr ?_
  · rw [hi,reach_none]
    simp only [Bool.and_eq_true,decide_eq_true_eq]
    exact ⟨List.all_eq_true.2 fun x _=>disjoint_nil x.objs,hn⟩
  · rw [hi,reach_none,renL_flat as hi (fun _ _=>rfl)]
    exact he
  · rw [hi,reach_none]
    exact wrap_new hv ht ho hob hp htg
end
-- what a call tells of what is lent,whatever the form in which it is handed over
section
variable {C:Ctx} {f:Nat} {H:Heap}
theorem lend1_idem {t:Nat} {a a':AV} {x:Lent} (h:lend1 H t a = some (a',x)) (hi:ids a' = []) :
    ∃ y:Lent,(∀ H2,lend1 H2 t a' = some (a',y))∧(∀ s ∈ y.tags,s = t)∧y.objs = []∧(y.tags = []→x.tags = []∧x.objs = []):=by
  cases a
  case sl o off len g =>
    simp only [lend1] at h
    split at h
    · rename_i ob hl
      split at h
      · cases h
      · simp only [Option.map_eq_some_iff,Prod.mk.injEq] at h
        obtain ⟨p,_,rfl,rfl⟩:=h
        exact ⟨⟨[],[t]⟩,fun _=>rfl,by simp,rfl,by simp⟩
    · cases h
  case ro c p t' =>
    simp only [lend1,Option.some.injEq,Prod.mk.injEq] at h
    obtain ⟨rfl,rfl⟩:=h
    exact ⟨⟨[],[t]⟩,fun _=>rfl,by simp,rfl,by simp⟩
  case rptr p i g t' =>
    simp only [lend1,Option.some.injEq,Prod.mk.injEq] at h
    obtain ⟨rfl,rfl⟩:=h
    exact ⟨⟨[],[t]⟩,fun _=>rfl,by simp,rfl,by simp⟩
  all_goals
    simp only [lend1] at h
    split at h
    · rename_i ht
      simp only [Option.some.injEq,Prod.mk.injEq] at h
      obtain ⟨rfl,rfl⟩:=h
      exact ⟨⟨[],[]⟩,fun _=>by simp only [lend1];rw [if_pos ht],by simp,rfl,fun _=>⟨rfl,rfl⟩⟩
    · cases h
theorem lendL_idem {t:Nat}:∀ {l l':List AV} {x:Lent},lendL H t l = some (l',x)→idsL l' = [] →
    ∃ y:Lent,(∀ H2,lendL H2 t l' = some (l',y))∧(∀ s ∈ y.tags,s = t)∧y.objs = []∧(y.tags = []→x.tags = []∧x.objs = [])
  | [],l',x,h,_=>by
    simp only [lendL,Option.some.injEq,Prod.mk.injEq] at h
    obtain ⟨rfl,rfl⟩:=h
    exact ⟨⟨[],[]⟩,fun _=>rfl,by simp,rfl,fun _=>⟨rfl,rfl⟩⟩
  | a :: l,l',x,h,hi=>by
    simp only [lendL] at h
    split at h
    · rename_i a' x1 r' x2 e1 e2
      simp only [Option.some.injEq,Prod.mk.injEq] at h
      obtain ⟨rfl,rfl⟩:=h
      simp only [idsL,List.append_eq_nil_iff] at hi
      obtain ⟨y1,q1,q2,q3,q4⟩:=lend1_idem e1 hi.1
      obtain ⟨y2,p1,p2,p3,p4⟩:=lendL_idem e2 hi.2
      refine ⟨⟨y1.objs ++ y2.objs,y1.tags ++ y2.tags⟩,fun H2=>by simp only [lendL,q1,p1],?_,by simp [q3,p3],?_⟩
      · intro s hs
        rcases List.mem_append.1 hs with hs | hs
        · exact q2 s hs
        · exact p2 s hs
      · intro hy
        simp only [List.append_eq_nil_iff] at hy
        obtain ⟨h1,h2⟩:=q4 hy.1
        obtain ⟨h3,h4⟩:=p4 hy.2
        simp [h1,h2,h3,h4]
    · cases h
theorem lendV_idem {t:Nat} {a a':AV} {x:Lent} (h:lendV H t a = some (a',x)) (hi:ids a' = []) :
    ∃ y:Lent,(∀ H2,lendV H2 t a' = some (a',y))∧(∀ s ∈ y.tags,s = t)∧y.objs = []∧(y.tags = []→x.tags = []∧x.objs = []):=by
  unfold lendV at h
  split at h
  · rename_i l
    cases hl:lendL H t l with
    | none=>rw [hl] at h;cases h
    | some z =>
      obtain ⟨l',x'⟩:=z
      rw [hl] at h
      simp only [Option.map_some,Option.some.injEq,Prod.mk.injEq] at h
      obtain ⟨rfl,rfl⟩:=h
      obtain ⟨y,q1,q2⟩:=lendL_idem hl (by simpa [ids] using hi)
      exact ⟨y,fun H2=>by simp only [lendV,q1 H2,Option.map_some],q2⟩
  · rename_i g l
    cases hl:lendL H t l with
    | none=>rw [hl] at h;cases h
    | some z =>
      obtain ⟨l',x'⟩:=z
      rw [hl] at h
      simp only [Option.map_some,Option.some.injEq,Prod.mk.injEq] at h
      obtain ⟨rfl,rfl⟩:=h
      obtain ⟨y,q1,q2⟩:=lendL_idem hl (by simpa [ids] using hi)
      exact ⟨y,fun H2=>by simp only [lendV,q1 H2,Option.map_some],q2⟩
  · rename_i n1 n2
    obtain ⟨y,q1,q2⟩:=lend1_idem h hi
    refine ⟨y,fun H2=>?_,q2⟩
    unfold lendV
    split
    · rename_i l
      exfalso
      cases a <;> simp only [lend1] at h <;> first | (split at h <;> first | (simp only [Option.some.injEq,Prod.mk.injEq] at h;cases h.1;exact n1 _ rfl) | cases h | skip) | skip
      all_goals simp_all
    · rename_i g l
      exfalso
      cases a <;> simp only [lend1] at h <;> first | (split at h <;> first | (simp only [Option.some.injEq,Prod.mk.injEq] at h;cases h.1;exact n2 _ _ rfl) | cases h | skip) | skip
      all_goals simp_all
    · exact q1 H2
theorem lendArgs_idem:∀ {args as:List AV} {i:Nat} {xs:List Lent},lendArgs C f H i args = some (as,xs)→idsL as = [] →
    ∃ ys:List Lent,(∀ H2,lendArgs C f H2 i as = some (as,ys))∧ys.length = xs.length ∧
      ∀ k y,ys[k]? = some y→∃ x,xs[k]? = some x∧(∀ s ∈ y.tags,s = i + k + 1)∧y.objs = []∧(y.tags = []→x.tags = []∧x.objs = [])
  | [],as,i,xs,h,_=>by
    simp only [lendArgs,Option.some.injEq,Prod.mk.injEq] at h
    obtain ⟨rfl,rfl⟩:=h
    exact ⟨[],fun _=>rfl,rfl,fun k y h=>by simp at h⟩
  | a :: l,as,i,xs,h,hi=>by
    have e:∀ (H:Heap) (a:AV) (l:List AV),ids a = []→lendArgs C f H i (a :: l) = match lendV H (i + 1) a,lendArgs C f H (i + 1) l with
        | some (a',x),some (r',y)=>some (a' :: r',x :: y)
        | _,_=>none:=by
      intro H a l ha
      cases a
      case sl o off len g=>simp [ids] at ha
      all_goals
        simp only [lendArgs]
        generalize lendV H (i + 1) _ = x
        generalize lendArgs C f H (i + 1) l = y
        cases C.rw f i <;> rcases x with _ | ⟨_,_⟩ <;> rcases y with _ | ⟨_,_⟩ <;> rfl
    simp only [lendArgs] at h
    split at h
    · rename_i a' x1 r' x2 e1 e2
      simp only [Option.some.injEq,Prod.mk.injEq] at h
      obtain ⟨rfl,rfl⟩:=h
      simp only [idsL,List.append_eq_nil_iff] at hi
      have e3:lendV H (i + 1) a = some (a',x1):=by
        split at e1
        · simp only [Option.some.injEq,Prod.mk.injEq] at e1
          obtain ⟨rfl,rfl⟩:=e1
          simp [ids] at hi
        · exact e1
      obtain ⟨y1,q1,q2,q3,q4⟩:=lendV_idem e3 hi.1
      obtain ⟨ys,p1,p2,p3⟩:=lendArgs_idem e2 hi.2
      refine ⟨y1 :: ys,fun H2=>by rw [e H2 a' r' hi.1,q1,p1],by simp [p2],fun k y hy=>?_⟩
      cases k with
      | zero =>
        simp only [List.getElem?_cons_zero,Option.some.injEq] at hy
        subst hy
        exact ⟨x1,rfl,q2,q3,q4⟩
      | succ k =>
        obtain ⟨x,h1,h2,h3⟩:=p3 k y (by simpa using hy)
        exact ⟨x,by simpa using h1,fun s hs=>by rw [h2 s hs];omega,h3⟩
    · cases h
mutual
theorem tags_ren' {ρ:Nat→Nat→Option (Nat × Nat)} {τ:Nat→Nat}:(v:AV)→tags (ren ρ τ v) = (tags v).map τ
  | .ptr o i f g=>by simp only [ren];rcases ρ o g with _ | ⟨_,_⟩ <;> rfl
  | .sl o a b g=>by simp only [ren];rcases ρ o g with _ | ⟨_,_⟩ <;> rfl
  | .map o g=>by simp only [ren];rcases ρ o g with _ | ⟨_,_⟩ <;> rfl
  | .ro c p t=>rfl
  | .rptr p i f t=>rfl
  | .agg p=>by simp only [ren,tags,tags_ren' p]
  | .tup l=>by simp only [ren,tags,tagsL_ren' l]
  | .fn f l=>by simp only [ren,tags,tagsL_ren' l]
  | .pc l=>by simp only [ren,tags,tagsL_ren' l]
  | .pr e l=>by simp only [ren,tags,tagsL_ren' l]
  | .pm l=>by simp only [ren,tags,tagsL_ren' l]
  | .top=>rfl
  | .bool _=>rfl
  | .int _ _=>rfl
  | .str _=>rfl
  | .nilptr=>rfl
  | .nilfn=>rfl
  | .nilmap=>rfl
  | .pn=>rfl
  | .pb _=>rfl
  | .pi _ _=>rfl
theorem tagsL_ren' {ρ:Nat→Nat→Option (Nat × Nat)} {τ:Nat→Nat}:(l:List AV)→tagsL (renL ρ τ l) = (tagsL l).map τ
  | []=>rfl
  | a :: r=>by simp only [renL,tagsL,List.map_append,tags_ren' a,tagsL_ren' r]
end
theorem tagsOb_ren {ρ:Nat→Nat→Option (Nat × Nat)} {τ:Nat→Nat} {g:Nat} (ob:Obj):tagsOb (renObj ρ τ g ob) = (tagsOb ob).map τ:=by
  unfold tagsOb renObj
  simp only
  split
  · exact tags_ren' ob.p
  · simp only [List.map_cons,List.cons.injEq,true_and]
    cases ob.p <;> simp only [ren,List.map_nil]
    case ptr o i f g=>rcases ρ o g with _ | ⟨_,_⟩ <;> rfl
    case sl o a b g=>rcases ρ o g with _ | ⟨_,_⟩ <;> rfl
    case map o g=>rcases ρ o g with _ | ⟨_,_⟩ <;> rfl
    case pm l=>exact tagsL_ren' l
theorem tagsObjs_ren {ρ:Nat→Nat→Option (Nat × Nat)} {τ:Nat→Nat} {g:Nat→Nat}:∀ (l:List (Option Obj)),tagsObjs (l.map fun x=>x.map fun ob=>renObj ρ τ (g ob.g) ob) = (tagsObjs l).map τ
  | []=>rfl
  | none :: r=>by simp only [List.map_cons,Option.map_none,tagsObjs,tagsObjs_ren r]
  | some ob :: r=>by simp only [List.map_cons,Option.map_some,tagsObjs,List.map_append,tagsOb_ren,tagsObjs_ren r]
theorem joinTags_same {t:Nat} (ht:t ≠ 0):∀ {l:List Nat},(∀ s ∈ l,s = t)→l ≠ []→joinTags l = some t
  | [],_,h=>absurd rfl h
  | a :: [],h,_=>by
    have:=h a (by simp)
    subst this
    simp [joinTags,joinTag,ht]
  | a :: b :: r,h,_=>by
    have:=h a (by simp)
    subst this
    have ih:=joinTags_same ht (l:=b :: r) (fun s hs=>h s (by simp at hs ⊢;right;exact hs)) (by simp)
    rw [joinTags,ih]
    simp [joinTag,ht]
def cleanV (v:AV):Bool:=(tags v).all (· == 0)
def cleanH (N:Heap):Bool:=N.all fun | some ob=>ob.tg == 0 && (tags ob.p).all (· == 0) | none=>true
theorem cleanV_iff {v:AV} (h:cleanV v = true):∀ t ∈ tags v,t = 0:=fun t ht=>by simpa using List.all_eq_true.1 h t ht
theorem cleanH_iff {N:Heap} (h:cleanH N = true) {ob:Obj} (ho:some ob ∈ N):ob.tg = 0∧∀ t ∈ tags ob.p,t = 0:=by
  have:=List.all_eq_true.1 h _ ho
  simp only [Bool.and_eq_true,beq_iff_eq,List.all_eq_true] at this
  exact this
theorem cleanOb {ob:Obj} (h:ob.tg = 0∧∀ t ∈ tags ob.p,t = 0):∀ t ∈ tagsOb ob,t = 0:=by
  intro t ht
  unfold tagsOb at ht
  split at ht
  · exact h.2 t ht
  · rcases List.mem_cons.1 ht with rfl | ht
    · exact h.1
    · cases hp:ob.p <;> rw [hp] at ht <;> simp only [List.not_mem_nil] at ht
      rw [hp] at h
      exact h.2 t ht
theorem cleanObjs:∀ {N:Heap},cleanH N = true→∀ t ∈ tagsObjs N,t = 0
  | [],_,t,ht=>by simp [tagsObjs] at ht
  | none :: r,h,t,ht=>by
    refine cleanObjs (N:=r) ?_ t (by simpa [tagsObjs] using ht)
    simpa [cleanH] using h
  | some ob :: r,h,t,ht=>by
    simp only [tagsObjs,List.mem_append] at ht
    rcases ht with ht | ht
    · exact cleanOb (cleanH_iff h (by simp)) t ht
    · refine cleanObjs (N:=r) ?_ t ht
      simp only [cleanH,List.all_cons,Bool.and_eq_true] at h
      exact h.2
theorem Ev1.lent {args as:List AV} {xs:List Lent} {v:AV} {N:Heap} (h:Ev1 C f as [] (v,N)) (hl:lendArgs C f H 0 args = some (as,xs)) (hi:idsL as = [])
    (hcv:cleanV v = true) (hcN:cleanH N = true):Ev1 C f args H (shiftV H.length v,H ++ shiftH H.length N):=by
  have hv:=cleanV_iff hcv
  have hN:=cleanObjs hcN
  obtain ⟨ys,k1,k2,k3⟩:=lendArgs_idem hl hi
  obtain ⟨n0,h0⟩:=h
  have kz:∀ t,backT (ys ++ [⟨[],[]⟩]) t = 0→backT (xs ++ [⟨[],[]⟩]) t = 0:=by
    intro t hb0
    unfold backT backTag at hb0 ⊢
    split
    · rfl
    · rename_i ht0
      rw [if_neg ht0] at hb0
      by_cases hlt:t - 1 < ys.length
      · rw [List.getElem?_append_left hlt,List.getElem?_eq_getElem hlt] at hb0
        simp only at hb0
        obtain ⟨x,q1,q2,q3,q4⟩:=k3 (t - 1) _ (List.getElem?_eq_getElem hlt)
        rw [List.getElem?_append_left (by omega),q1]
        simp only
        have hnil:(ys[t - 1]).tags = []:=by
          apply Classical.byContradiction
          intro hne
          have:=joinTags_same (t:=0 + (t - 1) + 1) (by omega) q2 hne
          rw [this] at hb0
          simp at hb0
        rw [(q4 hnil).1]
        rfl
      · by_cases hlt2:t - 1 = ys.length
        · have e:(xs ++ [(⟨[],[]⟩:Lent)])[t - 1]? = some ⟨[],[]⟩:=by
            rw [List.getElem?_append_right (by omega),hlt2,k2]
            simp
          rw [e]
          rfl
        · have e:(xs ++ [(⟨[],[]⟩:Lent)])[t - 1]? = none:=by
            rw [List.getElem?_eq_none]
            simp
            omega
          rw [e]
          rfl
  refine ⟨n0 + 1,fun n hn=>?_⟩
  obtain ⟨n,rfl⟩:∃ i,n = i + 1:=⟨n - 1,by omega⟩
  have h1:=h0 (n + 1) (by omega)
  simp only [callF,enterV] at h1 ⊢
  rw [k1 []] at h1
  rw [hl]
  simp only at h1 ⊢
  rw [hi] at h1 ⊢
  simp only [reach_nil,List.map_nil,List.length_nil] at h1 ⊢
  rw [renL_flat as hi (fun _ _=>rfl)] at h1 ⊢
  split at h1
  · rename_i hc
    have hc':((xs.all fun x=>disjoint x.objs []) && decide (as.length + 1 < gtag)) = true:=by
      simp only [Bool.and_eq_true] at hc ⊢
      exact ⟨List.all_eq_true.2 fun x _=>disjoint_nil x.objs,hc.2⟩
    rw [if_pos hc']
    split at h1
    · cases h1
    · rename_i u H1 hb
      unfold wrap at h1 ⊢
      simp only [List.length_nil,List.range_zero,List.nil_append,List.map_nil,tagsObjs,List.append_nil] at h1 ⊢
      generalize hnew:(List.filter (fun o=>decide (0≤o)) (reach H1 reachFuel (ids u) [])) = new at h1 ⊢
      split at h1
      · rename_i hu
        simp only [Option.some.injEq,Prod.mk.injEq] at h1
        obtain ⟨h2,h3⟩:=h1
        have hgone0:∀ t,goneOf (ys ++ [⟨[],[]⟩]) t = []:=by
          intro t
          unfold goneOf
          split
          · rfl
          · split
            · rename_i x hx
              rcases List.mem_append.1 (List.mem_of_getElem? hx) with hx | hx
              · obtain ⟨k,hk⟩:=List.getElem?_of_mem hx
                obtain ⟨_,_,_,q,_⟩:=k3 k x hk
                exact q
              · simp only [List.mem_singleton] at hx
                rw [hx]
            · rfl
        have hfl0:∀ l:List Nat,l.flatMap (goneOf (ys ++ [⟨[],[]⟩])) = []:=fun l=>by simp [hgone0]
        rw [hfl0] at h3
        simp only [strike,putBack,List.nil_append] at h3
        -- all tags used are none
        have hz:∀ t ∈ tags u ++ tagsObjs (new.map (obAt H1)),backT (ys ++ [⟨[],[]⟩]) t = 0:=by
          intro t ht
          rcases List.mem_append.1 ht with ht | ht
          · refine hv _ ?_
            rw [← h2,tags_ren']
            exact List.mem_map.2 ⟨t,ht,rfl⟩
          · refine hN _ ?_
            rw [← h3]
            have:=tagsObjs_ren (ρ:=backN [] [] new H1) (τ:=backT (ys ++ [⟨[],[]⟩])) (g:=fun _=>0) (new.map (obAt H1))
            rw [List.map_map] at this
            rw [show (fun o=>Option.map (renObj (backN [] [] new H1) (backT (ys ++ [⟨[],[]⟩])) 0) (obAt H1 o)) = ((fun x:Option Obj=>x.map fun ob=>renObj (backN [] [] new H1) (backT (ys ++ [⟨[],[]⟩])) 0 ob) ∘ obAt H1) from rfl,this]
            exact List.mem_map.2 ⟨t,ht,rfl⟩
        have hk:∀ t ∈ tags u ++ tagsObjs (new.map (obAt H1)),backTag (xs ++ [⟨[],[]⟩]) t = some 0∧goneOf (xs ++ [⟨[],[]⟩]) t = []:=by
          intro t ht
          have hb0:=hz t ht
          have hs:=List.all_eq_true.1 hu t ht
          by_cases ht0:t = 0
          · subst ht0
            exact ⟨rfl,rfl⟩
          · unfold backT at hb0
            unfold backTag at hb0 hs ⊢
            unfold goneOf
            rw [if_neg ht0] at hb0 hs ⊢
            rw [if_neg ht0]
            by_cases hlt:t - 1 < ys.length
            · rw [List.getElem?_append_left hlt,List.getElem?_eq_getElem hlt] at hb0 hs
              simp only at hb0 hs
              obtain ⟨x,q1,q2,q3,q4⟩:=k3 (t - 1) _ (List.getElem?_eq_getElem hlt)
              rw [List.getElem?_append_left (by omega),q1]
              simp only
              have hnil:(ys[t - 1]).tags = []:=by
                apply Classical.byContradiction
                intro hne
                have:=joinTags_same (t:=0 + (t - 1) + 1) (by omega) q2 hne
                rw [this] at hb0
                simp at hb0
              obtain ⟨q5,q6⟩:=q4 hnil
              rw [q5,q6]
              exact ⟨rfl,rfl⟩
            · by_cases hlt2:t - 1 = ys.length
              · have e:(xs ++ [(⟨[],[]⟩:Lent)])[t - 1]? = some ⟨[],[]⟩:=by
                  rw [List.getElem?_append_right (by omega),hlt2,k2]
                  simp
                rw [e]
                exact ⟨rfl,rfl⟩
              · have e:(ys ++ [(⟨[],[]⟩:Lent)])[t - 1]? = none:=by
                  rw [List.getElem?_eq_none]
                  simp
                  omega
                rw [e] at hs
                cases hs
        have hu':((tags u ++ tagsObjs (new.map (obAt H1))).all fun t=>(backTag (xs ++ [⟨[],[]⟩]) t).isSome) = true:=List.all_eq_true.2 fun t ht=>by rw [(hk t ht).1];rfl
        rw [if_pos hu']
        have hfl:(tags u ++ tagsObjs (new.map (obAt H1))).flatMap (goneOf (xs ++ [⟨[],[]⟩])) = []:=List.flatMap_eq_nil_iff.2 fun t ht=>(hk t ht).2
        rw [hfl]
        simp only [strike,putBack,Option.some.injEq,Prod.mk.injEq]
        have hrho:∀ o g,backN H [] new H1 o g = (backN [] [] new H1 o g).map fun x=>(x.1 + H.length,x.2):=by
          intro o g
          unfold backN
          split
          · have:=idxOf_shift new o 0 H.length
            rw [Nat.zero_add] at this
            simp [this,Option.map_map,Function.comp_def]
          · rfl
        have hτ:∀ t ∈ tags u ++ tagsObjs (new.map (obAt H1)),backT (xs ++ [⟨[],[]⟩]) t = backT (ys ++ [⟨[],[]⟩]) t:=fun t ht=>by
          rw [hz t ht]
          unfold backT
          rw [(hk t ht).1]
          rfl
        refine ⟨?_,?_⟩
        · rw [← h2,← ren_shift hrho u]
          exact ren_same u (fun _ _ _=>rfl) fun t ht=>hτ t (List.mem_append_left _ ht)
        · rw [← h3]
          congr 1
          simp only [shiftH,List.map_map]
          refine List.map_congr_left fun o ho=>?_
          simp only [Function.comp]
          cases hob:obAt H1 o with
          | none=>rfl
          | some ob =>
            have hmem:some (renObj (backN [] [] new H1) (backT (ys ++ [⟨[],[]⟩])) 0 ob) ∈ N:=by
              rw [← h3]
              exact List.mem_map.2 ⟨o,ho,by rw [hob];rfl⟩
            obtain ⟨c1,c2⟩:=cleanH_iff hcN hmem
            simp only [renObj] at c1 c2
            have e1:=ren_shift (τ:=backT (ys ++ [⟨[],[]⟩])) hrho ob.p
            simp only [shiftV] at e1
            have e2:ren (backN H [] new H1) (backT (xs ++ [⟨[],[]⟩])) ob.p = ren (backN H [] new H1) (backT (ys ++ [⟨[],[]⟩])) ob.p:=by
              refine ren_same ob.p (fun _ _ _=>rfl) fun t ht=>?_
              have:backT (ys ++ [⟨[],[]⟩]) t = 0:=c2 _ (by rw [tags_ren'];exact List.mem_map.2 ⟨t,ht,rfl⟩)
              rw [this,kz t this]
            simp only [Option.map_some,renObj,Option.some.injEq]
            rw [← e1,e2,kz _ c1,c1]
      · cases h1
  · cases h1
end
section
variable {C:Ctx} {T:Cf} {f m:Nat} {fr:Frame} {H:Heap} {out:Out}
end
end Go.AM
namespace Go.AM
attribute [go_sem] exec runOps dstOk wantedV step evalT evalO evalArgs evalParts getF putF afterRegion assignV boxOf newBox hasIdsP keepF ofVal ofCell pesz callV builtinV lenV binV unV arith shiftI putV indexAddrV live upd pget pset psetA pagg retag retagP byteAV freezeP freezeV joinTags joinTag tags ids scalar cellsLen convV faV fvV shiftBy shiftRo
end Go.AM
namespace Go.AM
theorem wrap_u {k:IntKind} (hk:k.signed = false) {n:Int} (h0:0≤n) (h1:n < 2 ^ k.bits):k.wrap n = n:=by
  simp only [IntKind.wrap,hk,Bool.false_and,Bool.false_eq_true,if_false]
  exact Int.emod_eq_of_lt h0 h1
theorem wrap_u8 {n:Int} (h0:0≤n) (h1:n < 256):IntKind.u8.wrap n = n:=wrap_u rfl h0 (by exact h1)
theorem wrap_u64 {n:Int} (h0:0≤n) (h1:n < 18446744073709551616):IntKind.u64.wrap n = n:=wrap_u rfl h0 (by exact h1)
theorem wrap_i64 {n:Int} (h0:-9223372036854775808≤n) (h1:n < 9223372036854775808):IntKind.i64.wrap n = n:=by
  have e1:IntKind.i64.bits = 64:=rfl
  have e2:IntKind.i64.signed = true:=rfl
  simp only [IntKind.wrap,e1,e2,Bool.true_and,decide_eq_true_eq]
  have p64:(2:Int) ^ 64 = 18446744073709551616:=rfl
  have p63:(2:Int) ^ (64 - 1) = 9223372036854775808:=rfl
  rw [p64,p63]
  by_cases hn:0≤n
  · rw [Int.emod_eq_of_lt hn (by omega),if_neg (by omega)]
  · have:n % 18446744073709551616 = n + 18446744073709551616:=by omega
    rw [this,if_pos (by omega)]
    omega
end Go.AM
namespace Go.AM
open Go.ChangeShapes Go.WideShapes Go.ChangeAt Go.RowKit
section
variable {H:Type} {enc:TypeId × Value→H} {P:Program} {W:World}
theorem start_nt {b t:Nat} (hb:b < W.heap.size) (ht:t ≠ 0):NT (start W) (T0 W.heap.size) t b:=⟨.inr ht,start_own W b,hb⟩
theorem u8_wf {n:Int} (h:(Lit.int .u8 n).wf = true):0≤n∧n < 256:=by
  have:IntKind.u8.min≤n∧n≤IntKind.u8.max:=by simpa [Lit.wf] using h
  have e1:IntKind.u8.min = 0:=rfl
  have e2:IntKind.u8.max = 255:=rfl
  omega
theorem ro_rel {c:Nat} {l:List UInt8} {ad:Option Addr} {cap:Nat} (hs:RoShape c l.length ad cap)
    (hc:∀ a,ad = some a→l.length ≠ 0→a.spot = none∧a.block < W.heap.size∧∀ j b,l[j]? = some b→W.cell? ⟨a.block,a.off + j,none⟩ = some (.int .u8 (b.toNat:Int))) :
    VRel (start W) (T0 W.heap.size) (.ro c (.pb l) 1) (.slice ad l.length cap):=by
  simp only [VRel,V1Rel,SRel,RV]
  refine ⟨ad,cap,rfl,hs,fun a ha hn=>?_⟩
  obtain ⟨h1,h2,h3⟩:=hc a ha hn
  exact ⟨h1,start_nt h2 (by omega),by simp only [RP];exact h3⟩
theorem arg_int {base:Nat} {t:TypeId} {k:IntKind} {v:Value} {d:DataW H} {ps:List MemPlace} (ht:P.underlying t = some (.int k)) (hval:Value.okWide P W .any base t v) (hd:DataW.Trod enc P W 0 (fun _=>true) true t v d ps) :
    ∃ n,(Lit.int k n).wf = true∧VRel (start W) (T0 W.heap.size) (.int k n) v:=by
  obtain ⟨n,rfl,_,_,h⟩:=open_int ht hval hd
  exact ⟨n,h,by simp [VRel,V1Rel,SRel,RV]⟩
end
end Go.AM
namespace Go.AM
def rt (t:Nat) (p:AV):AV:=ren (fun _ _=>none) (fun _=>t) p
def bk (n t:Nat) (k:Nat):Nat:=if k = n then t else 0
theorem reach_box {H:Heap} {o:Nat} {ob:Obj} (ho:H[o]? = some (some ob)) (hi:ids ob.p = []):reach H reachFuel [o] [] = [o]:=by
  show reach H (99998 + 1 + 1) [o] [] = [o]
  simp [reach,ho,hi]
theorem reach_box2 {H:Heap} {o o2:Nat} {ob ob2:Obj} (ho:H[o]? = some (some ob)) (hi:ids ob.p = []) (ho2:H[o2]? = some (some ob2)) (hi2:ids ob2.p = []) (hne:o2 ≠ o):reach H reachFuel [o,o2] [] = [o,o2]:=by
  show reach H (99997 + 1 + 1 + 1) [o,o2] [] = [o,o2]
  simp [reach,ho,hi,ho2,hi2,hne]
theorem plainP_ids {p:AV} (h:plainP p = true):ids p = []:=by cases p <;> simp [plainP] at h <;> rfl
section
variable {C:Ctx} {f:Nat} {H:Heap} {T:Cf}
theorem Ev1.box (hT:Below C T) {o g:Nat} {ob ob1:Obj} {xs ys:List AV} {lents:List Lent} {fn:Func} {c:Code} {out:Out} {l:List AV} {rest:Heap} {n t:Nat}
    (hF:C.P.funcs[f]? = some fn) (hb:fn.body = some c) (hrw:C.rw f 0 = false) (ho:H[o]? = some (some ob)) (hg:ob.g = g) (hi:ids ob.p = [])
    (hl:lendArgs C f H 1 xs = some (ys,lents)) (hiy:idsL ys = []) (hob:lents.all (fun x=>disjoint x.objs [o]) = true) (hn:ys.length + 2 = n) (hng:n < gtag)
    (hj:joinTags (tagsOb ob) = some t)
    (he:Run C T f 1 c (numbered 0 (coerce C (.ptr 0 0 0 0 :: ys) (paramsOf C f))) [some { ob with p:=rt n ob.p,g:=0,tg:=n }] out)
    (hex:out.ex = .normal∨out.ex = .ret) (hr:resultsV C out.fr out.H fn.results.toList = some l)
    (hH:out.H = some ob1 :: rest) (hid1:ob1.ids = true) (hi1:ids ob1.p = []) (hv:ids (resultV l) = [])
    (hu:∀ k ∈ tags (resultV l) ++ tagsOb ob1,k = 0∨k = n) (ht1:ob1.tg = 0∨ob1.tg = n) :
    Ev1 C f (.ptr o 0 0 g :: xs) H (ren (fun _ _=>none) (bk n t) (resultV l),upd H o (some { ob1 with p:=ren (fun _ _=>none) (bk n t) ob1.p,g:=g + (if ob1.g = 0 then 0 else 1),tg:=bk n t ob1.tg })):=by
  have hlive:live H o g = some ob:=by simp [live,ho,hg]
  have hat:obAt H o = some ob:=by simp [obAt,ho]
  have hl':lendArgs C f H 0 (.ptr o 0 0 g :: xs) = some (.ptr o 0 0 g :: ys,⟨[],[]⟩ :: lents):=by
    simp only [lendArgs,hrw]
    simp [lendV,lend1,tags,hl]
  have hre:reach H reachFuel (idsL (.ptr o 0 0 g :: ys)) [] = [o]:=by
    rw [show idsL (.ptr o 0 0 g :: ys) = [o] by simp [idsL,ids,hiy]]
    exact reach_box ho hi
  have hin:intoN H [o] o g = some (0,0):=by simp [intoN,hlive,idxOf]
  have hlen:=lendArgs_len hl
  have hn0:0 < n:=by omega
  refine Ev1.of (out:=out) (l:=l) hT hF hb hl' ?_ ?_ hex hr ?_
  · rw [hre]
    simp only [List.all_cons,Bool.and_eq_true,decide_eq_true_eq,List.length_cons]
    exact ⟨⟨rfl,hob⟩,by omega⟩
  · rw [hre]
    have e1:renL (intoN H [o]) (fun t=>t) (.ptr o 0 0 g :: ys) = .ptr 0 0 0 0 :: ys:=by
      simp only [renL,ren,hin]
      rw [renL_flat ys hiy (fun _ _=>rfl)]
    have e2:([o].map fun o'=>(obAt H o').map (renObj (intoN H [o]) (fun _=>(AV.ptr o 0 0 g :: ys).length + 1) 0)) = [some { ob with p:=rt n ob.p,g:=0,tg:=n }]:=by
      simp only [List.map_cons,List.map_nil,hat,Option.map_some,renObj,List.length_cons]
      rw [show ys.length + 1 + 1 = n by omega]
      have e:ren (intoN H [o]) (fun _=>n) ob.p = rt n ob.p:=ren_same ob.p (fun o g h=>by rw [hi] at h;cases h) (fun _ _=>rfl)
      rw [e]
    rw [e1,e2]
    exact he
  · rw [hre]
    unfold wrap
    have h0:out.H[0]? = some (some ob1):=by rw [hH];rfl
    have hat1:obAt out.H 0 = some ob1:=by simp [obAt,h0]
    have hre1:reach out.H reachFuel (List.range [o].length ++ ids (resultV l)) [] = [0]:=by
      rw [hv]
      exact reach_box h0 hi1
    have hbt:∀ k,k = 0∨k = n→backTag (⟨[],[]⟩ :: lents ++ [⟨[],tagsObjs ([o].map (obAt H))⟩]) k = some (bk n t k):=by
      rintro k (rfl | rfl)
      · unfold backTag bk
        rw [if_pos rfl,if_neg (by omega)]
      · unfold backTag bk
        rw [if_neg (by omega),if_pos rfl]
        rw [List.cons_append,show k - 1 = (k - 2) + 1 by omega,List.getElem?_cons_succ,List.getElem?_append_right (by omega),show k - 2 - lents.length = 0 by omega]
        simp [tagsObjs,hat,hj]
    have hgo:∀ k,k = 0∨k = n→goneOf (⟨[],[]⟩ :: lents ++ [⟨[],tagsObjs ([o].map (obAt H))⟩]) k = []:=by
      rintro k (rfl | rfl)
      · rfl
      · unfold goneOf
        rw [if_neg (by omega)]
        rw [List.cons_append,show k - 1 = (k - 2) + 1 by omega,List.getElem?_cons_succ,List.getElem?_append_right (by omega),show k - 2 - lents.length = 0 by omega]
        rfl
    generalize (⟨[],[]⟩ :: lents ++ [⟨[],tagsObjs ([o].map (obAt H))⟩]:List Lent) = L at *
    have hbT:∀ k,k = 0∨k = n→backT L k = bk n t k:=fun k hk=>by unfold backT;rw [hbt k hk];rfl
    simp only [hre1]
    rw [show ([0].filter fun o'=>decide ([o].length≤o')) = [] from rfl]
    have hus:(tags (resultV l) ++ tagsObjs ((List.range [o].length).map (obAt out.H)) ++ tagsObjs (([]:List Nat).map (obAt out.H))) = tags (resultV l) ++ tagsOb ob1:=by
      simp [tagsObjs,hat1,List.range_succ]
    rw [hus]
    rw [if_pos (List.all_eq_true.2 fun k hk=>by rw [hbt k (hu k hk)];rfl)]
    rw [show (tags (resultV l) ++ tagsOb ob1).flatMap (goneOf L) = [] from List.flatMap_eq_nil_iff.2 fun k hk=>hgo k (hu k hk)]
    simp only [strike,List.map_nil,List.append_nil,putBack,hat1,Option.map_some,Option.some.injEq,Prod.mk.injEq]
    refine ⟨ren_same _ (fun o g h=>by rw [hv] at h;cases h) (fun k hk=>hbT k (hu k (List.mem_append_left _ hk))),?_⟩
    have hgb:genBack H [o] 0 ob1.g = g + (if ob1.g = 0 then 0 else 1):=by simp [genBack,hat,hg]
    rw [hgb]
    congr 2
    simp only [renObj]
    rw [hbT _ ht1]
    congr 1
    refine ren_same _ (fun o g h=>by rw [hi1] at h;cases h) fun k hk=>?_
    unfold tagsOb at hu
    rw [if_pos hid1] at hu
    exact hbT k (hu k (List.mem_append_right _ hk))
theorem Ev1.boxNew (hT:Below C T) {o g:Nat} {ob ob1:Obj} {xs ys:List AV} {lents:List Lent} {fn:Func} {c:Code} {out:Out} {l:List AV} {rest:Heap} {n t o1 g1:Nat} {ob2:Obj}
    (hF:C.P.funcs[f]? = some fn) (hb:fn.body = some c) (hrw:C.rw f 0 = false) (ho:H[o]? = some (some ob)) (hg:ob.g = g) (hi:ids ob.p = [])
    (hl:lendArgs C f H 1 xs = some (ys,lents)) (hiy:idsL ys = []) (hob:lents.all (fun x=>disjoint x.objs [o]) = true) (hn:ys.length + 2 = n) (hng:n < gtag)
    (hj:joinTags (tagsOb ob) = some t)
    (he:Run C T f 1 c (numbered 0 (coerce C (.ptr 0 0 0 0 :: ys) (paramsOf C f))) [some { ob with p:=rt n ob.p,g:=0,tg:=n }] out)
    (hex:out.ex = .normal∨out.ex = .ret) (hr:resultsV C out.fr out.H fn.results.toList = some l)
    (hH:out.H = some ob1 :: rest) (hid1:ob1.ids = true) (hi1:ids ob1.p = []) (hv:ids (resultV l) = [o1]) (ho1:live out.H o1 g1 = some ob2) (hne:o1 ≠ 0) (hid2:ob2.ids = false) (hp2:plainP ob2.p = true) (htg2:ob2.tg = 0)
    (hu:∀ k ∈ tags (resultV l) ++ tagsOb ob1,k = 0∨k = n) (ht1:ob1.tg = 0∨ob1.tg = n) :
    Ev1 C f (.ptr o 0 0 g :: xs) H (ren (fun o' g'=>if o' = o1∧g' = g1 then some (H.length,0) else none) (bk n t) (resultV l),upd H o (some { ob1 with p:=ren (fun _ _=>none) (bk n t) ob1.p,g:=g + (if ob1.g = 0 then 0 else 1),tg:=bk n t ob1.tg }) ++ [some (AM.fresh ob2)]):=by
  have hlive:live H o g = some ob:=by simp [live,ho,hg]
  have hat:obAt H o = some ob:=by simp [obAt,ho]
  have hl':lendArgs C f H 0 (.ptr o 0 0 g :: xs) = some (.ptr o 0 0 g :: ys,⟨[],[]⟩ :: lents):=by
    simp only [lendArgs,hrw]
    simp [lendV,lend1,tags,hl]
  have hre:reach H reachFuel (idsL (.ptr o 0 0 g :: ys)) [] = [o]:=by
    rw [show idsL (.ptr o 0 0 g :: ys) = [o] by simp [idsL,ids,hiy]]
    exact reach_box ho hi
  have hin:intoN H [o] o g = some (0,0):=by simp [intoN,hlive,idxOf]
  have hlen:=lendArgs_len hl
  have hn0:0 < n:=by omega
  refine Ev1.of (out:=out) (l:=l) hT hF hb hl' ?_ ?_ hex hr ?_
  · rw [hre]
    simp only [List.all_cons,Bool.and_eq_true,decide_eq_true_eq,List.length_cons]
    exact ⟨⟨rfl,hob⟩,by omega⟩
  · rw [hre]
    have e1:renL (intoN H [o]) (fun t=>t) (.ptr o 0 0 g :: ys) = .ptr 0 0 0 0 :: ys:=by
      simp only [renL,ren,hin]
      rw [renL_flat ys hiy (fun _ _=>rfl)]
    have e2:([o].map fun o'=>(obAt H o').map (renObj (intoN H [o]) (fun _=>(AV.ptr o 0 0 g :: ys).length + 1) 0)) = [some { ob with p:=rt n ob.p,g:=0,tg:=n }]:=by
      simp only [List.map_cons,List.map_nil,hat,Option.map_some,renObj,List.length_cons]
      rw [show ys.length + 1 + 1 = n by omega]
      have e:ren (intoN H [o]) (fun _=>n) ob.p = rt n ob.p:=ren_same ob.p (fun o g h=>by rw [hi] at h;cases h) (fun _ _=>rfl)
      rw [e]
    rw [e1,e2]
    exact he
  · rw [hre]
    unfold wrap
    have h0:out.H[0]? = some (some ob1):=by rw [hH];rfl
    have hat1:obAt out.H 0 = some ob1:=by simp [obAt,h0]
    obtain ⟨h1,h2⟩:=live_iff.1 ho1
    have hre1:reach out.H reachFuel (List.range [o].length ++ ids (resultV l)) [] = [0,o1]:=by
      rw [hv]
      exact reach_box2 h0 hi1 h1 (plainP_ids hp2) hne
    have hat2:obAt out.H o1 = some ob2:=by simp [obAt,h1]
    have hbt:∀ k,k = 0∨k = n→backTag (⟨[],[]⟩ :: lents ++ [⟨[],tagsObjs ([o].map (obAt H))⟩]) k = some (bk n t k):=by
      rintro k (rfl | rfl)
      · unfold backTag bk
        rw [if_pos rfl,if_neg (by omega)]
      · unfold backTag bk
        rw [if_neg (by omega),if_pos rfl]
        rw [List.cons_append,show k - 1 = (k - 2) + 1 by omega,List.getElem?_cons_succ,List.getElem?_append_right (by omega),show k - 2 - lents.length = 0 by omega]
        simp [tagsObjs,hat,hj]
    have hgo:∀ k,k = 0∨k = n→goneOf (⟨[],[]⟩ :: lents ++ [⟨[],tagsObjs ([o].map (obAt H))⟩]) k = []:=by
      rintro k (rfl | rfl)
      · rfl
      · unfold goneOf
        rw [if_neg (by omega)]
        rw [List.cons_append,show k - 1 = (k - 2) + 1 by omega,List.getElem?_cons_succ,List.getElem?_append_right (by omega),show k - 2 - lents.length = 0 by omega]
        rfl
    generalize (⟨[],[]⟩ :: lents ++ [⟨[],tagsObjs ([o].map (obAt H))⟩]:List Lent) = L at *
    have hbT:∀ k,k = 0∨k = n→backT L k = bk n t k:=fun k hk=>by unfold backT;rw [hbt k hk];rfl
    simp only [hre1]
    rw [show ([0,o1].filter fun o'=>decide ([o].length≤o')) = [o1] by
      simp only [List.length_cons,List.length_nil]
      rw [List.filter_cons_of_neg (by simp),List.filter_cons_of_pos (by simp;omega),List.filter_nil]]
    have hus:(tags (resultV l) ++ tagsObjs ((List.range [o].length).map (obAt out.H)) ++ tagsObjs ([o1].map (obAt out.H))) = tags (resultV l) ++ tagsOb ob1 ++ [0]:=by
      have:tagsOb ob2 = [0]:=by unfold tagsOb;rw [hid2,htg2];cases hq:ob2.p <;> simp [hq,plainP] at hp2 <;> simp
      simp [tagsObjs,hat1,hat2,this,List.range_succ]
    rw [hus]
    have hu2:∀ k ∈ tags (resultV l) ++ tagsOb ob1 ++ [0],k = 0∨k = n:=fun k hk=>by
      rcases List.mem_append.1 hk with hk | hk
      · exact hu k hk
      · simp at hk;exact .inl hk
    rw [if_pos (List.all_eq_true.2 fun k hk=>by rw [hbt k (hu2 k hk)];rfl)]
    rw [show (tags (resultV l) ++ tagsOb ob1 ++ ([0]:List Nat)).flatMap (goneOf L) = [] from List.flatMap_eq_nil_iff.2 fun k hk=>hgo k (hu2 k hk)]
    simp only [strike,List.map_cons,List.map_nil,putBack,hat1,hat2,Option.map_some,Option.some.injEq,Prod.mk.injEq]
    have hrho:∀ o' g',o' ∈ [o1]→backN H [o] [o1] out.H o' g' = if o' = o1∧g' = g1 then some (H.length,0) else none:=by
      intro o' g' hm
      simp only [List.mem_singleton] at hm
      subst hm
      unfold backN
      by_cases hgg:g' = g1
      · subst hgg
        rw [ho1]
        have:¬ (o' < [o].length):=by simp;omega
        simp only [if_neg this]
        simp [idxOf]
      · have:live out.H o' g' = none:=by
          simp only [live,h1]
          rw [if_neg (fun e=>hgg (e.symm.trans h2))]
        rw [this]
        simp [hgg]
    refine ⟨ren_same _ (fun o' g' h=>hrho o' g' (by rw [← hv];exact h)) (fun k hk=>hbT k (hu k (List.mem_append_left _ hk))),?_⟩
    have hgb:genBack H [o] 0 ob1.g = g + (if ob1.g = 0 then 0 else 1):=by simp [genBack,hat,hg]
    rw [hgb]
    have e2:renObj (backN H [o] [o1] out.H) (backT L) 0 ob2 = AM.fresh ob2:=by
      simp only [renObj,plainP_ren hp2,AM.fresh,htg2,hbT 0 (.inl rfl)]
      unfold bk;rw [if_neg (by omega)]
    rw [e2]
    congr 3
    simp only [renObj]
    rw [hbT _ ht1]
    congr 1
    refine ren_same _ (fun o g h=>by rw [hi1] at h;cases h) fun k hk=>?_
    unfold tagsOb at hu
    rw [if_pos hid1] at hu
    exact hbT k (hu k (List.mem_append_right _ hk))
end
end Go.AM
namespace Go.AM
open Classical in
noncomputable def evT (C:Ctx):Cf:=fun f xs H=>if h:∃ r,Ev1 C f xs H r then some (Classical.choose h) else none
theorem Ev1.one {C:Ctx} {f:Nat} {xs:List AV} {H:Heap} {r r2:AV × Heap} (h:Ev1 C f xs H r) (h2:Ev1 C f xs H r2):r = r2:=by
  obtain ⟨n,h⟩:=h
  obtain ⟨n2,h2⟩:=h2
  have e:=h (max n n2) (by omega)
  rw [h2 (max n n2) (by omega)] at e
  exact (Option.some.inj e).symm
theorem evT_below (C:Ctx):Below C (evT C):=by
  intro f xs H r h
  unfold evT at h
  split at h
  · rename_i hx
    rw [← Option.some.inj h]
    exact Classical.choose_spec hx
  · cases h
theorem evT_eq {C:Ctx} {f:Nat} {xs:List AV} {H:Heap} {r:AV × Heap} (h:Ev1 C f xs H r):evT C f xs H = some r:=by
  have hx:∃ r,Ev1 C f xs H r:=⟨r,h⟩
  unfold evT
  rw [dif_pos hx]
  exact congrArg some (Ev1.one (Classical.choose_spec hx) h)
section
variable {C:Ctx} {f:Nat} {H:Heap}
theorem wrap_newQ {lents:List Lent} {v:AV} {H1:Heap} {o g:Nat} {ob:Obj} (hi:ids v = [o]) (ht:tags v = []) (hl:live H1 o g = some ob) (hob:ob.ids = false) (hp:ids ob.p = []) (hp2:tags ob.p = []) (hto:tagsOb ob = [0]) (htg:ob.tg = 0) :
    wrap H [] lents v H1 = some (ren (fun o' g'=>if o' = o∧g' = g then some (H.length,0) else none) (fun t=>t) v,H ++ [some (fresh ob)]):=by
  obtain ⟨h1,h2⟩:=live_iff.1 hl
  unfold wrap
  have hat:obAt H1 o = some ob:=by simp [obAt,h1]
  have hρ:ren (backN H [] [o] H1) (backT lents) v = ren (fun o' g'=>if o' = o∧g' = g then some (H.length,0) else none) (fun t=>t) v:=by
    have key:∀ o' g',o' ∈ ids v→backN H [] [o] H1 o' g' = if o' = o∧g' = g then some (H.length,0) else none:=by
      intro o' g' hm
      rw [hi] at hm
      simp only [List.mem_singleton] at hm
      subst hm
      unfold backN
      by_cases hg:g' = g
      · subst hg
        rw [hl]
        simp [idxOf]
      · have:live H1 o' g' = none:=by
          simp only [live,h1]
          rw [if_neg (fun e=>hg (e.symm.trans h2))]
        rw [this]
        simp [hg]
    exact ren_same v (fun o' g' hm=>key o' g' hm) (by simp [ht])
  simp only [List.length_nil,List.range_zero,List.nil_append,hi,reach_one h1 hob,ht,tagsObjs,List.append_nil,List.map_nil,hat,hto,List.map_cons,Nat.zero_le,decide_true,List.filter_cons_of_pos,List.filter_nil,strike,putBack]
  have h0:backTag lents 0 = some 0:=rfl
  simp only [List.all_cons,List.all_nil,h0,Option.isSome_some,Bool.and_true,if_true,List.flatMap_cons,List.flatMap_nil,goneOf,List.append_nil,strike,Option.map_some,Option.some.injEq,Prod.mk.injEq]
  refine ⟨hρ,?_⟩
  have hr:ren (backN H [] [o] H1) (backT lents) ob.p = ob.p:=ren_flat ob.p hp (fun t h=>by rw [hp2] at h;cases h)
  simp only [renObj,hr,AM.fresh,htg]
  rfl
variable {T:Cf}
theorem Ev1.freshQ (hT:Below C T) {args:List AV} {fn:Func} {c:Code} {as:List AV} {lents:List Lent} {out:Out} {l:List AV} {o g:Nat} {ob:Obj}
    (hF:C.P.funcs[f]? = some fn) (hb:fn.body = some c) (hl:lendArgs C f H 0 args = some (as,lents)) (hi:idsL as = []) (hn:as.length + 1 < gtag)
    (he:Run C T f 0 c (numbered 0 (coerce C as (paramsOf C f))) [] out) (hex:out.ex = .normal∨out.ex = .ret) (hr:resultsV C out.fr out.H fn.results.toList = some l)
    (hv:ids (resultV l) = [o]) (ht:tags (resultV l) = []) (ho:live out.H o g = some ob) (hob:ob.ids = false) (hp:ids ob.p = []) (hp2:tags ob.p = []) (hto:tagsOb ob = [0]) (htg:ob.tg = 0) :
    Ev1 C f args H (ren (fun o' g'=>if o' = o∧g' = g then some (H.length,0) else none) (fun t=>t) (resultV l),H ++ [some (AM.fresh ob)]):=by
  refine Ev1.of hT hF hb hl ?_ ?_ hex hr ?_
  · rw [hi,reach_none]
    simp only [Bool.and_eq_true,decide_eq_true_eq]
    exact ⟨List.all_eq_true.2 fun x _=>disjoint_nil x.objs,hn⟩
  · rw [hi,reach_none,renL_flat as hi (fun _ _=>rfl)]
    exact he
  · rw [hi,reach_none]
    exact wrap_newQ hv ht ho hob hp hp2 hto htg
end
structure Holds (p:AV) (ob:Obj):Prop where
  p:ob.p = p
  g:ob.g = 0
  row:ob.row = true
  ids:ob.ids = false
  tg:ob.tg = 0
theorem Ev1.tried {C:Ctx} {T:Cf} (hT:Below C T) {n f:Nat} {args:List AV} {v:AV} {N:Heap} (h:rowRun C T n ⟨f,args,v,N⟩ = true) (H:Heap):Ev1 C f args H (shiftV H.length v,H ++ shiftH H.length N):=by
  have:=RowsOk.cons hT RowsOk.nil h
  obtain ⟨h1,h2⟩:=this _ (List.mem_singleton.2 rfl)
  exact Ev1.frame h1 h2 H
theorem Ev1.triedP {C:Ctx} {T:Cf} (hT:Below C T) {n f:Nat} {args:List AV} {v:AV} (h:rowRun C T n ⟨f,args,v,[]⟩ = true) (hv:flatV v = true) (H:Heap):Ev1 C f args H (v,H):=by
  have:=Ev1.tried hT h H
  rw [show shiftV H.length v = v from ren_flat v (flat_ids hv).1 (fun _ _=>rfl)] at this
  simpa [shiftH] using this
theorem Ev1.each {C:Ctx} {T:Cf} (hT:Below C T) {n f N:Nat} {a v:Nat→AV} (h:(List.range N).all (fun k=>rowRun C T n ⟨f,[a k],v k,[]⟩) = true) (hv:∀ k,flatV (v k) = true) {k:Nat} (hk:k < N) (H:Heap):Ev1 C f [a k] H (v k,H) :=
  Ev1.triedP hT (List.all_eq_true.1 h k (List.mem_range.2 hk)) (hv k) H
def Tells (Q:Out→Prop) (C:Ctx) (T:Cf) (f m:Nat) (c:Code) (fr:Frame) (H:Heap):Prop:=∃ o,Q o∧Run C T f m c fr H o
def Goes (P:Frame→Heap→Prop) (o:Out):Prop:=o.ex = .normal∧P o.fr o.H
def Exits (id:Nat) (P:Frame→Heap→Prop) (o:Out):Prop:=o.ex = .exit id∧P o.fr o.H
def Rets (P:Frame→Heap→Prop) (o:Out):Prop:=o.ex = .ret∧P o.fr o.H
section
variable {Q:Out→Prop} {C:Ctx} {T:Cf} {f m:Nat} {fr:Frame} {H:Heap}
theorem Tells.of {c:Code} {o:Out} (h:Run C T f m c fr H o) (hq:Q o):Tells Q C T f m c fr H:=⟨o,hq,h⟩
theorem Tells.seq {a b:Code} {fr':Frame} {H':Heap} (h:Run C T f m a fr H ⟨.normal,fr',H'⟩) (h':Tells Q C T f m b fr' H'):Tells Q C T f m (.seq a b) fr H:=by
  obtain ⟨o,hq,ho⟩:=h'
  exact ⟨o,hq,Run.seq h ho⟩
theorem Tells.andThen {a b:Code} {P:Frame→Heap→Prop} (h:Tells (Goes P) C T f m a fr H) (h':∀ fr' H',P fr' H'→Tells Q C T f m b fr' H'):Tells Q C T f m (.seq a b) fr H:=by
  obtain ⟨⟨ex,fr1,H1⟩,⟨he,hp⟩,ho⟩:=h
  simp only at he hp
  subst he
  exact Tells.seq ho (h' _ _ hp)
theorem Tells.block {id:Nat} {c:Code} {P:Frame→Heap→Prop} (h:Tells (Exits id P) C T f m c fr H):Tells (Goes P) C T f m (.block id c) fr H:=by
  obtain ⟨⟨ex,fr1,H1⟩,⟨he,hp⟩,ho⟩:=h
  simp only at he hp
  subst he
  exact ⟨_,⟨rfl,hp⟩,Run.block_exit ho⟩
theorem Tells.assoc {a b c:Code} (h:Tells Q C T f m (.seq a (.seq b c)) fr H):Tells Q C T f m (.seq (.seq a b) c) fr H:=by
  obtain ⟨o,hq,k,hk⟩:=h
  refine ⟨o,hq,k,?_⟩
  simp only [exec] at hk ⊢
  rw [← hk]
  cases ha:exec C T f m k a fr H with
  | none=>rfl
  | some r =>
    obtain ⟨ex,fr',H'⟩:=r
    cases ex with
    | normal=>rfl
    | exit id=>rfl
    | ret=>rfl
theorem Tells.blockThen {id:Nat} {c b:Code} {P:Frame→Heap→Prop} (h:Tells (fun o=>Exits id P o∨(o.ex = .ret∧Q o)) C T f m c fr H) (h':∀ fr' H',P fr' H'→Tells Q C T f m b fr' H'):Tells Q C T f m (.seq (.block id c) b) fr H:=by
  obtain ⟨⟨ex,fr1,H1⟩,hq,ho⟩:=h
  rcases hq with ⟨he,hp⟩ | ⟨he,hq⟩
  · simp only at he hp
    subst he
    exact Tells.seq (Run.block_exit ho) (h' _ _ hp)
  · simp only at he
    subst he
    exact ⟨_,hq,Run.seq_out (Run.block ho (by simp)) (by simp)⟩
theorem Tells.loop {c:Code} {σ:Type} (I:σ→Prop) (fr:σ→Frame) (H:σ→Heap) (μ:σ→Nat)
    (step:∀ s,I s→(∃ s',I s'∧Run C T f m c (fr s) (H s) ⟨.normal,fr s',H s'⟩∧μ s' < μ s)∨(∃ o,Q o∧o.ex ≠ .normal∧Run C T f m c (fr s) (H s) o)) (s:σ) (hs:I s) :
    Tells Q C T f m (.loop c) (fr s) (H s):=by
  generalize hn:μ s = n
  induction n using Nat.strongRecOn generalizing s with
  | _ n ih =>
    rcases step s hs with ⟨s',h0,h1,h3⟩ | ⟨o,hq,h1,h2⟩
    · obtain ⟨o,hq,ho⟩:=ih (μ s') (by omega) s' h0 rfl
      exact ⟨o,hq,Run.loop_step h1 ho⟩
    · exact ⟨o,hq,Run.loop_out h2 h1⟩
end
end Go.AM
namespace Go.AM
def PB (p:AV) (l:List UInt8):Prop:=p = .pb l∨(p = .pn∧l = [])
structure Rw (p:AV) (g:Nat) (ob:Obj):Prop where
  p:ob.p = p
  g:ob.g = g
  row:ob.row = true
  ids:ob.ids = false
  tg:ob.tg = 0
def Byt (H:Heap) (a:AV) (l:List UInt8):Prop :=
  ∃ c p,PB p l∧(c = 0→l = [])∧∀ t,∃ x,lendV H t a = some (.ro c p t,x)
theorem PB.plen {p:AV} {l:List UInt8} (h:PB p l):plen p = l.length:=by
  rcases h with rfl | ⟨rfl,rfl⟩ <;> rfl
theorem PB.ids {p:AV} {l:List UInt8} (h:PB p l):ids p = []:=by
  rcases h with rfl | ⟨rfl,rfl⟩ <;> rfl
theorem Byt.ro {H:Heap} {c t:Nat} {p:AV} {l:List UInt8} (h:PB p l) (hc:c = 0→l = []):Byt H (.ro c p t) l :=
  ⟨c,p,h,hc,fun _=>⟨⟨[],[t]⟩,rfl⟩⟩
theorem Byt.nil {H:Heap}:Byt H (.ro 0 .pn 0) []:=Byt.ro (.inr ⟨rfl,rfl⟩) (fun _=>rfl)
theorem Byt.sl {H:Heap} {o off len g:Nat} {ob:Obj} {m l:List UInt8} (ho:H[o]? = some (some ob)) (h:Rw (.pb m) g ob) (hl:(m.drop off).take len = l) (hle:off + len≤m.length):Byt H (.sl o off len g) l:=by
  have hlive:live H o g = some ob:=by simp [live,ho,h.g]
  refine ⟨if ob.z = 0∧AM.plen ob.p = 0 then 0 else 2,.pb l,.inl rfl,fun h0=>?_,fun t=>⟨⟨[o],[ob.tg]⟩,?_⟩⟩
  · split at h0
    · rename_i hz
      have hm:m.length = 0:=by have:=hz.2;rw [h.p] at this;exact this
      have:m = []:=List.eq_nil_of_length_eq_zero hm
      subst this
      rw [← hl];simp
    · cases h0
  · simp only [lendV,lend1,hlive,h.ids,h.p,psub]
    rw [if_pos hle,hl]
    rfl
theorem Byt.whole {H:Heap} {o g:Nat} {ob:Obj} {l:List UInt8} (ho:H[o]? = some (some ob)) (h:Rw (.pb l) g ob):Byt H (.sl o 0 l.length g) l :=
  Byt.sl ho h (by simp) (by omega)
section
variable {C:Ctx} {f:Nat} {H:Heap}
theorem args_byt {i:Nat} {a:AV} {l:List UInt8} {r as:List AV} {xs:List Lent} (hrw:C.rw f i = false) (h:Byt H a l) (hr:lendArgs C f H (i + 1) r = some (as,xs)) :
    ∃ c p x,PB p l∧(c = 0→l = [])∧lendArgs C f H i (a :: r) = some (.ro c p (i + 1) :: as,x :: xs):=by
  obtain ⟨c,p,hp,hc,hl⟩:=h
  obtain ⟨x,hx⟩:=hl (i + 1)
  exact ⟨c,p,x,hp,hc,by simp only [lendArgs,hrw,hx,hr]⟩
theorem app_rw {T e:Nat} (hT:und C T = .slice e) (he:und C e = .int .u8) (hs:sizeT C e = 1) (hb:bytesT C e = 1) (hz:zeroOk C e = true) {o g:Nat} {ob:Obj} {l m:List UInt8} {src:AV}
    (ho:H[o]? = some (some ob)) (h:Rw (.pb l) g ob) (hsrc:srcV H src = some (.pb m,0)∨(srcV H src = some (.pn,0)∧m = [])) (hn:l.length + m.length≤100000000) :
    ∃ ob',Rw (.pb (l ++ m)) (g + 1) ob'∧appendV C H T (.sl o 0 l.length g) src = some (.sl o 0 (l.length + m.length) (g + 1),upd H o (some ob')):=by
  have hlive:live H o g = some ob:=by simp [live,ho,h.g]
  have hroom:roomOk C e (l.length + m.length) = true:=by simp [roomOk,hb];omega
  obtain ⟨p,hp1,hp2⟩:∃ p,srcV H src = some (p,0)∧PB p m:=by
    rcases hsrc with h1 | ⟨h1,h2⟩
    · exact ⟨_,h1,.inl rfl⟩
    · exact ⟨_,h1,.inr ⟨rfl,h2⟩⟩
  have hpl:=hp2.plen
  have hpa:papp (.pb l) p = some (.pb (l ++ m)):=by
    rcases hp2 with rfl | ⟨rfl,rfl⟩
    · rfl
    · simp [papp]
  refine ⟨{ ob with p:=.pb (l ++ m),g:=g + 1,cap:=(match ob.cap with | some c=>if 0 + l.length + AM.plen p≤c then some (c - 0) else none | none=>none),z:=(if AM.plen ob.p = 0 then ob.z else 1),tg:=0 },⟨rfl,rfl,h.row,h.ids,rfl⟩,?_⟩
  unfold appendV
  simp only [hT,hs,hz,hp1,hlive,h.row,h.ids,h.p,h.tg]
  simp only [show ¬ ((1:Nat) = 0∨true = false) by simp,if_false]
  have hc:True∧True∧0 + l.length = AM.plen (.pb l)∧pesz (.pb l) = 1∧roomOk C e (l.length + AM.plen p) = true:=⟨trivial,trivial,by simp [AM.plen],rfl,by rw [hpl];exact hroom⟩
  rw [if_pos hc]
  simp only [psub,Nat.zero_add,Nat.le_refl,if_true,List.drop_zero,List.take_length,hpa,joinTag,pesz]
  simp [hpl]
  rfl
end
section
variable {C:Ctx} {f:Nat} {H:Heap} {T:Cf}
theorem ids_result {l:List AV} (h:noTups l = true):ids (resultV l) = idsL l:=by
  unfold resultV
  split
  · simp [idsL]
  · rw [if_pos h];rfl
theorem tags_result {l:List AV} (h:noTups l = true):tags (resultV l) = tagsL l:=by
  unfold resultV
  split
  · simp [tagsL]
  · rw [if_pos h];rfl
theorem ren_result {ρ:Nat→Nat→Option (Nat × Nat)} {τ:Nat→Nat} {v w:AV} {rest:List AV} (hv:ren ρ τ v = w) (hr:renL ρ τ rest = rest) (h:noTups (v :: rest) = true) (h2:noTups (w :: rest) = true):ren ρ τ (resultV (v :: rest)) = resultV (w :: rest):=by
  cases rest with
  | nil=>exact hv
  | cons a r =>
    show ren ρ τ (if noTups (v :: a :: r) then .tup (v :: a :: r) else .top) = (if noTups (w :: a :: r) then .tup (w :: a :: r) else .top)
    rw [if_pos h,if_pos h2]
    show AV.tup (ren ρ τ v :: renL ρ τ (a :: r)) = _
    rw [hv,hr]
theorem Ev1.newB (hT:Below C T) {args xs:List AV} {lents:List Lent} {fn:Func} {c:Code} {n:Nat} {l:List UInt8} {rest:List AV}
    (hF:C.P.funcs[f]? = some fn) (hb:fn.body = some c) (hl:lendArgs C f H 0 args = some (xs,lents)) (hi:idsL xs = []) (hn:xs.length + 1 < gtag) (hri:idsL rest = []) (hrt:tagsL rest = []) (hnt:noTups rest = true)
    (h:Tells (Rets fun fr H1=>∃ o g ob,resultsV C fr H1 fn.results.toList = some (.sl o 0 n g :: rest)∧H1[o]? = some (some ob)∧Rw (.pb l) g ob) C T f 0 c (numbered 0 (coerce C xs (paramsOf C f))) []) :
    ∃ ob',Rw (.pb l) 0 ob'∧Ev1 C f args H (resultV (.sl H.length 0 n 0 :: rest),H ++ [some ob']):=by
  obtain ⟨⟨ex,fr,H1⟩,⟨he,o,g,ob,hr,ho,hw⟩,hrun⟩:=h
  simp only at he hr ho
  subst he
  refine ⟨AM.fresh ob,⟨hw.p,rfl,hw.row,hw.ids,rfl⟩,?_⟩
  have:=Ev1.fresh (H:=H) hT hF hb hl hi hn hrun (.inr rfl) hr (o:=o) (g:=g) (ob:=ob) (by rw [ids_result (l:=.sl o 0 n g :: rest) hnt];simp [idsL,ids,hri]) (by rw [tags_result (l:=.sl o 0 n g :: rest) hnt];simp [tagsL,tags,hrt]) (by simp [live,ho,hw.g]) hw.ids (by rw [hw.p];rfl) hw.tg
  rw [ren_result (w:=.sl H.length 0 n 0) (by simp [ren]) (renL_flat rest hri (fun t ht=>rfl)) (by exact hnt) (by exact hnt)] at this
  exact this
theorem Ev1.toldP (hT:Below C T) {args xs:List AV} {lents:List Lent} {fn:Func} {c:Code} {l:List AV}
    (hF:C.P.funcs[f]? = some fn) (hb:fn.body = some c) (hl:lendArgs C f H 0 args = some (xs,lents)) (hi:idsL xs = []) (hn:xs.length + 1 < gtag) (hri:idsL l = []) (hrt:tagsL l = []) (hnt:noTups l = true)
    (h:Tells (Rets fun fr H1=>resultsV C fr H1 fn.results.toList = some l) C T f 0 c (numbered 0 (coerce C xs (paramsOf C f))) []):Ev1 C f args H (resultV l,H):=by
  obtain ⟨⟨ex,fr,H1⟩,⟨he,hr⟩,hrun⟩:=h
  simp only at he hr
  subst he
  exact Ev1.plain hT hF hb hl hi hn hrun (.inr rfl) hr (by rw [ids_result hnt];exact hri) (by rw [tags_result hnt];exact hrt)
end
section
variable {C:Ctx} {T:Cf} {f m:Nat} {fr fr' fr2:Frame} {H H':Heap} {ms:List Mark}
theorem Run.dy {id:Nat} {ops:Array Oper} {l:List Nat} (hdy:C.dy f id = true) (hk:C.keep f id = some l) (hn:C.norm f id = false)
    (h:runD C T (ntOf C f) ops ops.toList fr H = some (fr',H',ms)) (hm:marksOk (Region.before ops) ms = true) (hf:keepF l fr' = fr2):Run C T f m (.region id ops true) fr H ⟨.normal,fr2,H'⟩:=by
  refine ⟨0,?_⟩
  simp only [exec,hdy,Bool.true_and,if_true,h,hm,afterRegion,hk,hn,hf]
  rfl
end
section
variable {C:Ctx} {f:Nat} {H:Heap} {T:Cf}
end
end Go.AM
namespace Go.AM
open Go.ChangeShapes Go.WideShapes Go.ChangeAt Go.RowKit
section
variable {H:Type} {enc:TypeId × Value→H} {P:Program} {W:World}
theorem arg_bytes0 {base:Nat} {t e:TypeId} {v:Value} {d:DataW H} {ps:List MemPlace} (ht:P.underlying t = some (.slice e)) (he:P.underlying e = some (.int .u8)) (hc:P.cellsOf e = 1)
    (hval:Value.okWide P W .any base t v) (hd:DataW.Trod enc P W 0 (fun _=>true) true t v d ps) :
    ∃ (c:Nat) (l:List UInt8),(c = 0→l = [])∧l.length≤maxLen∧VRel (start W) (T0 W.heap.size) (.ro c (.pb l) 1) v:=by
  obtain ⟨a0,len0,cap0,rfl⟩:=okWide_slice ht hval
  obtain ⟨fuel,hf⟩:=hd
  rcases Go.ChangeShapes.open_ints ht he hc hf with ⟨hcs,_⟩ | ⟨a,len,cap,zs,hcs,_,hlc,hcm,hzl,_,hcell,hwf⟩
  · simp [Value.cells] at hcs
    obtain ⟨rfl,rfl,rfl⟩:=hcs
    exact ⟨0,[],fun _=>rfl,by simp,ro_rel (l:=[]) ⟨Nat.le_refl _,fun _=>⟨rfl,rfl⟩,fun h=>absurd rfl h,fun h=>by simp at h⟩ (fun a ha=>by cases ha)⟩
  · simp [Value.cells] at hcs
    obtain ⟨rfl,rfl,rfl⟩:=hcs
    simp only [if_true] at hzl
    have hlen:((zs.take len0).map fun n=>UInt8.ofNat n.toNat).length = len0:=by simp;omega
    refine ⟨2,((zs.take len0).map fun n=>UInt8.ofNat n.toNat),(fun h=>by cases h),by rw [hlen];omega,?_⟩
    have:=ro_rel (W:=W) (c:=2) (l:=(zs.take len0).map fun n=>UInt8.ofNat n.toNat) (ad:=some a) (cap:=cap0) ⟨by rw [hlen];exact hlc,fun h=>by simp at h,fun _=>rfl,fun h=>by simp at h⟩ (by
      intro a' ha' hn
      simp only [Option.some.injEq] at ha'
      subst ha'
      rw [hlen] at hn
      have h0:=hcell 0 (by omega)
      have hsp:a.spot = none:=by
        have:=World.cell?_spot h0
        simpa [Addr.add] using this
      obtain ⟨b,off,spot⟩:=a
      simp only at hsp
      subst hsp
      refine ⟨rfl,?_,fun j x hx=>?_⟩
      · rw [add_plain] at h0
        exact block_lt_of_cell h0
      · rw [List.getElem?_map] at hx
        cases hz:(zs.take len0)[j]? with
        | none=>rw [hz] at hx;cases hx
        | some z =>
          rw [hz] at hx
          simp only [Option.map_some,Option.some.injEq] at hx
          have hjl:j < len0:=by
            have:=(List.getElem?_eq_some_iff.1 hz).1
            simp at this
            omega
          rw [List.getElem?_take_of_lt hjl] at hz
          have hzmem:=List.mem_of_getElem? hz
          obtain ⟨q1,q2⟩:=u8_wf (hwf z hzmem)
          have:=hcell j (by omega)
          rw [add_plain] at this
          rw [this,List.getD_eq_getElem?_getD,hz,Option.getD_some,← hx]
          have:((UInt8.ofNat z.toNat).toNat:Int) = z:=by
            rw [UInt8.toNat_ofNat',Nat.mod_eq_of_lt (by simp;omega)]
            omega
          rw [this])
    rw [hlen] at this
    exact this
theorem nat_wf {k:IntKind} (hk:k.signed = false) {n:Int} (h:(Lit.int k n).wf = true):∃ m:Nat,n = (m:Int)∧m < 2 ^ k.bits:=by
  have h1:k.min≤n∧n≤k.max:=by simpa [Lit.wf] using h
  cases k <;> simp [IntKind.signed] at hk <;> simp only [IntKind.min,IntKind.max,IntKind.signed,IntKind.bits] at h1 ⊢ <;> exact ⟨n.toNat,by simp at h1;omega,by simp at h1;omega⟩
end
end Go.AM
namespace Go.AM
open Go.ChangeShapes Go.WideShapes Go.ChangeAt Go.RowKit
section
variable {H:Type} {enc:TypeId × Value→H} {P:Program} {W:World}
end
end Go.AM
namespace Go.AM
section
variable {C:Ctx} {f:Nat} {H:Heap} {T:Cf}
theorem lendArgs_rw {o off len g i:Nat} {xs ys:List AV} {lents:List Lent} (hrw:C.rw f i = true) (hl:lendArgs C f H (i + 1) xs = some (ys,lents)):lendArgs C f H i (.sl o off len g :: xs) = some (.sl o off len g :: ys,⟨[],[]⟩ :: lents):=by
  simp only [lendArgs,hrw,hl]
theorem Ev1.rw1 (hT:Below C T) {o off len g:Nat} {ob:Obj} {xs ys:List AV} {lents:List Lent} {fn:Func} {c:Code} {out:Out} {l:List AV} {rest:Heap} {n:Nat}
    (hF:C.P.funcs[f]? = some fn) (hb:fn.body = some c) (hrw:C.rw f 0 = true) (ho:H[o]? = some (some ob)) (hg:ob.g = g) (hid:ob.ids = false) (hp:plainP ob.p = true) (htg:ob.tg = 0)
    (hl:lendArgs C f H 1 xs = some (ys,lents)) (hiy:idsL ys = []) (hob:lents.all (fun x=>disjoint x.objs [o]) = true) (hn:ys.length + 2 = n) (hng:n < gtag)
    (he:Run C T f 1 c (numbered 0 (coerce C (.sl 0 off len 0 :: ys) (paramsOf C f))) [some { ob with g:=0,tg:=n }] out)
    (hex:out.ex = .normal∨out.ex = .ret) (hr:resultsV C out.fr out.H fn.results.toList = some l)
    (hH:out.H = some { ob with g:=0,tg:=n } :: rest) (hv:ids (resultV l) = []) (htv:tags (resultV l) = []) :
    Ev1 C f (.sl o off len g :: xs) H (resultV l,H):=by
  have hi:ids ob.p = []:=plainP_ids hp
  have hren:∀ (ρ:Nat→Nat→Option (Nat × Nat)) (τ:Nat→Nat),ren ρ τ ob.p = ob.p:=by
    intro ρ τ
    cases hpp:ob.p <;> rw [hpp] at hp <;> simp [plainP] at hp <;> rfl
  have hlive:live H o g = some ob:=by simp [live,ho,hg]
  have hat:obAt H o = some ob:=by simp [obAt,ho]
  have hl':=lendArgs_rw (o:=o) (off:=off) (len:=len) (g:=g) hrw hl
  have hre:reach H reachFuel (idsL (.sl o off len g :: ys)) [] = [o]:=by
    rw [show idsL (.sl o off len g :: ys) = [o] by simp [idsL,ids,hiy]]
    exact reach_box ho hi
  have hin:intoN H [o] o g = some (0,0):=by simp [intoN,hlive,idxOf]
  have hlen:=lendArgs_len hl
  have hn0:0 < n:=by omega
  have hto:tagsOb ob = [0]:=by
    unfold tagsOb
    rw [hid,htg]
    cases hpp:ob.p <;> rw [hpp] at hp <;> simp [plainP] at hp <;> rfl
  have hto1:tagsOb { ob with g:=0,tg:=n } = [n]:=by
    unfold tagsOb
    simp only [hid]
    cases hpp:ob.p <;> rw [hpp] at hp <;> simp [plainP] at hp <;> rfl
  refine Ev1.of (out:=out) (l:=l) hT hF hb hl' ?_ ?_ hex hr ?_
  · rw [hre]
    simp only [List.all_cons,Bool.and_eq_true,decide_eq_true_eq,List.length_cons]
    exact ⟨⟨rfl,hob⟩,by omega⟩
  · rw [hre]
    have e1:renL (intoN H [o]) (fun t=>t) (.sl o off len g :: ys) = .sl 0 off len 0 :: ys:=by
      simp only [renL,ren,hin]
      rw [renL_flat ys hiy (fun _ _=>rfl)]
    have e2:([o].map fun o'=>(obAt H o').map (renObj (intoN H [o]) (fun _=>(AV.sl o off len g :: ys).length + 1) 0)) = [some { ob with g:=0,tg:=n }]:=by
      simp only [List.map_cons,List.map_nil,hat,Option.map_some,renObj,List.length_cons]
      rw [show ys.length + 1 + 1 = n by omega,hren]
    rw [e1,e2]
    exact he
  · rw [hre]
    unfold wrap
    have h0:out.H[0]? = some (some { ob with g:=0,tg:=n }):=by rw [hH];rfl
    have hat1:obAt out.H 0 = some { ob with g:=0,tg:=n }:=by simp [obAt,h0]
    have hre1:reach out.H reachFuel (List.range [o].length ++ ids (resultV l)) [] = [0]:=by
      rw [hv]
      exact reach_box h0 hi
    have hbt:backTag (⟨[],[]⟩ :: lents ++ [⟨[],tagsObjs ([o].map (obAt H))⟩]) n = some 0:=by
      unfold backTag
      rw [if_neg (by omega)]
      rw [List.cons_append,show n - 1 = (n - 2) + 1 by omega,List.getElem?_cons_succ,List.getElem?_append_right (by omega),show n - 2 - lents.length = 0 by omega]
      simp [tagsObjs,hat,hto,joinTags,joinTag]
    have hgo:goneOf (⟨[],[]⟩ :: lents ++ [⟨[],tagsObjs ([o].map (obAt H))⟩]) n = []:=by
      unfold goneOf
      rw [if_neg (by omega)]
      rw [List.cons_append,show n - 1 = (n - 2) + 1 by omega,List.getElem?_cons_succ,List.getElem?_append_right (by omega),show n - 2 - lents.length = 0 by omega]
      rfl
    generalize (⟨[],[]⟩ :: lents ++ [⟨[],tagsObjs ([o].map (obAt H))⟩]:List Lent) = L at *
    have hbT:backT L n = 0:=by unfold backT;rw [hbt];rfl
    simp only [hre1]
    rw [show ([0].filter fun o'=>decide ([o].length≤o')) = [] from rfl]
    have hus:(tags (resultV l) ++ tagsObjs ((List.range [o].length).map (obAt out.H)) ++ tagsObjs (([]:List Nat).map (obAt out.H))) = [n]:=by
      simp [tagsObjs,hat1,List.range_succ,htv,hto1]
    rw [hus]
    rw [if_pos (by simp [hbt])]
    rw [show [n].flatMap (goneOf L) = [] by simp [hgo]]
    simp only [strike,List.map_nil,List.append_nil,putBack,hat1,Option.map_some,Option.some.injEq,Prod.mk.injEq]
    have hgb:genBack H [o] 0 0 = g:=by simp [genBack,hat,hg]
    refine ⟨ren_flat _ hv (fun k hk=>by rw [htv] at hk;cases hk),?_⟩
    rw [hgb]
    simp only [renObj,hren,hbT]
    rw [show ({ p:=ob.p,g:=g,cap:=ob.cap,z:=ob.z,row:=ob.row,ids:=ob.ids,tg:=0 }:Obj) = ob by cases ob;simp only at hg htg;subst hg htg;rfl]
    unfold upd
    obtain ⟨h1,h2⟩:=List.getElem?_eq_some_iff.1 ho
    exact List.ext_getElem? fun i=>by
      by_cases h:i = o
      · subst h;rw [List.getElem?_set_self h1,ho]
      · rw [List.getElem?_set_ne (fun e=>h e.symm)]
theorem Byt.part {o off len g:Nat} {ob:Obj} {m l:List UInt8} (ho:H[o]? = some (some ob)) (hg:ob.g = g) (hp:ob.p = .pb m) (hi:ob.ids = false) (hl:(m.drop off).take len = l) (hle:off + len≤m.length):Byt H (.sl o off len g) l:=by
  have hlive:live H o g = some ob:=by simp [live,ho,hg]
  refine ⟨if ob.z = 0∧AM.plen ob.p = 0 then 0 else 2,.pb l,.inl rfl,fun h0=>?_,fun t=>⟨⟨[o],[ob.tg]⟩,?_⟩⟩
  · split at h0
    · rename_i hz
      have hm:m.length = 0:=by have:=hz.2;rw [hp] at this;exact this
      have:m = []:=List.eq_nil_of_length_eq_zero hm
      subst this
      rw [← hl];simp
    · cases h0
  · simp only [lendV,lend1,hlive,hi,hp,psub]
    rw [if_pos hle,hl]
    rfl
theorem app_rwc {T e:Nat} (hT:und C T = .slice e) (he:und C e = .int .u8) (hs:sizeT C e = 1) (hb:bytesT C e = 1) (hz:zeroOk C e = true) {o g k:Nat} {ob:Obj} {l m:List UInt8} {src:AV}
    (ho:H[o]? = some (some ob)) (h:Rw (.pb l) g ob) (hk:ob.cap = some k) (hkl:l.length + m.length≤k) (hsrc:srcV H src = some (.pb m,0)∨(srcV H src = some (.pn,0)∧m = [])) (hn:l.length + m.length≤100000000) :
    ∃ ob',Rw (.pb (l ++ m)) (g + 1) ob'∧ob'.cap = some k∧appendV C H T (.sl o 0 l.length g) src = some (.sl o 0 (l.length + m.length) (g + 1),upd H o (some ob')):=by
  have hlive:live H o g = some ob:=by simp [live,ho,h.g]
  have hroom:roomOk C e (l.length + m.length) = true:=by simp [roomOk,hb];omega
  obtain ⟨p,hp1,hp2⟩:∃ p,srcV H src = some (p,0)∧PB p m:=by
    rcases hsrc with h1 | ⟨h1,h2⟩
    · exact ⟨_,h1,.inl rfl⟩
    · exact ⟨_,h1,.inr ⟨rfl,h2⟩⟩
  have hpl:=hp2.plen
  have hpa:papp (.pb l) p = some (.pb (l ++ m)):=by
    rcases hp2 with rfl | ⟨rfl,rfl⟩
    · rfl
    · simp [papp]
  refine ⟨{ ob with p:=.pb (l ++ m),g:=g + 1,cap:=(match ob.cap with | some c=>if 0 + l.length + AM.plen p≤c then some (c - 0) else none | none=>none),z:=(if AM.plen ob.p = 0 then ob.z else 1),tg:=0 },⟨rfl,rfl,h.row,h.ids,rfl⟩,?_,?_⟩
  · simp only [hk]
    rw [if_pos (by omega)]
    rfl
  unfold appendV
  simp only [hT,hs,hz,hp1,hlive,h.row,h.ids,h.p,h.tg]
  simp only [show ¬ ((1:Nat) = 0∨true = false) by simp,if_false]
  have hc:True∧True∧0 + l.length = AM.plen (.pb l)∧pesz (.pb l) = 1∧roomOk C e (l.length + AM.plen p) = true:=⟨trivial,trivial,by simp [AM.plen],rfl,by rw [hpl];exact hroom⟩
  rw [if_pos hc]
  simp only [psub,Nat.zero_add,Nat.le_refl,if_true,List.drop_zero,List.take_length,hpa,joinTag,pesz]
  simp [hpl]
  rfl
theorem Ev1.newBc (hT:Below C T) {args xs:List AV} {lents:List Lent} {fn:Func} {c:Code} {n:Nat} {k:Option Nat} {l:List UInt8} {rest:List AV}
    (hF:C.P.funcs[f]? = some fn) (hb:fn.body = some c) (hl:lendArgs C f H 0 args = some (xs,lents)) (hi:idsL xs = []) (hn:xs.length + 1 < gtag) (hri:idsL rest = []) (hrt:tagsL rest = []) (hnt:noTups rest = true)
    (h:Tells (Rets fun fr H1=>∃ o g ob,resultsV C fr H1 fn.results.toList = some (.sl o 0 n g :: rest)∧H1[o]? = some (some ob)∧Rw (.pb l) g ob∧ob.cap = k) C T f 0 c (numbered 0 (coerce C xs (paramsOf C f))) []) :
    ∃ ob',Rw (.pb l) 0 ob'∧ob'.cap = k∧Ev1 C f args H (resultV (.sl H.length 0 n 0 :: rest),H ++ [some ob']):=by
  obtain ⟨⟨ex,fr,H1⟩,⟨he,o,g,ob,hr,ho,hw,hk⟩,hrun⟩:=h
  simp only at he hr ho
  subst he
  refine ⟨AM.fresh ob,⟨hw.p,rfl,hw.row,hw.ids,rfl⟩,hk,?_⟩
  have:=Ev1.fresh (H:=H) hT hF hb hl hi hn hrun (.inr rfl) hr (o:=o) (g:=g) (ob:=ob) (by rw [ids_result (l:=.sl o 0 n g :: rest) hnt];simp [idsL,ids,hri]) (by rw [tags_result (l:=.sl o 0 n g :: rest) hnt];simp [tagsL,tags,hrt]) (by simp [live,ho,hw.g]) hw.ids (by rw [hw.p];rfl) hw.tg
  rw [ren_result (w:=.sl H.length 0 n 0) (by simp [ren]) (renL_flat rest hri (fun t ht=>rfl)) (by exact hnt) (by exact hnt)] at this
  exact this
end
end Go.AM
namespace Go.AM
section
variable {C:Ctx} {f:Nat} {H:Heap} {T:Cf}
structure RwT (p:AV) (g t:Nat) (ob:Obj):Prop where
  p:ob.p = p
  g:ob.g = g
  row:ob.row = true
  ids:ob.ids = false
  tg:ob.tg = t
theorem RwT.rw {p:AV} {g:Nat} {ob:Obj} (h:RwT p g 0 ob):Rw p g ob:=⟨h.p,h.g,h.row,h.ids,h.tg⟩
end
end Go.AM
namespace Go.AM
section
variable {Q Q':Out→Prop} {C:Ctx} {T:Cf} {f m:Nat} {fr:Frame} {H:Heap}
theorem Tells.mono {c:Code} (h:Tells Q C T f m c fr H) (hq:∀ o,Q o→Q' o):Tells Q' C T f m c fr H:=by
  obtain ⟨o,h1,h2⟩:=h
  exact ⟨o,hq o h1,h2⟩
theorem Tells.loopP {c:Code} (I:Nat→Frame→Heap→Prop)
    (step:∀ k fr H,I k fr H→Tells (fun o=>(o.ex = .normal∧∃ k',k' < k∧I k' o.fr o.H)∨(o.ex ≠ .normal∧Q o)) C T f m c fr H) {k:Nat} (h:I k fr H) :
    Tells Q C T f m (.loop c) fr H:=by
  induction k using Nat.strongRecOn generalizing fr H with
  | _ k ih =>
    obtain ⟨⟨ex,fr1,H1⟩,hq,hr⟩:=step k fr H h
    rcases hq with ⟨he,k',hk,hi⟩ | ⟨he,hq⟩
    · simp only at he hi
      subst he
      obtain ⟨o,hq,ho⟩:=ih k' hk hi
      exact ⟨o,hq,Run.loop_step hr ho⟩
    · exact ⟨_,hq,Run.loop_out hr he⟩
theorem Tells.seqOut {a b:Code} (h:Tells Q C T f m a fr H) (hq:∀ o,Q o→o.ex ≠ .normal):Tells Q C T f m (.seq a b) fr H:=by
  obtain ⟨o,h1,h2⟩:=h
  exact ⟨o,h1,Run.seq_out h2 (hq o h1)⟩
theorem Tells.blk {id:Nat} {c:Code} (h:Tells Q C T f m c fr H) (hq:∀ o,Q o→o.ex ≠ .exit id):Tells Q C T f m (.block id c) fr H:=by
  obtain ⟨o,h1,h2⟩:=h
  exact ⟨o,h1,Run.block h2 (hq o h1)⟩
def Or2 (P:Frame→Heap→Prop) (Q:Out→Prop) (o:Out):Prop:=(o.ex = .normal∧P o.fr o.H)∨(o.ex ≠ .normal∧Q o)
theorem Tells.or {a b:Code} {P:Frame→Heap→Prop} (h:Tells (Or2 P Q) C T f m a fr H) (h':∀ fr' H',P fr' H'→Tells Q C T f m b fr' H'):Tells Q C T f m (.seq a b) fr H:=by
  obtain ⟨⟨ex,fr1,H1⟩,hq,hr⟩:=h
  rcases hq with ⟨he,hp⟩ | ⟨he,hq⟩
  · simp only at he hp
    subst he
    exact Tells.seq hr (h' _ _ hp)
  · exact ⟨_,hq,Run.seq_out hr he⟩
theorem Tells.goes {c:Code} {P:Frame→Heap→Prop} (h:Tells (Goes P) C T f m c fr H):Tells (Or2 P Q) C T f m c fr H:=h.mono fun _ h=>.inl h
theorem Tells.blkOr {id:Nat} {c:Code} {P:Frame→Heap→Prop} (h:Tells (Or2 P Q) C T f m c fr H) (hq:∀ o,Q o→o.ex ≠ .exit id):Tells (Or2 P Q) C T f m (.block id c) fr H:=by
  refine h.blk ?_
  rintro o (⟨h1,_⟩ | ⟨_,h2⟩)
  · rw [h1];simp
  · exact hq o h2
theorem Tells.condT {c:Operand} {a b:Code} (hc:evalO C fr c = .bool true) (h:Tells Q C T f m a fr H):Tells Q C T f m (.cond c a b) fr H:=by
  obtain ⟨o,hq,ho⟩:=h
  exact ⟨o,hq,Run.cond (d:=true) hc ho⟩
theorem Tells.condF {c:Operand} {a b:Code} (hc:evalO C fr c = .bool false) (h:Tells Q C T f m b fr H):Tells Q C T f m (.cond c a b) fr H:=by
  obtain ⟨o,hq,ho⟩:=h
  exact ⟨o,hq,Run.cond (d:=false) hc ho⟩
theorem Tells.blockOr {id:Nat} {c:Code} {P:Frame→Heap→Prop} (h:Tells (fun o=>Exits id P o∨(o.ex = .ret∧Q o)) C T f m c fr H):Tells (Or2 P Q) C T f m (.block id c) fr H:=by
  obtain ⟨⟨ex,fr1,H1⟩,hq,hr⟩:=h
  rcases hq with ⟨he,hp⟩ | ⟨he,hq⟩
  · simp only at he hp
    subst he
    exact ⟨_,.inl ⟨rfl,hp⟩,Run.block_exit hr⟩
  · simp only at he
    subst he
    exact ⟨_,.inr ⟨by simp,hq⟩,Run.block hr (by simp)⟩
end
def codeAt:List Nat→Code→Option Code
  | [],c=>some c
  | 0 :: r,.seq a _=>codeAt r a
  | _ :: r,.seq _ b=>codeAt r b
  | 0 :: r,.cond _ a _=>codeAt r a
  | _ :: r,.cond _ _ b=>codeAt r b
  | _ :: r,.block _ c=>codeAt r c
  | _ :: r,.loop c=>codeAt r c
  | _,_=>none
theorem piece {O:Option Code} {P:Code→Prop} (h:∃ code,O = some code∧P code) (code':Code) (h':O = some code'):P code':=by
  obtain ⟨c,h1,h2⟩:=h
  rw [h'] at h1
  exact (Option.some.inj h1) ▸ h2
end Go.AM
namespace Go.AM
open Go.ChangeShapes Go.WideShapes Go.ChangeAt Go.RowKit
inductive Leaf where
  | b
  | i (k:IntKind)
  | s
def leafOf:TypeDesc→Option Leaf
  | .bool=>some .b
  | .int k=>some (.i k)
  | .string=>some .s
  | _=>none
def LeafRel:Leaf→AV→Value→Prop
  | .b,a,u=>∃ b,a = .bool b∧u = .bool b
  | .i k,a,u=>∃ n,a = .int k n∧u = .int k n∧(Lit.int k n).wf = true
  | .s,a,u=>∃ s:List UInt8,a = .str s∧u = .string ⟨⟨s⟩⟩∧s.length≤maxLen
inductive Cells:List Leaf→List AV→List Value→Prop
  | nil:Cells [] [] []
  | cons {k a u ks as us}:LeafRel k a u→Cells ks as us→Cells (k :: ks) (a :: as) (u :: us)
theorem Cells.append {ks ks' as as' us us'} (h:Cells ks as us) (h':Cells ks' as' us'):Cells (ks ++ ks') (as ++ as') (us ++ us'):=by
  induction h with
  | nil=>exact h'
  | cons h1 _ ih=>exact .cons h1 ih
theorem Cells.len {ks as us} (h:Cells ks as us):as.length = ks.length∧us.length = ks.length:=by
  induction h with
  | nil=>exact ⟨rfl,rfl⟩
  | cons h1 _ ih=>simp [ih.1,ih.2]
theorem LeafRel.rel {k a u} {W:World} (h:LeafRel k a u):u.oneCell' = true∧∀ N,RV W N a u:=by
  cases k with
  | b=>obtain ⟨b,rfl,rfl⟩:=h;exact ⟨rfl,fun N=>by simp [RV]⟩
  | i k=>obtain ⟨n,rfl,rfl,_⟩:=h;exact ⟨rfl,fun N=>by simp [RV]⟩
  | s=>obtain ⟨s,rfl,rfl,_⟩:=h;exact ⟨rfl,fun N=>by simp [RV]⟩
theorem Cells.at {ks as us} (h:Cells ks as us):∀ (j:Nat) (a:AV),as[j]? = some a→∃ k u,us[j]? = some u∧LeafRel k a u:=by
  induction h with
  | nil=>intro j a h;simp at h
  | cons h1 _ ih =>
    intro j a h
    cases j with
    | zero=>simp at h;subst h;exact ⟨_,_,rfl,h1⟩
    | succ j=>simp at h;simpa using ih j a h
section
variable (P:Program)
def leavesF (L:TypeId→Option (List Leaf)):Nat→List Field→Option (List Leaf)
  | _,[]=>some []
  | o,f :: r=>if f.offset = o then
      match L f.type with
      | some a=>if a.length = P.cellsOf f.type then
          match leavesF L (o + a.length) r with
          | some b=>some (a ++ b)
          | none=>none
        else none
      | none=>none
    else none
def leaves:Nat→TypeId→Option (List Leaf)
  | 0,_=>none
  | n + 1,t=>match P.underlying t with
    | some (.struct fs)=>match leavesF P (leaves n) 0 fs.toList with
      | some L=>if L.length = P.cellsOf t then some L else none
      | none=>none
    | some d=>(leafOf d).map fun k=>[k]
    | none=>none
end
section
variable {H:Type} {enc:TypeId × Value→H} {P:Program} {W:World} {base:Nat} {sp:Nat→Bool} {held:Bool}
inductive StrIn {H:Type}:DataW H→List UInt8→Prop
  | lit (s:List UInt8):StrIn (.lit (.string s)) s
  | agg {d:DataW H} {l:List (DataW H)} {s:List UInt8}:d ∈ l→StrIn d s→StrIn (.agg l) s
  | elem {d:DataW H} {l r:List (DataW H)} {s:List UInt8}:d ∈ l→StrIn d s→StrIn (.slice l r) s
theorem leavesF_cells {S:List UInt8→Prop} {L:TypeId→Option (List Leaf)} {T:TypeId→List Value→Prop} (hL:∀ t M cs,L t = some M→T t cs→∃ as,Cells M as cs∧∀ s,.str s ∈ as→S s) (cs:List Value) :
    ∀ (r:List Field) (o:Nat) (M:List Leaf),leavesF P L o r = some M→(∀ f ∈ r,T f.type ((cs.drop f.offset).take (P.cellsOf f.type)))→o + M.length≤cs.length→∃ as,Cells M as ((cs.drop o).take M.length)∧∀ s,.str s ∈ as→S s
  | [],o,M,h,_,_=>by
    simp only [leavesF,Option.some.injEq] at h
    subst h
    exact ⟨[],by simpa using Cells.nil,fun s h=>by cases h⟩
  | f :: r,o,M,h,hT,hlen=>by
    unfold leavesF at h
    split at h
    · rename_i hof
      split at h
      · rename_i a ha
        split at h
        · rename_i hal
          split at h
          · rename_i b hb
            obtain rfl:=Option.some.inj h
            obtain ⟨as,h1,s1⟩:=hL _ _ _ ha (hT f (by simp))
            rw [List.length_append] at hlen
            obtain ⟨bs,h2,s2⟩:=leavesF_cells hL cs r (o + a.length) b hb (fun g hg=>hT g (by simp [hg])) (by omega)
            rw [hof,← hal] at h1
            refine ⟨as ++ bs,?_,fun s hs=>(List.mem_append.1 hs).elim (s1 s) (s2 s)⟩
            have e:(cs.drop o).take (a ++ b).length = (cs.drop o).take a.length ++ (cs.drop (o + a.length)).take b.length:=by
              rw [List.length_append,List.take_add,List.drop_drop]
            rw [e]
            exact h1.append h2
          · cases h
        · cases h
      · cases h
    · cases h
theorem leaves_cells {S:List UInt8→Prop}:∀ (n:Nat) (t:TypeId) (L:List Leaf) (fuel:Nat) (cs:List Value) (x:DataW H × List MemPlace),leaves P n t = some L→DataW.trod enc P W base sp held fuel t cs = some x→(∀ s,StrIn x.1 s→S s)→∃ as,Cells L as cs∧∀ s,.str s ∈ as→S s
  | 0,_,_,_,_,_,h,_,_=>by cases h
  | n + 1,t,L,fuel,cs,x,h,hx,hS=>by
    unfold leaves at h
    split at h
    · rename_i fs hu
      split at h
      · rename_i M hM
        split at h
        · rename_i hl
          obtain rfl:=Option.some.inj h
          obtain ⟨xs,m,_,hxe,hcl,hxl,hall⟩:=DataW.trod_struct hu hx
          obtain ⟨as,h1,hs1⟩:=leavesF_cells (S:=S) (T:=fun t cs=>∃ fuel x,DataW.trod enc P W base sp held fuel t cs = some x∧∀ s,StrIn x.1 s→S s) (fun t M cs h1 ⟨fuel,x,h2,h3⟩=>leaves_cells n t M fuel cs x h1 h2 h3) cs fs.toList 0 M hM (by
            intro f hf
            obtain ⟨i,hi,rfl⟩:=List.mem_iff_getElem.1 hf
            have hi':i < fs.size:=by simpa using hi
            have:=hall i fs[i] (Array.getElem?_eq_getElem hi')
            rw [List.getElem?_eq_getElem (by omega)] at this
            simp only [Array.getElem_toList]
            refine ⟨m,_,this,fun s hs=>hS s ?_⟩
            rw [hxe]
            exact .agg (List.mem_map.2 ⟨_,List.getElem_mem _,rfl⟩) hs) (by omega)
          refine ⟨as,?_,hs1⟩
          rw [List.drop_zero,List.take_of_length_le (by omega)] at h1
          exact h1
        · cases h
      · cases h
    · rename_i d hs hu
      cases d with
      | bool =>
        simp only [leafOf,Option.map_some,Option.some.injEq] at h
        subst h
        obtain ⟨b,rfl,_⟩:=DataW.trod_bool hu hx
        exact ⟨[.bool b],.cons ⟨b,rfl,rfl⟩ .nil,fun s hs=>by simp at hs⟩
      | int k =>
        simp only [leafOf,Option.map_some,Option.some.injEq] at h
        subst h
        obtain ⟨z,rfl,_,hw⟩:=DataW.trod_int hu hx
        exact ⟨[.int k z],.cons ⟨z,rfl,rfl,hw⟩ .nil,fun s hs=>by simp at hs⟩
      | string =>
        simp only [leafOf,Option.map_some,Option.some.injEq] at h
        subst h
        obtain ⟨⟨⟨s⟩⟩,rfl,hxe,hw⟩:=DataW.trod_string hu hx
        refine ⟨[.str s],.cons ⟨s,rfl,rfl,hw⟩ .nil,fun s' hs=>?_⟩
        obtain rfl:s' = s:=by simpa using hs
        exact hS _ (by rw [hxe];exact .lit s')
      | _=>simp [leafOf] at h
    · cases h
theorem cell_of {a:Addr} {k:Nat} {u:Value} (h:W.cell? ((a.add (0 * k)).add 0) = some u):a.spot = none:=by
  have:=World.cell?_spot h
  simpa [Addr.add] using this
theorem arg_rows {n:Nat} {t e:TypeId} {L:List Leaf} {b0:Nat} {v:Value} {d:DataW H} {ps:List MemPlace} (ht:P.underlying t = some (.slice e)) (hL:leaves P n e = some L) (hc:P.cellsOf e = L.length) (hpos:0 < L.length)
    (hval:Value.okWide P W .any b0 t v) (hd:DataW.Trod enc P W 0 (fun _=>true) true t v d ps) :
    ∃ (c:Nat) (rows:List (List AV)),(∀ r ∈ rows,(∃ cs,Cells L r cs)∧∀ s,.str s ∈ r→StrIn d s)∧(c = 0→rows = [])∧rows.length≤maxLen∧VRel (start W) (T0 W.heap.size) (.ro c (.pr L.length (rows.map .pc)) 1) v:=by
  obtain ⟨a0,len0,cap0,rfl⟩:=okWide_slice ht hval
  obtain ⟨fuel,hf⟩:=hd
  rcases DataW.trod_slice ht hf with ⟨hcs,_⟩ | ⟨a,len,cap,elems,rest,m,_,hcs,hxe,hb,hlc,hcm,hel0,hel,_⟩
  · simp [Value.cells] at hcs
    obtain ⟨rfl,rfl,rfl⟩:=hcs
    refine ⟨0,[],by simp,fun _=>rfl,by simp,?_⟩
    simp only [VRel,V1Rel,SRel,RV]
    exact ⟨none,0,rfl,⟨Nat.le_refl _,fun _=>⟨rfl,rfl⟩,fun h=>absurd rfl h,fun h=>by simp at h⟩,fun a ha=>by cases ha⟩
  · simp [Value.cells] at hcs
    obtain ⟨rfl,rfl,rfl⟩:=hcs
    have each:∀ i:Nat,i < len0→∃ as cs,Cells L as cs∧(∀ s,.str s ∈ as→StrIn d s)∧∀ j,j < L.length→W.cell? ((a.add (i * L.length)).add j) = cs[j]?:=by
      intro i hi
      have h:=hel i hi
      rw [hc,List.getElem?_eq_getElem (by omega),Option.bind_eq_some_iff] at h
      obtain ⟨cs,h1,h2⟩:=h
      obtain ⟨as,h3,h4⟩:=leaves_cells (S:=StrIn d) n e L m cs _ hL h2 (fun s hs=>by
        have hd:d = .slice (elems.map (·.1)) (rest.map (·.1)):=(Prod.mk.inj hxe).1
        rw [hd]
        exact .elem (List.mem_map.2 ⟨_,List.getElem_mem _,rfl⟩) hs)
      exact ⟨as,cs,h3,h4,(World.cells?_some h1).2.2⟩
    have each':∀ i:Nat,∃ as,i < len0→∃ cs,Cells L as cs∧(∀ s,.str s ∈ as→StrIn d s)∧∀ j,j < L.length→W.cell? ((a.add (i * L.length)).add j) = cs[j]?:=by
      intro i
      by_cases hi:i < len0
      · obtain ⟨as,cs,h⟩:=each i hi
        exact ⟨as,fun _=>⟨cs,h⟩⟩
      · exact ⟨[],fun h=>absurd h hi⟩
    obtain ⟨f,hfe⟩:=Classical.axiomOfChoice each'
    have hlen:((List.range len0).map f).length = len0:=by simp
    refine ⟨2,(List.range len0).map f,?_,(fun h=>by cases h),by rw [hlen];omega,?_⟩
    · intro r hr
      obtain ⟨i,hi,rfl⟩:=List.mem_map.1 hr
      obtain ⟨cs,h,hs,_⟩:=hfe i (List.mem_range.1 hi)
      exact ⟨⟨cs,h⟩,hs⟩
    · simp only [VRel,V1Rel,SRel,RV]
      have hpl:plen (.pr L.length (((List.range len0).map f).map .pc)) = len0:=by simp [plen]
      rw [hpl]
      refine ⟨some a,cap0,rfl,⟨hlc,fun h=>by simp at h,fun _=>rfl,fun h=>by simp at h⟩,fun a' ha' hn=>?_⟩
      obtain rfl:=Option.some.inj ha'
      obtain ⟨cs0,k0,_,h0⟩:=hfe 0 (by omega)
      have hcl:=k0.len
      have hsp:a.spot = none:=by
        have h:=h0 0 hpos
        rw [List.getElem?_eq_getElem (by omega)] at h
        exact cell_of h
      obtain ⟨b,off,spot⟩:=a
      simp only at hsp
      subst hsp
      refine ⟨rfl,?_,?_⟩
      · have h:=h0 0 hpos
        rw [List.getElem?_eq_getElem (by omega),add_plain,add_plain] at h
        exact start_nt (block_lt_of_cell h) (by omega)
      · rw [RP_pr]
        refine ⟨hpos,fun j r hr=>?_⟩
        rw [List.map_map,List.getElem?_map] at hr
        cases hj:(List.range len0)[j]? with
        | none=>rw [hj] at hr;cases hr
        | some i =>
          rw [hj] at hr
          simp only [Option.map_some,Option.some.injEq,Function.comp] at hr
          subst hr
          have hi:=(List.getElem?_eq_some_iff.1 hj)
          obtain ⟨hi1,hi2⟩:=hi
          simp at hi1 hi2
          subst hi2
          obtain ⟨cs,h1,_,h2⟩:=hfe j hi1
          refine ⟨by simp [rowLen,h1.len.1],?_⟩
          rw [RP_pc]
          intro k x hx
          obtain ⟨kk,u,hu,hr⟩:=h1.at k x hx
          have hkl:k < L.length:=by have:=(List.getElem?_eq_some_iff.1 hx).1;rw [h1.len.1] at this;exact this
          have h3:=h2 k hkl
          rw [add_plain,add_plain,hu] at h3
          refine ⟨u,?_,(hr.rel (W:=W)).1,(hr.rel (W:=W)).2 _⟩
          rw [← h3]
          simp only [Nat.add_assoc]
          rfl
end
theorem rows_as {α β γ:Type} (f:α→γ) (g:β→γ) {Q:β→Prop}:∀ {rows:List α},(∀ r ∈ rows,∃ p,f r = g p∧Q p)→∃ l:List β,rows.map f = l.map g∧l.length = rows.length∧∀ p ∈ l,Q p
  | [],_=>⟨[],rfl,rfl,fun p h=>by cases h⟩
  | r :: rows,h=>by
    obtain ⟨p,h1,h2⟩:=h r (by simp)
    obtain ⟨l,h3,h4,h5⟩:=rows_as f g (rows:=rows) (fun r hr=>h r (by simp [hr]))
    exact ⟨p :: l,by rw [List.map_cons,List.map_cons,h1,h3],by simp [h4],fun q hq=>by
      rcases List.mem_cons.1 hq with rfl | hq
      · exact h2
      · exact h5 q hq⟩
end Go.AM
namespace Go.AM
section
variable {C:Ctx} {T:Cf} {f:Nat} {H:Heap}
theorem lendArgs_flats {f:Nat} {H:Heap} (hrw:∀ i,C.rw f i = false) {o g:Nat}:∀ {xs:List AV} {i:Nat},xs.all flatV = true →
    lendArgs C f H i (xs ++ [.ptr o 0 0 g]) = some (xs ++ [.ptr o 0 0 g],List.replicate (xs.length + 1) ⟨[],[]⟩)
  | [],i,_=>by simp [lendArgs,hrw,lendV,lend1,tags]
  | a :: r,i,h=>by
    simp only [List.all_cons,Bool.and_eq_true] at h
    have h1:=lendArgs_flats (H:=H) hrw (o:=o) (g:=g) (xs:=r) (i:=i + 1) h.2
    have h2:=flat_lend (H:=H) (t:=i + 1) h.1
    rw [List.cons_append]
    unfold lendArgs
    rw [h1]
    cases a <;> simp only [flatV,Bool.false_eq_true] at h <;> simp [hrw,h2,List.replicate_succ]
theorem flats_ids {xs:List AV} (h:xs.all flatV = true):idsL xs = []∧tagsL xs = []:=by
  induction xs with
  | nil=>exact ⟨rfl,rfl⟩
  | cons a r ih =>
    simp only [List.all_cons,Bool.and_eq_true] at h
    have:=ih h.2
    have h1:=flat_ids h.1
    simp [idsL,tagsL,this.1,this.2,h1.1,h1.2]
theorem idsL_app (l m:List AV):idsL (l ++ m) = idsL l ++ idsL m:=by
  induction l with
  | nil=>rfl
  | cons a r ih=>rw [List.cons_append,idsL,idsL,ih,List.append_assoc]
theorem renL_app {ρ:Nat→Nat→Option (Nat × Nat)} {τ:Nat→Nat} (l m:List AV):renL ρ τ (l ++ m) = renL ρ τ l ++ renL ρ τ m:=by
  induction l with
  | nil=>rfl
  | cons a r ih=>rw [List.cons_append,renL,renL,ih];rfl
theorem reach_fn2 {H:Heap} {o1 o2 off len g2:Nat} {b1 b2:Obj} (h1:H[o1]? = some (some b1)) (hp1:b1.p = .pc [.sl o2 off len g2]) (hi1:b1.ids = true) (h2:H[o2]? = some (some b2)) (hi2:b2.ids = false) (hne:o1 ≠ o2) :
    reach H reachFuel [o1] [] = [o1,o2]:=by
  rw [show reachFuel = 99997 + 1 + 1 + 1 from rfl]
  simp [reach,h1,hi1,hp1,ids,idsL,h2,hi2,Ne.symm hne]
theorem Ev1.fn2 (hT:Below C T) {o1 o2 g1 off len n:Nat} {b1 b2:Obj} {m:List UInt8} {xs:List AV} {fn:Func} {c:Code} {out:Out} {l:List AV} {rest:Heap}
    (hF:C.P.funcs[f]? = some fn) (hb:fn.body = some c) (hrw:∀ i,C.rw f i = false) (h1:H[o1]? = some (some b1)) (hg:b1.g = g1) (hp1:b1.p = .pc [.sl o2 off len b2.g]) (hi1:b1.ids = true) (ht1:b1.tg = 0)
    (h2:H[o2]? = some (some b2)) (hi2:b2.ids = false) (ht2:b2.tg = 0) (hp2:b2.p = .pb m) (hne:o1 ≠ o2) (hx:xs.all flatV = true) (hn:xs.length + 2 = n) (hng:n < gtag)
    (he:Run C T f 2 c (numbered 0 (coerce C (xs ++ [.ptr 0 0 0 0]) (paramsOf C f))) [some { b1 with p:=.pc [.sl 1 off len 0],g:=0,tg:=n },some { b2 with g:=0,tg:=n }] out)
    (hex:out.ex = .normal∨out.ex = .ret) (hr:resultsV C out.fr out.H fn.results.toList = some l)
    (hH:out.H = some { b1 with p:=.pc [.sl 1 off len 0],g:=0,tg:=n } :: some { b2 with g:=0,tg:=n } :: rest) (hl:l.all flatV = true) (hnt:noTups l = true) :
    Ev1 C f (xs ++ [.ptr o1 0 0 g1]) H (resultV l,H):=by
  have hlive:live H o1 g1 = some b1:=by simp [live,h1,hg]
  have hlive2:live H o2 b2.g = some b2:=by simp [live,h2]
  have hat1:obAt H o1 = some b1:=by simp [obAt,h1]
  have hat2:obAt H o2 = some b2:=by simp [obAt,h2]
  have hxi:=flats_ids hx
  have hli:=flats_ids hl
  have hv:ids (resultV l) = []:=by rw [ids_result hnt];exact hli.1
  have hvt:tags (resultV l) = []:=by rw [tags_result hnt];exact hli.2
  have hL:=lendArgs_flats (H:=H) hrw (o:=o1) (g:=g1) (i:=0) hx
  have hids:idsL (xs ++ [.ptr o1 0 0 g1]) = [o1]:=by rw [idsL_app,hxi.1];rfl
  have hre:=reach_fn2 h1 hp1 hi1 h2 hi2 hne
  refine Ev1.of (out:=out) (l:=l) hT hF hb hL ?_ ?_ hex hr ?_
  · rw [hids,hre]
    simp only [Bool.and_eq_true,decide_eq_true_eq,List.length_append,List.length_cons,List.length_nil]
    refine ⟨List.all_eq_true.2 fun x hx=>?_,by omega⟩
    rw [List.mem_replicate] at hx
    rw [hx.2];rfl
  · rw [hids,hre]
    have hin1:intoN H [o1,o2] o1 g1 = some (0,0):=by simp [intoN,hlive,idxOf]
    have hin2:intoN H [o1,o2] o2 b2.g = some (1,0):=by simp [intoN,hlive2,idxOf,hne]
    have e1:renL (intoN H [o1,o2]) (fun t=>t) (xs ++ [.ptr o1 0 0 g1]) = xs ++ [.ptr 0 0 0 0]:=by
      rw [renL_app,renL_flat xs hxi.1 (fun _ _=>rfl)]
      simp [renL,ren,hin1]
    have e2:([o1,o2].map fun o'=>(obAt H o').map (renObj (intoN H [o1,o2]) (fun _=>(xs ++ [AV.ptr o1 0 0 g1]).length + 1) 0)) = [some { b1 with p:=.pc [.sl 1 off len 0],g:=0,tg:=n },some { b2 with g:=0,tg:=n }]:=by
      simp only [List.map_cons,List.map_nil,hat1,hat2,Option.map_some,renObj,List.length_append,List.length_cons,List.length_nil,hp1,hp2,ren,renL,hin2]
      rw [show xs.length + (0 + 1) + 1 = n by omega,← hp2]
    rw [e1,e2]
    exact he
  · rw [hids,hre]
    unfold wrap
    have k1:out.H[0]? = some (some { b1 with p:=.pc [.sl 1 off len 0],g:=0,tg:=n }):=by rw [hH];rfl
    have k2:out.H[1]? = some (some { b2 with g:=0,tg:=n }):=by rw [hH];rfl
    have a1:obAt out.H 0 = some { b1 with p:=.pc [.sl 1 off len 0],g:=0,tg:=n }:=by simp [obAt,k1]
    have a2:obAt out.H 1 = some { b2 with g:=0,tg:=n }:=by simp [obAt,k2]
    have hre1:reach out.H reachFuel (List.range [o1,o2].length ++ ids (resultV l)) [] = [0,1]:=by
      rw [hv,List.append_nil,show reachFuel = 99996 + 1 + 1 + 1 + 1 from rfl]
      simp [List.range_succ,reach,k1,k2,hi1,hi2,ids,idsL]
    have htag:tagsObjs ([o1,o2].map (obAt H)) = [0]:=by
      simp [tagsObjs,hat1,hat2,tagsOb,hi1,hi2,hp1,hp2,tags,tagsL,ht2]
    rw [htag]
    have hbt:backTag (List.replicate (xs.length + 1) ⟨[],[]⟩ ++ [⟨[],[0]⟩]) n = some 0:=by
      unfold backTag
      rw [if_neg (by omega),List.getElem?_append_right (by simp;omega)]
      simp [show n - 1 - (xs.length + 1) = 0 by omega,joinTags,joinTag]
    have hgo:goneOf (List.replicate (xs.length + 1) ⟨[],[]⟩ ++ [⟨[],[0]⟩]) n = []:=by
      unfold goneOf
      rw [if_neg (by omega),List.getElem?_append_right (by simp;omega)]
      simp [show n - 1 - (xs.length + 1) = 0 by omega]
    generalize (List.replicate (xs.length + 1) ⟨[],[]⟩ ++ [⟨[],[0]⟩]:List Lent) = L at *
    have hus:(tags (resultV l) ++ tagsObjs ((List.range [o1,o2].length).map (obAt out.H)) ++ tagsObjs (([]:List Nat).map (obAt out.H))) = [n]:=by
      rw [hvt]
      simp [tagsObjs,a1,a2,List.range_succ,tagsOb,hi1,hi2,hp2,tags,tagsL]
    simp only [hre1]
    rw [show ([0,1].filter fun o'=>decide ([o1,o2].length≤o')) = [] from rfl,hus]
    rw [if_pos (by simp [hbt])]
    simp only [List.flatMap_cons,List.flatMap_nil,hgo,List.append_nil,strike,List.map_nil,putBack,a1,a2,Option.map_some,Option.some.injEq,Prod.mk.injEq]
    have hb0:backT L n = 0:=by unfold backT;rw [hbt];rfl
    have l2:live out.H 1 0 = some { b2 with g:=0,tg:=n }:=by simp [live,k2]
    refine ⟨ren_flat _ hv (fun t ht=>by rw [hvt] at ht;cases ht),?_⟩
    have q1:renObj (backN H [o1,o2] [] out.H) (backT L) (genBack H [o1,o2] 0 0) { b1 with p:=.pc [.sl 1 off len 0],g:=0,tg:=n } = b1:=by
      simp [renObj,hb0,ren,renL,backN,l2,genBack,hat1,hat2]
      obtain ⟨p,g,cap,z,row,ids,tg⟩:=b1
      simp only at hp1 ht1
      subst hp1 ht1
      rfl
    have q2:renObj (backN H [o1,o2] [] out.H) (backT L) (genBack H [o1,o2] 1 0) { b2 with g:=0,tg:=n } = b2:=by
      simp [renObj,hb0,genBack,hat2,hp2,ren]
      obtain ⟨p,g,cap,z,row,ids,tg⟩:=b2
      simp only at hp2 ht2
      subst hp2 ht2
      rfl
    simp only [q1,q2]
    have s1:upd H o1 (some b1) = H:=by
      unfold upd
      obtain ⟨hlt,he⟩:=List.getElem?_eq_some_iff.1 h1
      rw [← he,List.set_getElem_self]
    have s2:upd H o2 (some b2) = H:=by
      unfold upd
      obtain ⟨hlt,he⟩:=List.getElem?_eq_some_iff.1 h2
      rw [← he,List.set_getElem_self]
    rw [s1,s2]
end
end Go.AM
namespace Go.AM
def roB (c:Nat) (p:AV) (t tg:Nat):Obj:=⟨.pc [.ro c p t],0,some 1,1,false,true,tg⟩
section
variable {C:Ctx} {T:Cf} {f:Nat} {H:Heap}
theorem joinTags_one (t:Nat):joinTags [t] = some t:=by
  simp [joinTags,joinTag];omega
theorem Ev1.fn1 (hT:Below C T) {o c t tg n:Nat} {p:AV} {xs:List AV} {fn:Func} {cd:Code} {out:Out} {l:List AV} {rest:Heap}
    (hF:C.P.funcs[f]? = some fn) (hb:fn.body = some cd) (hrw:∀ i,C.rw f i = false) (h1:H[o]? = some (some (roB c p t tg)))
    (hx:xs.all flatV = true) (hn:xs.length + 2 = n) (hng:n < gtag)
    (he:Run C T f 1 cd (numbered 0 (coerce C (xs ++ [.ptr 0 0 0 0]) (paramsOf C f))) [some (roB c p n n)] out)
    (hex:out.ex = .normal∨out.ex = .ret) (hr:resultsV C out.fr out.H fn.results.toList = some l)
    (hH:out.H = some (roB c p n n) :: rest) (hl:l.all flatV = true) (hnt:noTups l = true) :
    Ev1 C f (xs ++ [.ptr o 0 0 0]) H (resultV l,upd H o (some (roB c p t t))):=by
  have hlive:live H o 0 = some (roB c p t tg):=by simp [live,h1,roB]
  have hat1:obAt H o = some (roB c p t tg):=by simp [obAt,h1]
  have hxi:=flats_ids hx
  have hli:=flats_ids hl
  have hv:ids (resultV l) = []:=by rw [ids_result hnt];exact hli.1
  have hvt:tags (resultV l) = []:=by rw [tags_result hnt];exact hli.2
  have hL:=lendArgs_flats (H:=H) hrw (o:=o) (g:=0) (i:=0) hx
  have hids:idsL (xs ++ [.ptr o 0 0 0]) = [o]:=by rw [idsL_app,hxi.1];rfl
  have hre:reach H reachFuel [o] [] = [o]:=reach_box h1 (by simp [roB,ids,idsL])
  refine Ev1.of (out:=out) (l:=l) hT hF hb hL ?_ ?_ hex hr ?_
  · rw [hids,hre]
    simp only [Bool.and_eq_true,decide_eq_true_eq,List.length_append,List.length_cons,List.length_nil]
    refine ⟨List.all_eq_true.2 fun x hx=>?_,by omega⟩
    rw [List.mem_replicate] at hx
    rw [hx.2];rfl
  · rw [hids,hre]
    have hin1:intoN H [o] o 0 = some (0,0):=by simp [intoN,hlive,idxOf]
    have e1:renL (intoN H [o]) (fun t=>t) (xs ++ [.ptr o 0 0 0]) = xs ++ [.ptr 0 0 0 0]:=by
      rw [renL_app,renL_flat xs hxi.1 (fun _ _=>rfl)]
      simp [renL,ren,hin1]
    have e2:([o].map fun o'=>(obAt H o').map (renObj (intoN H [o]) (fun _=>(xs ++ [AV.ptr o 0 0 0]).length + 1) 0)) = [some (roB c p n n)]:=by
      simp only [List.map_cons,List.map_nil,hat1,Option.map_some,renObj,roB,ren,renL,List.length_append,List.length_cons,List.length_nil]
      rw [show xs.length + (0 + 1) + 1 = n by omega]
    rw [e1,e2]
    exact he
  · rw [hids,hre]
    unfold wrap
    have k1:out.H[0]? = some (some (roB c p n n)):=by rw [hH];rfl
    have a1:obAt out.H 0 = some (roB c p n n):=by simp [obAt,k1]
    have hre1:reach out.H reachFuel (List.range [o].length ++ ids (resultV l)) [] = [0]:=by
      rw [hv]
      exact reach_box k1 (by simp [roB,ids,idsL])
    have htag:tagsObjs ([o].map (obAt H)) = [t]:=by
      simp [tagsObjs,hat1,tagsOb,roB,tags,tagsL]
    rw [htag]
    have hbt:backTag (List.replicate (xs.length + 1) ⟨[],[]⟩ ++ [⟨[],[t]⟩]) n = some t:=by
      unfold backTag
      rw [if_neg (by omega),List.getElem?_append_right (by simp;omega)]
      simp [show n - 1 - (xs.length + 1) = 0 by omega,joinTags_one]
    have hgo:goneOf (List.replicate (xs.length + 1) ⟨[],[]⟩ ++ [⟨[],[t]⟩]) n = []:=by
      unfold goneOf
      rw [if_neg (by omega),List.getElem?_append_right (by simp;omega)]
      simp [show n - 1 - (xs.length + 1) = 0 by omega]
    generalize (List.replicate (xs.length + 1) ⟨[],[]⟩ ++ [⟨[],[t]⟩]:List Lent) = L at *
    have hus:(tags (resultV l) ++ tagsObjs ((List.range [o].length).map (obAt out.H)) ++ tagsObjs (([]:List Nat).map (obAt out.H))) = [n]:=by
      rw [hvt]
      simp [tagsObjs,a1,List.range_succ,tagsOb,roB,tags,tagsL]
    simp only [hre1]
    rw [show ([0].filter fun o'=>decide ([o].length≤o')) = [] from rfl,hus]
    rw [if_pos (by simp [hbt])]
    simp only [List.flatMap_cons,List.flatMap_nil,hgo,List.append_nil,strike,List.map_nil,putBack,a1,Option.map_some,Option.some.injEq,Prod.mk.injEq]
    have hb0:backT L n = t:=by unfold backT;rw [hbt];rfl
    refine ⟨ren_flat _ hv (fun t ht=>by rw [hvt] at ht;cases ht),?_⟩
    congr 2
    simp [renObj,hb0,ren,renL,genBack,hat1,roB]
end
end Go.AM
namespace Go.AM
section
variable {C:Ctx} {f:Nat} {H:Heap} {T:Cf}
theorem app_rows {T e es:Nat} (hT:und C T = .slice e) (hs:sizeT C e = es) (hes:es ≠ 0) (hb:bytesT C e≤4096) (hz:zeroOk C e = true) {o g:Nat} {ob:Obj} {l m:List AV} {src:AV}
    (ho:H[o]? = some (some ob)) (h:Rw (.pr es l) g ob) (hsrc:srcV H src = some (.pr es m,0)) (hn:l.length + m.length≤100000000) :
    ∃ ob',Rw (.pr es (l ++ m)) (g + 1) ob'∧appendV C H T (.sl o 0 l.length g) src = some (.sl o 0 (l.length + m.length) (g + 1),upd H o (some ob')):=by
  have hlive:live H o g = some ob:=by simp [live,ho,h.g]
  have hroom:roomOk C e (l.length + m.length) = true:=by
    unfold roomOk
    have:(l.length + m.length) * bytesT C e≤100000000 * 4096:=Nat.mul_le_mul hn hb
    exact decide_eq_true ⟨by omega,by omega⟩
  refine ⟨{ ob with p:=.pr es (l ++ m),g:=g + 1,cap:=(match ob.cap with | some c=>if 0 + l.length + AM.plen (.pr es m)≤c then some (c - 0) else none | none=>none),z:=(if AM.plen ob.p = 0 then ob.z else 1),tg:=0 },⟨rfl,rfl,h.row,h.ids,rfl⟩,?_⟩
  unfold appendV
  simp only [hT,hs,hz,hsrc,hlive,h.row,h.ids,h.p,h.tg]
  rw [if_neg (by simp [hes])]
  have hc:True∧True∧0 + l.length = AM.plen (.pr es l)∧pesz (.pr es l) = es∧roomOk C e (l.length + AM.plen (.pr es m)) = true:=⟨trivial,trivial,by simp [AM.plen],rfl,by simpa [AM.plen] using hroom⟩
  rw [if_pos hc]
  simp only [psub,Nat.zero_add,Nat.le_refl,if_true,List.drop_zero,List.take_length,papp,joinTag,pesz]
  simp [AM.plen]
  rfl
theorem Ev1.newR (hT:Below C T) {args xs:List AV} {lents:List Lent} {fn:Func} {c:Code} {n es:Nat} {l rest:List AV}
    (hF:C.P.funcs[f]? = some fn) (hb:fn.body = some c) (hl:lendArgs C f H 0 args = some (xs,lents)) (hi:idsL xs = []) (hn:xs.length + 1 < gtag) (hri:idsL rest = []) (hrt:tagsL rest = []) (hnt:noTups rest = true) (hpi:idsL l = []) (hpt:tagsL l = [])
    (h:Tells (Rets fun fr H1=>∃ o g ob,resultsV C fr H1 fn.results.toList = some (.sl o 0 n g :: rest)∧H1[o]? = some (some ob)∧Rw (.pr es l) g ob) C T f 0 c (numbered 0 (coerce C xs (paramsOf C f))) []) :
    ∃ ob',Rw (.pr es l) 0 ob'∧Ev1 C f args H (resultV (.sl H.length 0 n 0 :: rest),H ++ [some ob']):=by
  obtain ⟨⟨ex,fr,H1⟩,⟨he,o,g,ob,hr,ho,hw⟩,hrun⟩:=h
  simp only at he hr ho
  subst he
  refine ⟨AM.fresh ob,⟨hw.p,rfl,hw.row,hw.ids,rfl⟩,?_⟩
  have:=Ev1.freshQ (H:=H) hT hF hb hl hi hn hrun (.inr rfl) hr (o:=o) (g:=g) (ob:=ob) (by rw [ids_result (l:=.sl o 0 n g :: rest) hnt];simp [idsL,ids,hri]) (by rw [tags_result (l:=.sl o 0 n g :: rest) hnt];simp [tagsL,tags,hrt]) (by simp [live,ho,hw.g]) hw.ids (by rw [hw.p];exact hpi) (by rw [hw.p];exact hpt) (by simp [tagsOb,hw.ids,hw.p,hw.tg]) hw.tg
  rw [ren_result (w:=.sl H.length 0 n 0) (by simp [ren]) (renL_flat rest hri (fun t ht=>rfl)) (by exact hnt) (by exact hnt)] at this
  exact this
def RoRow (H:Heap) (a:AV) (es:Nat) (l:List AV):Prop :=
  ∃ c p,(p = .pr es l∨(p = .pn∧l = []))∧(c = 0→l = [])∧∀ t,∃ x,lendV H t a = some (.ro c p t,x)
theorem RoRow.ro {c t es:Nat} {l:List AV} (hc:c = 0→l = []):RoRow H (.ro c (.pr es l) t) es l :=
  ⟨c,_,.inl rfl,hc,fun _=>⟨⟨[],[t]⟩,rfl⟩⟩
theorem RoRow.whole {o g es:Nat} {ob:Obj} {l:List AV} (ho:H[o]? = some (some ob)) (h:Rw (.pr es l) g ob):RoRow H (.sl o 0 l.length g) es l:=by
  have hlive:live H o g = some ob:=by simp [live,ho,h.g]
  refine ⟨if ob.z = 0∧AM.plen ob.p = 0 then 0 else 2,.pr es l,.inl rfl,fun h0=>?_,fun t=>⟨⟨[o],[ob.tg]⟩,?_⟩⟩
  · split at h0
    · rename_i hz
      have hm:l.length = 0:=by have:=hz.2;rw [h.p] at this;exact this
      exact List.eq_nil_of_length_eq_zero hm
    · cases h0
  · simp only [lendV,lend1,hlive,h.ids,h.p,psub]
    simp
theorem args_row {i es:Nat} {a:AV} {l:List AV} {r as:List AV} {xs:List Lent} (hrw:C.rw f i = false) (h:RoRow H a es l) (hr:lendArgs C f H (i + 1) r = some (as,xs)) :
    ∃ c p x,(p = .pr es l∨(p = .pn∧l = []))∧(c = 0→l = [])∧lendArgs C f H i (a :: r) = some (.ro c p (i + 1) :: as,x :: xs):=by
  obtain ⟨c,p,hp,hc,hl⟩:=h
  obtain ⟨x,hx⟩:=hl (i + 1)
  exact ⟨c,p,x,hp,hc,by simp only [lendArgs,hrw,hx,hr]⟩
end
end Go.AM
namespace Go.AM
def freePairs (b:Array Nat) (n:Nat):List (Nat × Nat) :=
  (List.range n).flatMap fun j=>(List.range j).filterMap fun i=>if (b.getD j 0).testBit i then none else some (i,j)
def bearP (ms:List Mark) (p:Nat × Nat):Bool:=match ms[p.1]?,ms[p.2]? with | some x,some y=>bear x y | _,_=>false
theorem marksOk_of {b:Array Nat} {ms:List Mark} {ps:List (Nat × Nat)} (h:freePairs b ms.length = ps) (h2:ps.all (bearP ms) = true):marksOk b ms = true:=by
  unfold marksOk
  rw [List.all_eq_true]
  intro j hj
  rw [List.all_eq_true]
  intro i hi
  cases hb:(b.getD j 0).testBit i with
  | true=>rfl
  | false =>
    rw [Bool.false_or]
    subst h
    have:=List.all_eq_true.1 h2 (i,j) (by
      unfold freePairs
      rw [List.mem_flatMap]
      exact ⟨j,hj,List.mem_filterMap.2 ⟨i,hi,by rw [hb];rfl⟩⟩)
    exact this
end Go.AM
namespace Go.AM
section
variable {C:Ctx} {f:Nat} {H:Heap} {T:Cf}
theorem Ev1.boxL (hT:Below C T) {o g:Nat} {ob ob1:Obj} {xs:List AV} {fn:Func} {c:Code} {out:Out} {l:List AV} {rest:Heap} {n t:Nat}
    (hF:C.P.funcs[f]? = some fn) (hb:fn.body = some c) (hrw:∀ i,C.rw f i = false) (ho:H[o]? = some (some ob)) (hg:ob.g = g) (hi:ids ob.p = [])
    (hx:xs.all flatV = true) (hn:xs.length + 2 = n) (hng:n < gtag)
    (hj:joinTags (tagsOb ob) = some t)
    (he:Run C T f 1 c (numbered 0 (coerce C (xs ++ [.ptr 0 0 0 0]) (paramsOf C f))) [some { ob with p:=rt n ob.p,g:=0,tg:=n }] out)
    (hex:out.ex = .normal∨out.ex = .ret) (hr:resultsV C out.fr out.H fn.results.toList = some l)
    (hH:out.H = some ob1 :: rest) (hid1:ob1.ids = true) (hi1:ids ob1.p = []) (hv:ids (resultV l) = [])
    (hu:∀ k ∈ tags (resultV l) ++ tagsOb ob1,k = 0∨k = n) (ht1:ob1.tg = 0∨ob1.tg = n) :
    Ev1 C f (xs ++ [.ptr o 0 0 g]) H (ren (fun _ _=>none) (bk n t) (resultV l),upd H o (some { ob1 with p:=ren (fun _ _=>none) (bk n t) ob1.p,g:=g + (if ob1.g = 0 then 0 else 1),tg:=bk n t ob1.tg })):=by
  have hlive:live H o g = some ob:=by simp [live,ho,hg]
  have hat:obAt H o = some ob:=by simp [obAt,ho]
  have hxi:=flats_ids hx
  have hl':=lendArgs_flats (H:=H) hrw (o:=o) (g:=g) (i:=0) hx
  have hids:idsL (xs ++ [.ptr o 0 0 g]) = [o]:=by rw [idsL_app,hxi.1];rfl
  have hre:reach H reachFuel (idsL (xs ++ [.ptr o 0 0 g])) [] = [o]:=by
    rw [hids]
    exact reach_box ho hi
  have hin:intoN H [o] o g = some (0,0):=by simp [intoN,hlive,idxOf]
  have hn0:0 < n:=by omega
  refine Ev1.of (out:=out) (l:=l) hT hF hb hl' ?_ ?_ hex hr ?_
  · rw [hre]
    simp only [Bool.and_eq_true,decide_eq_true_eq,List.length_append,List.length_cons,List.length_nil]
    refine ⟨List.all_eq_true.2 fun x hx=>?_,by omega⟩
    rw [List.mem_replicate] at hx
    rw [hx.2];rfl
  · rw [hre]
    have e1:renL (intoN H [o]) (fun t=>t) (xs ++ [.ptr o 0 0 g]) = xs ++ [.ptr 0 0 0 0]:=by
      rw [renL_app,renL_flat xs hxi.1 (fun _ _=>rfl)]
      simp [renL,ren,hin]
    have e2:([o].map fun o'=>(obAt H o').map (renObj (intoN H [o]) (fun _=>(xs ++ [AV.ptr o 0 0 g]).length + 1) 0)) = [some { ob with p:=rt n ob.p,g:=0,tg:=n }]:=by
      simp only [List.map_cons,List.map_nil,hat,Option.map_some,renObj,List.length_append,List.length_cons,List.length_nil]
      rw [show xs.length + (0 + 1) + 1 = n by omega]
      have e:ren (intoN H [o]) (fun _=>n) ob.p = rt n ob.p:=ren_same ob.p (fun o g h=>by rw [hi] at h;cases h) (fun _ _=>rfl)
      rw [e]
    rw [e1,e2]
    exact he
  · rw [hre]
    unfold wrap
    have h0:out.H[0]? = some (some ob1):=by rw [hH];rfl
    have hat1:obAt out.H 0 = some ob1:=by simp [obAt,h0]
    have hre1:reach out.H reachFuel (List.range [o].length ++ ids (resultV l)) [] = [0]:=by
      rw [hv]
      exact reach_box h0 hi1
    have hbt:∀ k,k = 0∨k = n→backTag (List.replicate (xs.length + 1) ⟨[],[]⟩ ++ [⟨[],tagsObjs ([o].map (obAt H))⟩]) k = some (bk n t k):=by
      rintro k (rfl | rfl)
      · unfold backTag bk
        rw [if_pos rfl,if_neg (by omega)]
      · unfold backTag bk
        rw [if_neg (by omega),if_pos rfl]
        rw [List.getElem?_append_right (by simp;omega)]
        simp [show k - 1 - (xs.length + 1) = 0 by omega,tagsObjs,hat,hj]
    have hgo:∀ k,k = 0∨k = n→goneOf (List.replicate (xs.length + 1) ⟨[],[]⟩ ++ [⟨[],tagsObjs ([o].map (obAt H))⟩]) k = []:=by
      rintro k (rfl | rfl)
      · rfl
      · unfold goneOf
        rw [if_neg (by omega)]
        rw [List.getElem?_append_right (by simp;omega)]
        simp [show k - 1 - (xs.length + 1) = 0 by omega]
    generalize (List.replicate (xs.length + 1) ⟨[],[]⟩ ++ [⟨[],tagsObjs ([o].map (obAt H))⟩]:List Lent) = L at *
    have hbT:∀ k,k = 0∨k = n→backT L k = bk n t k:=fun k hk=>by unfold backT;rw [hbt k hk];rfl
    simp only [hre1]
    rw [show ([0].filter fun o'=>decide ([o].length≤o')) = [] from rfl]
    have hus:(tags (resultV l) ++ tagsObjs ((List.range [o].length).map (obAt out.H)) ++ tagsObjs (([]:List Nat).map (obAt out.H))) = tags (resultV l) ++ tagsOb ob1:=by
      simp [tagsObjs,hat1,List.range_succ]
    rw [hus]
    rw [if_pos (List.all_eq_true.2 fun k hk=>by rw [hbt k (hu k hk)];rfl)]
    rw [show (tags (resultV l) ++ tagsOb ob1).flatMap (goneOf L) = [] from List.flatMap_eq_nil_iff.2 fun k hk=>hgo k (hu k hk)]
    simp only [strike,List.map_nil,List.append_nil,putBack,hat1,Option.map_some,Option.some.injEq,Prod.mk.injEq]
    refine ⟨ren_same _ (fun o g h=>by rw [hv] at h;cases h) (fun k hk=>hbT k (hu k (List.mem_append_left _ hk))),?_⟩
    have hgb:genBack H [o] 0 ob1.g = g + (if ob1.g = 0 then 0 else 1):=by simp [genBack,hat,hg]
    rw [hgb]
    congr 2
    simp only [renObj]
    rw [hbT _ ht1]
    congr 1
    refine ren_same _ (fun o g h=>by rw [hi1] at h;cases h) fun k hk=>?_
    unfold tagsOb at hu
    rw [if_pos hid1] at hu
    exact hbT k (hu k (List.mem_append_right _ hk))
end
end Go.AM
namespace Go.AM
section
variable {C:Ctx} {f:Nat} {H:Heap} {T:Cf}
theorem Ev1.boxLNew (hT:Below C T) {o g:Nat} {ob ob1:Obj} {xs:List AV} {fn:Func} {c:Code} {out:Out} {l:List AV} {rest:Heap} {n t o1 g1:Nat} {ob2:Obj}
    (hF:C.P.funcs[f]? = some fn) (hb:fn.body = some c) (hrw:∀ i,C.rw f i = false) (ho:H[o]? = some (some ob)) (hg:ob.g = g) (hi:ids ob.p = [])
    (hx:xs.all flatV = true) (hn:xs.length + 2 = n) (hng:n < gtag)
    (hj:joinTags (tagsOb ob) = some t)
    (he:Run C T f 1 c (numbered 0 (coerce C (xs ++ [.ptr 0 0 0 0]) (paramsOf C f))) [some { ob with p:=rt n ob.p,g:=0,tg:=n }] out)
    (hex:out.ex = .normal∨out.ex = .ret) (hr:resultsV C out.fr out.H fn.results.toList = some l)
    (hH:out.H = some ob1 :: rest) (hid1:ob1.ids = true) (hi1:ids ob1.p = []) (hv:ids (resultV l) = [o1]) (ho1:live out.H o1 g1 = some ob2) (hne:o1 ≠ 0) (hid2:ob2.ids = false) (hp2:plainP ob2.p = true) (htg2:ob2.tg = 0)
    (hu:∀ k ∈ tags (resultV l) ++ tagsOb ob1,k = 0∨k = n) (ht1:ob1.tg = 0∨ob1.tg = n) :
    Ev1 C f (xs ++ [.ptr o 0 0 g]) H (ren (fun o' g'=>if o' = o1∧g' = g1 then some (H.length,0) else none) (bk n t) (resultV l),upd H o (some { ob1 with p:=ren (fun _ _=>none) (bk n t) ob1.p,g:=g + (if ob1.g = 0 then 0 else 1),tg:=bk n t ob1.tg }) ++ [some (AM.fresh ob2)]):=by
  have hlive:live H o g = some ob:=by simp [live,ho,hg]
  have hat:obAt H o = some ob:=by simp [obAt,ho]
  have hxi:=flats_ids hx
  have hl':=lendArgs_flats (H:=H) hrw (o:=o) (g:=g) (i:=0) hx
  have hids:idsL (xs ++ [.ptr o 0 0 g]) = [o]:=by rw [idsL_app,hxi.1];rfl
  have hre:reach H reachFuel (idsL (xs ++ [.ptr o 0 0 g])) [] = [o]:=by
    rw [hids]
    exact reach_box ho hi
  have hin:intoN H [o] o g = some (0,0):=by simp [intoN,hlive,idxOf]
  have hn0:0 < n:=by omega
  refine Ev1.of (out:=out) (l:=l) hT hF hb hl' ?_ ?_ hex hr ?_
  · rw [hre]
    simp only [Bool.and_eq_true,decide_eq_true_eq,List.length_append,List.length_cons,List.length_nil]
    refine ⟨List.all_eq_true.2 fun x hx=>?_,by omega⟩
    rw [List.mem_replicate] at hx
    rw [hx.2];rfl
  · rw [hre]
    have e1:renL (intoN H [o]) (fun t=>t) (xs ++ [.ptr o 0 0 g]) = xs ++ [.ptr 0 0 0 0]:=by
      rw [renL_app,renL_flat xs hxi.1 (fun _ _=>rfl)]
      simp [renL,ren,hin]
    have e2:([o].map fun o'=>(obAt H o').map (renObj (intoN H [o]) (fun _=>(xs ++ [AV.ptr o 0 0 g]).length + 1) 0)) = [some { ob with p:=rt n ob.p,g:=0,tg:=n }]:=by
      simp only [List.map_cons,List.map_nil,hat,Option.map_some,renObj,List.length_append,List.length_cons,List.length_nil]
      rw [show xs.length + (0 + 1) + 1 = n by omega]
      have e:ren (intoN H [o]) (fun _=>n) ob.p = rt n ob.p:=ren_same ob.p (fun o g h=>by rw [hi] at h;cases h) (fun _ _=>rfl)
      rw [e]
    rw [e1,e2]
    exact he
  · rw [hre]
    unfold wrap
    have h0:out.H[0]? = some (some ob1):=by rw [hH];rfl
    have hat1:obAt out.H 0 = some ob1:=by simp [obAt,h0]
    obtain ⟨h1,h2⟩:=live_iff.1 ho1
    have hre1:reach out.H reachFuel (List.range [o].length ++ ids (resultV l)) [] = [0,o1]:=by
      rw [hv]
      exact reach_box2 h0 hi1 h1 (plainP_ids hp2) hne
    have hat2:obAt out.H o1 = some ob2:=by simp [obAt,h1]
    have hbt:∀ k,k = 0∨k = n→backTag (List.replicate (xs.length + 1) ⟨[],[]⟩ ++ [⟨[],tagsObjs ([o].map (obAt H))⟩]) k = some (bk n t k):=by
      rintro k (rfl | rfl)
      · unfold backTag bk
        rw [if_pos rfl,if_neg (by omega)]
      · unfold backTag bk
        rw [if_neg (by omega),if_pos rfl]
        rw [List.getElem?_append_right (by simp;omega)]
        simp [show k - 1 - (xs.length + 1) = 0 by omega,tagsObjs,hat,hj]
    have hgo:∀ k,k = 0∨k = n→goneOf (List.replicate (xs.length + 1) ⟨[],[]⟩ ++ [⟨[],tagsObjs ([o].map (obAt H))⟩]) k = []:=by
      rintro k (rfl | rfl)
      · rfl
      · unfold goneOf
        rw [if_neg (by omega)]
        rw [List.getElem?_append_right (by simp;omega)]
        simp [show k - 1 - (xs.length + 1) = 0 by omega]
    generalize (List.replicate (xs.length + 1) ⟨[],[]⟩ ++ [⟨[],tagsObjs ([o].map (obAt H))⟩]:List Lent) = L at *
    have hbT:∀ k,k = 0∨k = n→backT L k = bk n t k:=fun k hk=>by unfold backT;rw [hbt k hk];rfl
    simp only [hre1]
    rw [show ([0,o1].filter fun o'=>decide ([o].length≤o')) = [o1] by
      simp only [List.length_cons,List.length_nil]
      rw [List.filter_cons_of_neg (by simp),List.filter_cons_of_pos (by simp;omega),List.filter_nil]]
    have hus:(tags (resultV l) ++ tagsObjs ((List.range [o].length).map (obAt out.H)) ++ tagsObjs ([o1].map (obAt out.H))) = tags (resultV l) ++ tagsOb ob1 ++ [0]:=by
      have:tagsOb ob2 = [0]:=by unfold tagsOb;rw [hid2,htg2];cases hq:ob2.p <;> simp [hq,plainP] at hp2 <;> simp
      simp [tagsObjs,hat1,hat2,this,List.range_succ]
    rw [hus]
    have hu2:∀ k ∈ tags (resultV l) ++ tagsOb ob1 ++ [0],k = 0∨k = n:=fun k hk=>by
      rcases List.mem_append.1 hk with hk | hk
      · exact hu k hk
      · simp at hk;exact .inl hk
    rw [if_pos (List.all_eq_true.2 fun k hk=>by rw [hbt k (hu2 k hk)];rfl)]
    rw [show (tags (resultV l) ++ tagsOb ob1 ++ ([0]:List Nat)).flatMap (goneOf L) = [] from List.flatMap_eq_nil_iff.2 fun k hk=>hgo k (hu2 k hk)]
    simp only [strike,List.map_cons,List.map_nil,putBack,hat1,hat2,Option.map_some,Option.some.injEq,Prod.mk.injEq]
    have hrho:∀ o' g',o' ∈ [o1]→backN H [o] [o1] out.H o' g' = if o' = o1∧g' = g1 then some (H.length,0) else none:=by
      intro o' g' hm
      simp only [List.mem_singleton] at hm
      subst hm
      unfold backN
      by_cases hgg:g' = g1
      · subst hgg
        rw [ho1]
        have:¬ (o' < [o].length):=by simp;omega
        simp only [if_neg this]
        simp [idxOf]
      · have:live out.H o' g' = none:=by
          simp only [live,h1]
          rw [if_neg (fun e=>hgg (e.symm.trans h2))]
        rw [this]
        simp [hgg]
    refine ⟨ren_same _ (fun o' g' h=>hrho o' g' (by rw [← hv];exact h)) (fun k hk=>hbT k (hu k (List.mem_append_left _ hk))),?_⟩
    have hgb:genBack H [o] 0 ob1.g = g + (if ob1.g = 0 then 0 else 1):=by simp [genBack,hat,hg]
    rw [hgb]
    have e2:renObj (backN H [o] [o1] out.H) (backT L) 0 ob2 = AM.fresh ob2:=by
      simp only [renObj,plainP_ren hp2,AM.fresh,htg2,hbT 0 (.inl rfl)]
      unfold bk;rw [if_neg (by omega)]
    rw [e2]
    congr 3
    simp only [renObj]
    rw [hbT _ ht1]
    congr 1
    refine ren_same _ (fun o g h=>by rw [hi1] at h;cases h) fun k hk=>?_
    unfold tagsOb at hu
    rw [if_pos hid1] at hu
    exact hbT k (hu k (List.mem_append_right _ hk))
end
end Go.AM
namespace Go.AM
section
variable {C:Ctx} {f:Nat} {H:Heap} {T:Cf}
theorem Ev1.rwS (hT:Below C T) {o off len g:Nat} {ob ob1:Obj} {xs ys:List AV} {lents:List Lent} {fn:Func} {c:Code} {out:Out} {l:List AV} {restH:Heap} {n:Nat}
    (hF:C.P.funcs[f]? = some fn) (hb:fn.body = some c) (hrw:C.rw f 0 = true) (ho:H[o]? = some (some ob)) (hg:ob.g = g) (hid:ob.ids = false) (hp:plainP ob.p = true)
    (hl:lendArgs C f H 1 xs = some (ys,lents)) (hiy:idsL ys = []) (hob:lents.all (fun x=>disjoint x.objs [o]) = true) (hn:ys.length + 2 = n) (hng:n < gtag)
    (he:Run C T f 1 c (numbered 0 (coerce C (.sl 0 off len 0 :: ys) (paramsOf C f))) [some { ob with g:=0,tg:=n }] out)
    (hex:out.ex = .normal∨out.ex = .ret) (hr:resultsV C out.fr out.H fn.results.toList = some l)
    (hH:out.H = some ob1 :: restH) (hg1:ob1.g = 0) (hid1:ob1.ids = false) (hp1:plainP ob1.p = true) (htg1:ob1.tg = 0∨ob1.tg = n) (hids:ids (resultV l) = []) (htags:tags (resultV l) = []) :
    Ev1 C f (.sl o off len g :: xs) H (resultV l,upd H o (some { ob1 with g:=g,tg:=bk n ob.tg ob1.tg })):=by
  have hi:ids ob.p = []:=plainP_ids hp
  have hi1:ids ob1.p = []:=plainP_ids hp1
  have hren:∀ (ρ:Nat→Nat→Option (Nat × Nat)) (τ:Nat→Nat),ren ρ τ ob.p = ob.p:=fun ρ τ=>plainP_ren hp
  have hren1:∀ (ρ:Nat→Nat→Option (Nat × Nat)) (τ:Nat→Nat),ren ρ τ ob1.p = ob1.p:=fun ρ τ=>plainP_ren hp1
  have hlive:live H o g = some ob:=by simp [live,ho,hg]
  have hat:obAt H o = some ob:=by simp [obAt,ho]
  have hl':=lendArgs_rw (o:=o) (off:=off) (len:=len) (g:=g) hrw hl
  have hre:reach H reachFuel (idsL (.sl o off len g :: ys)) [] = [o]:=by
    rw [show idsL (.sl o off len g :: ys) = [o] by simp [idsL,ids,hiy]]
    exact reach_box ho hi
  have hin:intoN H [o] o g = some (0,0):=by simp [intoN,hlive,idxOf]
  have hlen:=lendArgs_len hl
  have hn0:0 < n:=by omega
  have hto:tagsOb ob = [ob.tg]:=by
    unfold tagsOb
    rw [hid]
    cases hpp:ob.p <;> rw [hpp] at hp <;> simp [plainP] at hp <;> rfl
  have hto1:tagsOb ob1 = [ob1.tg]:=by
    unfold tagsOb
    rw [hid1]
    cases hpp:ob1.p <;> rw [hpp] at hp1 <;> simp [plainP] at hp1 <;> rfl
  refine Ev1.of (out:=out) (l:=l) hT hF hb hl' ?_ ?_ hex hr ?_
  · rw [hre]
    simp only [List.all_cons,Bool.and_eq_true,decide_eq_true_eq,List.length_cons]
    exact ⟨⟨rfl,hob⟩,by omega⟩
  · rw [hre]
    have e1:renL (intoN H [o]) (fun t=>t) (.sl o off len g :: ys) = .sl 0 off len 0 :: ys:=by
      simp only [renL,ren,hin]
      rw [renL_flat ys hiy (fun _ _=>rfl)]
    have e2:([o].map fun o'=>(obAt H o').map (renObj (intoN H [o]) (fun _=>(AV.sl o off len g :: ys).length + 1) 0)) = [some { ob with g:=0,tg:=n }]:=by
      simp only [List.map_cons,List.map_nil,hat,Option.map_some,renObj,List.length_cons]
      rw [show ys.length + 1 + 1 = n by omega,hren]
    rw [e1,e2]
    exact he
  · rw [hre]
    unfold wrap
    have h0:out.H[0]? = some (some ob1):=by rw [hH];rfl
    have hat1:obAt out.H 0 = some ob1:=by simp [obAt,h0]
    have hlive1:live out.H 0 0 = some ob1:=by simp [live,h0,hg1]
    have hre1:reach out.H reachFuel (List.range [o].length ++ ids (resultV l)) [] = [0]:=by
      rw [hids,List.append_nil]
      exact reach_box h0 hi1
    have hbt:∀ k,k = 0∨k = n→backTag (⟨[],[]⟩ :: lents ++ [⟨[],tagsObjs ([o].map (obAt H))⟩]) k = some (bk n ob.tg k):=by
      rintro k (rfl | rfl)
      · unfold backTag bk
        rw [if_pos rfl,if_neg (by omega)]
      · unfold backTag bk
        rw [if_neg (by omega),if_pos rfl]
        rw [List.cons_append,show k - 1 = (k - 2) + 1 by omega,List.getElem?_cons_succ,List.getElem?_append_right (by omega),show k - 2 - lents.length = 0 by omega]
        simp [tagsObjs,hat,hto,joinTags,joinTag]
        omega
    have hgo:∀ k,k = 0∨k = n→goneOf (⟨[],[]⟩ :: lents ++ [⟨[],tagsObjs ([o].map (obAt H))⟩]) k = []:=by
      rintro k (rfl | rfl)
      · rfl
      · unfold goneOf
        rw [if_neg (by omega)]
        rw [List.cons_append,show k - 1 = (k - 2) + 1 by omega,List.getElem?_cons_succ,List.getElem?_append_right (by omega),show k - 2 - lents.length = 0 by omega]
        rfl
    generalize (⟨[],[]⟩ :: lents ++ [⟨[],tagsObjs ([o].map (obAt H))⟩]:List Lent) = L at *
    have hbT:backT L ob1.tg = bk n ob.tg ob1.tg:=by unfold backT;rw [hbt _ htg1];rfl
    simp only [hre1]
    rw [show ([0].filter fun o'=>decide ([o].length≤o')) = [] from rfl]
    have hus:(tags (resultV l) ++ tagsObjs ((List.range [o].length).map (obAt out.H)) ++ tagsObjs (([]:List Nat).map (obAt out.H))) = [ob1.tg]:=by
      simp [tagsObjs,hat1,List.range_succ,htags,hto1]
    rw [hus]
    rw [if_pos (by simp [hbt _ htg1])]
    rw [show [ob1.tg].flatMap (goneOf L) = [] by simp [hgo _ htg1]]
    simp only [strike,List.map_nil,List.append_nil,putBack,hat1,Option.map_some,Option.some.injEq,Prod.mk.injEq]
    have hgb:genBack H [o] 0 0 = g:=by simp [genBack,hat,hg]
    refine ⟨ren_flat _ hids (fun k hk=>by rw [htags] at hk;cases hk),?_⟩
    rw [hg1,hgb]
    simp only [renObj,hren1,hbT]
end
end Go.AM
