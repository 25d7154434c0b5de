/- VK to VR: texts of this claim, one behind the other; what each shows stands at its head. -/
import Derived.Test.YtafdnpcamepbmaaGreatDoorMg2
set_option linter.unusedSimpArgs false
set_option linter.unusedVariables false
set_option maxRecDepth 100000
set_option maxHeartbeats 8000000
namespace Go.Proofs.YtafdnpcamepbmaaGreatDoor
open Go.AM
theorem bsL4 (H:AM.Heap):buildSliceV X H 88 4 [(0,.int .i64 0),(1,.int .i64 4),(2,.int .i64 7),(3,.int .i64 11)] = some (.ro 1 (.pi .i64 [0,4,7,11]) 0,H):=by kernel_rfl
theorem bsL3 (H:AM.Heap):buildSliceV X H 88 3 [(0,.int .i64 0),(1,.int .i64 8),(2,.int .i64 12)] = some (.ro 1 (.pi .i64 [0,8,12]) 0,H):=by kernel_rfl
section
variable (c:Nat) (b:List UInt8) (t:Nat)
theorem rw_code (hc:c = 0→b = []) (ht:t < 256) (hbm:b.length≤90000000) :
    ∃ code,Tryz.f42.body = some code ∧
    Tells (Rets fun fr H=>getF fr 4 = .ptr 0 0 0 0∧H[0]? = some (some (whO (rdW b t).1))∧getF fr 5 = .int .i64 ((rdW b t).2.1:Nat)∧getF fr 6 = .int .i64 (rdW b t).2.2) X (evT X) 42 0 code
      [(0,.ro c (.pb b) 1),(1,.int .u8 (t:Nat))] []:=by
  refine ⟨_,rfl,?_⟩
  apply Tells.seq (fr':=[(0,.ro c (.pb b) 1),(1,.int .u8 (t:Nat)),(4,.ptr 0 0 0 0)]) (H':=[some (whO {})])
  · (refine ⟨0,?_⟩;simp (maxSteps:=2000000) -implicitDefEqProofs [-getElem?_pos,go_sem,eqV,plen,whO,Wh.pay])
  apply Tells.seq (fr':=[(0,.ro c (.pb b) 1),(1,.int .u8 (t:Nat)),(4,.ptr 0 0 0 0),(7,.ptr 1 0 0 0)]) (H':=[some (whO {}),some (whO {})])
  · (refine ⟨0,?_⟩;simp (maxSteps:=2000000) -implicitDefEqProofs [-getElem?_pos,go_sem,eqV,plen,whO,Wh.pay])
  apply Tells.assoc
  by_cases hb0:b.length = 0
  · have hr:rdW b t = ({},0,4):=if_pos hb0
    rw [hr]
    refine Tells.of (o:=⟨.ret,[(4,.ptr 0 0 0 0),(5,.int .i64 0),(6,.int .i64 4)],[some (whO {}),some (whO {})]⟩) ⟨0,?_⟩ ⟨rfl,rfl,rfl,rfl,rfl⟩
    simp (maxSteps:=2000000) -implicitDefEqProofs [-getElem?_pos,go_sem,eqV,plen,whO,Wh.pay,mkWh,hb0,flatCells,splice,scalars]
  have hb0i:((b.length:Int) == 0) = false:=beq_eq_false_iff_ne.2 (by omega)
  apply Tells.seq (fr':=[(0,.ro c (.pb b) 1),(1,.int .u8 (t:Nat)),(4,.ptr 0 0 0 0),(7,.ptr 1 0 0 0),(17,.bool false)]) (H':=[some (whO {}),some (whO {})])
  · (refine ⟨0,?_⟩;simp (maxSteps:=2000000) -implicitDefEqProofs [-getElem?_pos,go_sem,eqV,plen,hb0i])
  apply Tells.seq (fr':=[(0,.ro c (.pb b) 1),(1,.int .u8 (t:Nat)),(4,.ptr 0 0 0 0),(7,.ptr 1 0 0 0),(17,.bool false)]) (H':=[some (whO {}),some (whO {})])
  · exact condF (by simp [evalO,getF]) ⟨0,rfl⟩
  obtain ⟨y,ys,hby⟩:∃ y ys,b = y :: ys:=by
    cases b with
    | nil=>simp at hb0
    | cons y ys=>exact ⟨y,ys,rfl⟩
  have hyh:(b.headD 0).toNat = y.toNat:=by rw [hby];rfl
  have hy0:b[0]? = some y:=by rw [hby];rfl
  have hyl:=y.toNat_lt
  have wy:IntKind.i64.wrap (y.toNat:Int) = (y.toNat:Int):=wrap_i64 (by omega) (by omega)
  have hbpos:(0:Int) < (b.length:Int):=by omega
  have hbposN:0 < b.length:=by omega
  apply Tells.seq (fr':=[(0,.ro c (.pb b) 1),(1,.int .u8 (t:Nat)),(4,.ptr 0 0 0 0),(7,.ptr 1 0 0 0),(8,.int .i64 (y.toNat:Nat))]) (H':=[some (whO {}),some (whO {})])
  · (refine ⟨0,?_⟩;simp (maxSteps:=2000000) -implicitDefEqProofs [-getElem?_pos,go_sem,eqV,plen,hy0,wy,hbpos,hbposN])
  apply Tells.seq (fr':=[(0,.ro c (.pb b) 1),(1,.int .u8 (t:Nat)),(4,.ptr 0 0 0 0),(7,.ptr 1 0 0 0),(8,.int .i64 (y.toNat:Nat)),(9,.ro 1 (.pi .i64 [0,4,7,11]) 0)]) (H':=[some (whO {}),some (whO {})])
  · have h4:=fun H=>bsL4 H
    generalize ([0,4,7,11]:List Int) = L at *
    (refine ⟨0,?_⟩;simp (maxSteps:=2000000) -implicitDefEqProofs [-getElem?_pos,go_sem,eqV,plen,h4])
  apply Tells.andThen (P:=fun fr H=>H = [some (whO {}),some (whO {})]∧∃ tl,fr = [(0,.ro c (.pb b) 1),(1,.int .u8 (t:Nat)),(4,.ptr 0 0 0 0),(7,.ptr 1 0 0 0),(8,.int .i64 (y.toNat:Nat)),(9,.ro 1 (.pi .i64 (szL t)) 0)] ++ tl)
  · by_cases h11:t = 11
    · subst h11
      refine Tells.of (o:=⟨.normal,[(0,.ro c (.pb b) 1),(1,.int .u8 11),(4,.ptr 0 0 0 0),(7,.ptr 1 0 0 0),(8,.int .i64 (y.toNat:Nat)),(9,.ro 1 (.pi .i64 [0,8,12]) 0)],_⟩) ⟨0,?_⟩ ⟨rfl,rfl,[],rfl⟩
      have h3:=fun H=>bsL3 H
      generalize ([0,8,12]:List Int) = L at *
      generalize ([0,4,7,11]:List Int) = L2 at *
      simp (maxSteps:=2000000) -implicitDefEqProofs [-getElem?_pos,go_sem,eqV,plen,h3]
    · have h11b:((t:Int) == 11) = false:=beq_eq_false_iff_ne.2 (by omega)
      refine Tells.of (o:=⟨.normal,[(0,.ro c (.pb b) 1),(1,.int .u8 (t:Nat)),(4,.ptr 0 0 0 0),(7,.ptr 1 0 0 0),(8,.int .i64 (y.toNat:Nat)),(9,.ro 1 (.pi .i64 [0,4,7,11]) 0),(25,.bool false)],_⟩) ⟨0,?_⟩ ⟨rfl,rfl,[(25,.bool false)],by unfold szL;rw [if_neg h11];rfl⟩
      generalize ([0,4,7,11]:List Int) = L2 at *
      simp (maxSteps:=2000000) -implicitDefEqProofs [-getElem?_pos,go_sem,eqV,plen,h11b]
  rintro fr H ⟨rfl,tl,rfl⟩
  have hszl:(szL t).length≤100:=by unfold szL;split <;> simp
  apply Tells.seq (fr':=[(0,.ro c (.pb b) 1),(1,.int .u8 (t:Nat)),(4,.ptr 0 0 0 0),(7,.ptr 1 0 0 0),(8,.int .i64 (y.toNat:Nat)),(9,.ro 1 (.pi .i64 (szL t)) 0),(10,.bool false)]) (H':=[some (whO {}),some (whO {})])
  · generalize szL t = L at *
    (refine ⟨0,?_⟩;simp (maxSteps:=2000000) -implicitDefEqProofs [-getElem?_pos,go_sem,eqV,plen])
  apply Tells.assoc
  apply Tells.seq (fr':=rwFr c b t y.toNat (szL t) false 0) (H':=[some (whO {}),some (whO {})])
  · unfold rwFr
    generalize szL t = L at *
    (refine ⟨0,?_⟩;simp (maxSteps:=2000000) -implicitDefEqProofs [-getElem?_pos,go_sem,eqV,plen])
  apply Tells.andThen (P:=fun fr H=>H = [some (whO {}),some (whO {})]∧fr = rwFr c b t y.toNat (szL t) ((szL t).any fun x=>(y.toNat:Int) == x) (szL t).length ++ [(30,.bool false)])
  · exact piece (rw_loop c b t y.toNat (szL t) hszl) _ rfl
  rintro fr H ⟨rfl,rfl⟩
  have hkn:((szL t).any fun x=>(y.toNat:Int) == x) = knW (b.headD 0).toNat t:=by rw [hyh];rfl
  rw [hkn]
  apply Tells.assoc
  cases hk:knW (b.headD 0).toNat t with
  | false =>
    have hr:rdW b t = ({},0,5):=by unfold rdW;rw [if_neg hb0,if_pos hk]
    rw [hr]
    refine Tells.of (o:=⟨.ret,[(4,.ptr 0 0 0 0),(5,.int .i64 0),(6,.int .i64 5)],[some (whO {}),some (whO {})]⟩) ⟨0,?_⟩ ⟨rfl,rfl,rfl,rfl,rfl⟩
    unfold rwFr
    generalize szL t = L at *
    simp (maxSteps:=2000000) -implicitDefEqProofs [-getElem?_pos,go_sem,eqV,plen,whO,Wh.pay,mkWh,flatCells,splice,scalars]
  | true =>
  apply Tells.seq (fr':=[(0,.ro c (.pb b) 1),(1,.int .u8 (t:Nat)),(4,.ptr 0 0 0 0),(7,.ptr 1 0 0 0),(8,.int .i64 (y.toNat:Nat)),(41,.bool false)]) (H':=[some (whO {}),some (whO {})])
  · unfold rwFr
    generalize szL t = L at *
    (refine ⟨0,?_⟩;simp (maxSteps:=2000000) -implicitDefEqProofs [-getElem?_pos,go_sem,eqV,plen])
  apply Tells.seq (fr':=[(0,.ro c (.pb b) 1),(1,.int .u8 (t:Nat)),(4,.ptr 0 0 0 0),(7,.ptr 1 0 0 0),(8,.int .i64 (y.toNat:Nat)),(41,.bool false)]) (H':=[some (whO {}),some (whO {})])
  · exact condF (by simp [evalO,getF]) ⟨0,rfl⟩
  apply Tells.assoc
  have w1:IntKind.i64.wrap (1 + (y.toNat:Int)) = ((1 + y.toNat:Nat):Int):=by rw [wrap_i64 (by omega) (by omega)];omega
  by_cases hs:b.length < 1 + (b.headD 0).toNat
  · have hr:rdW b t = ({},0,4):=by unfold rdW;rw [if_neg hb0,if_neg (by rw [hk];simp),if_pos hs]
    rw [hr]
    have hsi:(b.length:Int) < ((1 + y.toNat:Nat):Int):=by omega
    refine Tells.of (o:=⟨.ret,[(4,.ptr 0 0 0 0),(5,.int .i64 0),(6,.int .i64 4)],[some (whO {}),some (whO {})]⟩) ⟨0,?_⟩ ⟨rfl,rfl,rfl,rfl,rfl⟩
    generalize 1 + y.toNat = n1 at *
    simp (maxSteps:=2000000) -implicitDefEqProofs [-getElem?_pos,go_sem,eqV,plen,whO,Wh.pay,mkWh,w1,hsi,flatCells,splice,scalars]
  have hsi:¬ (b.length:Int) < ((1 + y.toNat:Nat):Int):=by omega
  apply Tells.seq (fr':=[(0,.ro c (.pb b) 1),(1,.int .u8 (t:Nat)),(4,.ptr 0 0 0 0),(7,.ptr 1 0 0 0),(8,.int .i64 (y.toNat:Nat)),(47,.bool false)]) (H':=[some (whO {}),some (whO {})])
  · generalize 1 + y.toNat = n1 at *
    (refine ⟨0,?_⟩;simp (maxSteps:=2000000) -implicitDefEqProofs [-getElem?_pos,go_sem,eqV,plen,w1,hsi])
  apply Tells.seq (fr':=[(0,.ro c (.pb b) 1),(1,.int .u8 (t:Nat)),(4,.ptr 0 0 0 0),(7,.ptr 1 0 0 0),(8,.int .i64 (y.toNat:Nat)),(47,.bool false)]) (H':=[some (whO {}),some (whO {})])
  · exact condF (by simp [evalO,getF]) ⟨0,rfl⟩
  have:=piece (rw_end c b t hc ht hb0 hk hs hbm) _ rfl
  rw [hyh] at this
  exact this
end
theorem rw_ev {H:AM.Heap} {a:AV} {b:List UInt8} {t:Nat} (h:Byt H a b) (ht:t < 256) (hbm:b.length≤90000000) :
    evT X 42 [a,.int .u8 (t:Nat)] H = some (.tup [.agg (rdW b t).1.pay,.int .i64 ((rdW b t).2.1:Nat),.int .i64 (rdW b t).2.2],H):=by
  obtain ⟨c,p,xl,hp,hc,hx'⟩:=args_byt (C:=X) (f:=42) (i:=0) rfl h (args_flat (i:=1) (a:=.int .u8 (t:Nat)) rfl rfl (args_nil 2))
  obtain ⟨code,hcode,o,⟨he,q4,q0,q5,q6⟩,hr⟩:=rw_code c b t hc ht hbm
  refine evT_eq (Ev1.toldP (l:=[.agg (rdW b t).1.pay,.int .i64 ((rdW b t).2.1:Nat),.int .i64 (rdW b t).2.2]) (evT_below X) Tryz.func42 hcode hx' (by simp [idsL,ids,hp.ids]) (by simp [gtag]) (by simp [idsL,ids,Wh.pay]) (by simp [tagsL,tags,Wh.pay]) rfl ⟨o,⟨he,?_⟩,by rw [par42,coB hp];exact hr⟩)
  generalize rdW b t = r at *
  show resultsV X o.fr o.H [.cell 4 39,.tmp 5,.tmp 6] = _
  simp only [whO,Wh.pay] at q0
  simp [resultsV,q4,q5,q6,loadV,live,q0,pagg,mkWh,Wh.pay]
end Go.Proofs.YtafdnpcamepbmaaGreatDoor
namespace Go.Proofs.YtafdnpcamepbmaaGreatDoor
open Go.AM
def sgV (x:Int) (n:Nat):Int:=Int.fdiv (IntKind.i64.wrap (IntKind.u64.wrap (x * 2 ^ (64 - 8 * n)))) (2 ^ (64 - 8 * n))
def rdV (b:List UInt8) (t:Ty):Va × Nat × Int :=
  if kindN t.t t.u < 0 then ({},0,2) else if kindN t.t t.u = 0 then ({},0,0) else
  if kindN t.t t.u = 5∨kindN t.t t.u = 6 then (if (rdW b t.t).2.2 ≠ 0 then ({},0,(rdW b t.t).2.2) else ({ k:=kindN t.t t.u,w:=(rdW b t.t).1 },(rdW b t.t).2.1,0)) else
  if kindN t.t t.u = 7 then (if (rdT b).2.2 ≠ 0 then ({},0,(rdT b).2.2) else if 16777216 < (rdT b).1.length then ({},0,5) else ({ k:=7,t:=(rdT b).1 },(rdT b).2.1,0)) else
  if (rfR b (sizeN t.t)).2 ≠ 0 then ({},0,(rfR b (sizeN t.t)).2) else
  if kindN t.t t.u = 1 then ({ k:=1,i:=sgV (rfR b (sizeN t.t)).1 (sizeN t.t) },sizeN t.t,0) else ({ k:=kindN t.t t.u,b:=(rfR b (sizeN t.t)).1.toNat },sizeN t.t,0)
theorem bvV0:buildV X 41 [] = some (.agg (Va.pay {})):=by kernel_rfl
theorem bvVw (k:Int) (w:Wh):buildV X 41 [(0,.int .i64 k),(4,.agg w.pay)] = some (.agg (Va.pay { k:=k,w:=w })):=by
  obtain ⟨neg,y,mo,d,h,mi,s,us⟩:=w
  kernel_rfl
theorem bvVt (k:Int) (s:List UInt8):buildV X 41 [(0,.int .i64 k),(3,.str s)] = some (.agg (Va.pay { k:=k,t:=s })):=by kernel_rfl
theorem bvVi (k i:Int):buildV X 41 [(0,.int .i64 k),(1,.int .i64 i)] = some (.agg (Va.pay { k:=k,i:=i })):=by kernel_rfl
theorem bvVb (k:Int) (x:Nat):buildV X 41 [(0,.int .i64 k),(2,.int .u64 (x:Nat))] = some (.agg (Va.pay { k:=k,b:=x })):=by kernel_rfl
section
variable (c:Nat) (b:List UInt8) (t:Ty)
def rvQ (r:Va × Nat × Int) (fr:AM.Frame) (H:AM.Heap):Prop:=getF fr 4 = .ptr 1 0 0 0∧H[1]? = some (some (vaO r.1))∧getF fr 5 = .int .i64 (r.2.1:Nat)∧getF fr 6 = .int .i64 r.2.2
theorem vread_num (hc:c = 0→b = []) (ht:t.t < 256) (hbm:b.length≤90000000) (hk:kindN t.t t.u = 1∨kindN t.t t.u = 2∨kindN t.t t.u = 3∨kindN t.t t.u = 4) :
    ∃ code,((Tryz.f25.body).bind (codeAt [1,1,1])) = some code ∧
    Tells (Rets (rvQ (rdV b t))) X (evT X) 25 0 code [(0,.ro c (.pb b) 1),(3,.ptr 0 0 0 0),(4,.ptr 1 0 0 0),(7,.int .i64 (kindN t.t t.u)),(45,.bool false)] [some (tyO t),some (vaO {})]:=by
  refine ⟨_,rfl,?_⟩
  have hr:rdV b t = if (rfR b (sizeN t.t)).2 ≠ 0 then ({},0,(rfR b (sizeN t.t)).2) else
      if kindN t.t t.u = 1 then ({ k:=1,i:=sgV (rfR b (sizeN t.t)).1 (sizeN t.t) },sizeN t.t,0) else ({ k:=kindN t.t t.u,b:=(rfR b (sizeN t.t)).1.toNat },sizeN t.t,0):=by
    unfold rdV
    rw [if_neg (by omega),if_neg (by omega),if_neg (by omega),if_neg (by omega)]
  rw [hr]
  have hsz:=size_num (t:=t.t) (u:=t.u) hk
  have hS:=size_ev' ht [some (tyO t),some (vaO {})]
  have hB:Byt [some (tyO t),some (vaO {})] (.ro c (.pb b) 1) b:=Byt.ro (.inl rfl) hc
  have hR:=rf_ev (n:=sizeN t.t) hB hbm
  have hx0:0≤(rfR b (sizeN t.t)).1∧(rfR b (sizeN t.t)).1 < 18446744073709551616:=by
    unfold rfR
    split
    · simp
    · split
      · simp
      · have h:=leV_lt (b.take ((sizeN t.t:Nat):Int).toNat)
        simp only [Int.toNat_natCast] at h ⊢
        have h2:(b.take (sizeN t.t)).length≤8:=by simp;omega
        have h3:256 ^ (b.take (sizeN t.t)).length≤256 ^ 8:=Nat.pow_le_pow_right (by omega) h2
        omega
  generalize hsn:sizeN t.t = n at *
  generalize hrr:rfR b (n:Nat) = r at *
  obtain ⟨x,e⟩:=r
  simp only at *
  obtain ⟨xn,rfl⟩:∃ xn:Nat,x = (xn:Int):=⟨x.toNat,by omega⟩
  apply Tells.seq (fr':=[(0,.ro c (.pb b) 1),(4,.ptr 1 0 0 0),(7,.int .i64 (kindN t.t t.u)),(14,.int .i64 (n:Nat))]) (H':=[some (tyO t),some (vaO {})])
  · simp only [tyO,Ty.pay,vaO,Va.pay,Int.cast_ofNat_Int] at hS
    generalize kindN t.t t.u = k at *
    (refine ⟨0,?_⟩;simp (maxSteps:=2000000) -implicitDefEqProofs [-getElem?_pos,go_sem,eqV,plen,tyO,Ty.pay,vaO,Va.pay,hS])
  apply Tells.seq (fr':=[(4,.ptr 1 0 0 0),(6,.int .i64 e),(7,.int .i64 (kindN t.t t.u)),(14,.int .i64 (n:Nat)),(15,.int .u64 (xn:Nat))]) (H':=[some (tyO t),some (vaO {})])
  · simp only [tyO,Ty.pay,vaO,Va.pay,Int.cast_ofNat_Int] at hR
    generalize kindN t.t t.u = k at *
    (refine ⟨0,?_⟩;simp (maxSteps:=2000000) -implicitDefEqProofs [-getElem?_pos,go_sem,eqV,plen,tyO,Ty.pay,vaO,Va.pay,hR])
  have hb0:=bvV0
  apply Tells.assoc
  by_cases he:e = 0
  case neg =>
    rw [if_pos he]
    have heb:(e != 0) = true:=by simpa using he
    refine Tells.of (o:=⟨.ret,[(4,.ptr 1 0 0 0),(5,.int .i64 0),(6,.int .i64 e)],[some (tyO t),some (vaO {})]⟩) ⟨0,?_⟩ ⟨rfl,rfl,rfl,rfl,rfl⟩
    simp only [Va.pay,Int.cast_ofNat_Int] at hb0
    generalize kindN t.t t.u = k at *
    simp (maxSteps:=2000000) -implicitDefEqProofs [-getElem?_pos,go_sem,eqV,plen,tyO,Ty.pay,vaO,Va.pay,heb,hb0,mkVa,flatCells,splice,scalars]
  rw [if_neg (by simpa using he)]
  subst he
  apply Tells.seq (fr':=[(4,.ptr 1 0 0 0),(6,.int .i64 0),(7,.int .i64 (kindN t.t t.u)),(14,.int .i64 (n:Nat)),(15,.int .u64 (xn:Nat)),(77,.bool false)]) (H':=[some (tyO t),some (vaO {})])
  · generalize kindN t.t t.u = k at *
    (refine ⟨0,?_⟩;simp (maxSteps:=2000000) -implicitDefEqProofs [-getElem?_pos,go_sem,eqV,plen])
  apply Tells.seq (fr':=[(4,.ptr 1 0 0 0),(6,.int .i64 0),(7,.int .i64 (kindN t.t t.u)),(14,.int .i64 (n:Nat)),(15,.int .u64 (xn:Nat)),(77,.bool false)]) (H':=[some (tyO t),some (vaO {})])
  · exact condF (by simp [evalO,getF]) ⟨0,rfl⟩
  apply Tells.assoc
  by_cases hk1:kindN t.t t.u = 1
  · rw [if_pos hk1,hk1]
    apply Tells.seq (fr':=[(4,.ptr 1 0 0 0),(7,.int .i64 1),(14,.int .i64 (n:Nat)),(15,.int .u64 (xn:Nat)),(81,.bool true)]) (H':=[some (tyO t),some (vaO {})])
    · (refine ⟨0,?_⟩;simp (maxSteps:=2000000) -implicitDefEqProofs [-getElem?_pos,go_sem,eqV,plen])
    refine Tells.seqOut (Tells.condT (by simp [evalO,getF]) ?_) (fun o h=>by rw [h.1];simp)
    have w1:IntKind.i64.wrap (8 * (n:Int)) = ((8 * n:Nat):Int):=by rw [wrap_i64 (by omega) (by omega)];omega
    have w2:IntKind.i64.wrap (64 - ((8 * n:Nat):Int)) = ((64 - 8 * n:Nat):Int):=by rw [wrap_i64 (by omega) (by omega)];omega
    have hsg:sgV (xn:Int) n = Int.fdiv (IntKind.i64.wrap (IntKind.u64.wrap ((xn:Int) * 2 ^ (64 - 8 * n)))) (2 ^ (64 - 8 * n)):=rfl
    have hsh0:¬ ((64 - 8 * n:Nat):Int) < 0:=by omega
    have hmin:min (64 - 8 * n) 64 = 64 - 8 * n:=by omega
    generalize hsh:64 - 8 * n = sh at *
    generalize h8:8 * n = n8 at *
    apply Tells.seq (fr':=[(4,.ptr 1 0 0 0),(7,.int .i64 1),(14,.int .i64 (n:Nat)),(15,.int .u64 (xn:Nat)),(16,.int .i64 (sh:Nat))]) (H':=[some (tyO t),some (vaO {})])
    · (refine ⟨0,?_⟩;simp (maxSteps:=2000000) -implicitDefEqProofs [-getElem?_pos,go_sem,eqV,plen,w1,w2])
    have hbi:=fun k i=>bvVi k i
    refine Tells.of (o:=⟨.ret,[(4,.ptr 1 0 0 0),(5,.int .i64 (n:Nat)),(6,.int .i64 0)],[some (tyO t),some (vaO { k:=1,i:=sgV (xn:Int) n })]⟩) ⟨0,?_⟩ ⟨rfl,rfl,rfl,rfl,rfl⟩
    rw [hsg]
    simp only [Va.pay,Int.cast_ofNat_Int] at hbi
    generalize hz:IntKind.u64.wrap ((xn:Int) * 2 ^ sh) = z at *
    generalize hz2:IntKind.i64.wrap z = z2 at *
    simp (maxSteps:=2000000) -implicitDefEqProofs [-getElem?_pos,go_sem,eqV,plen,tyO,Ty.pay,vaO,Va.pay,hsh0,hmin,hz,hz2,hbi,mkVa,flatCells,splice,scalars,show IntKind.u64.bits = 64 from rfl,show IntKind.i64.bits = 64 from rfl]
  · rw [if_neg hk1]
    have hk1b:(kindN t.t t.u == 1) = false:=beq_eq_false_iff_ne.2 hk1
    generalize kindN t.t t.u = k at *
    apply Tells.seq (fr':=[(4,.ptr 1 0 0 0),(7,.int .i64 k),(14,.int .i64 (n:Nat)),(15,.int .u64 (xn:Nat)),(81,.bool false)]) (H':=[some (tyO t),some (vaO {})])
    · (refine ⟨0,?_⟩;simp (maxSteps:=2000000) -implicitDefEqProofs [-getElem?_pos,go_sem,eqV,plen,hk1b])
    apply Tells.seq (fr':=[(4,.ptr 1 0 0 0),(7,.int .i64 k),(14,.int .i64 (n:Nat)),(15,.int .u64 (xn:Nat)),(81,.bool false)]) (H':=[some (tyO t),some (vaO {})])
    · exact condF (by simp [evalO,getF]) ⟨0,rfl⟩
    have hbb:=fun k x=>bvVb k x
    refine Tells.of (o:=⟨.ret,[(4,.ptr 1 0 0 0),(5,.int .i64 (n:Nat)),(6,.int .i64 0)],[some (tyO t),some (vaO { k:=k,b:=xn })]⟩) ⟨0,?_⟩ ⟨rfl,rfl,by simp,rfl,rfl⟩
    simp only [Va.pay,Int.cast_ofNat_Int] at hbb
    simp (maxSteps:=2000000) -implicitDefEqProofs [-getElem?_pos,go_sem,eqV,plen,tyO,Ty.pay,vaO,Va.pay,hbb,mkVa,flatCells,splice,scalars]
end
end Go.Proofs.YtafdnpcamepbmaaGreatDoor
namespace Go.Proofs.YtafdnpcamepbmaaGreatDoor
open Go.AM
section
variable (c:Nat) (b:List UInt8) (t:Ty)
theorem vread_code (hc:c = 0→b = []) (ht:t.t < 256) (hbm:b.length≤90000000) :
    ∃ code,Tryz.f25.body = some code ∧
    Tells (Rets (rvQ (rdV b t))) X (evT X) 25 0 code [(0,.ro c (.pb b) 1),(1,.agg t.pay)] []:=by
  refine ⟨_,rfl,?_⟩
  have hK:=kind_ev ht [some (tyO t),some (vaO {})]
  have hbd:=kind_bd t.t t.u
  have hB:Byt [some (tyO t),some (vaO {})] (.ro c (.pb b) 1) b:=Byt.ro (.inl rfl) hc
  have hb0:=bvV0
  apply Tells.seq (fr':=[(0,.ro c (.pb b) 1),(3,.ptr 0 0 0 0),(4,.ptr 1 0 0 0)]) (H':=[some (tyO t),some (vaO {})])
  · (refine ⟨0,?_⟩;simp (maxSteps:=2000000) -implicitDefEqProofs [-getElem?_pos,go_sem,eqV,plen,tyO,Ty.pay,vaO,Va.pay])
  apply Tells.seq (fr':=[(0,.ro c (.pb b) 1),(3,.ptr 0 0 0 0),(4,.ptr 1 0 0 0),(7,.int .i64 (kindN t.t t.u))]) (H':=[some (tyO t),some (vaO {})])
  · simp only [tyO,Ty.pay,vaO,Va.pay,Int.cast_ofNat_Int] at hK
    generalize kindN t.t t.u = k at *
    (refine ⟨0,?_⟩;simp (maxSteps:=2000000) -implicitDefEqProofs [-getElem?_pos,go_sem,eqV,plen,tyO,Ty.pay,vaO,Va.pay,mkTy,hK])
  clear hK
  apply Tells.assoc
  apply Tells.seq (fr':=[(0,.ro c (.pb b) 1),(3,.ptr 0 0 0 0),(4,.ptr 1 0 0 0),(7,.int .i64 (kindN t.t t.u)),(19,.int .i64 (kindN t.t t.u))]) (H':=[some (tyO t),some (vaO {})])
  · generalize kindN t.t t.u = k at *
    (refine ⟨0,?_⟩;simp (maxSteps:=2000000) -implicitDefEqProofs [-getElem?_pos,go_sem,eqV,plen])
  apply Tells.or (P:=fun fr H=>fr = [(0,.ro c (.pb b) 1),(3,.ptr 0 0 0 0),(4,.ptr 1 0 0 0),(7,.int .i64 (kindN t.t t.u)),(45,.bool false)]∧H = [some (tyO t),some (vaO {})]∧(kindN t.t t.u = 1∨kindN t.t t.u = 2∨kindN t.t t.u = 3∨kindN t.t t.u = 4))
  · apply Tells.blkOr (hq:=fun o h=>by rw [h.1];simp)
    simp only [Va.pay,Int.cast_ofNat_Int] at hb0
    by_cases h1:kindN t.t t.u < 0
    · have hm:kindN t.t t.u = -1:=by omega
      have hr:rdV b t = ({},0,2):=if_pos h1
      rw [hr,hm]
      refine Tells.of (o:=⟨.ret,[(4,.ptr 1 0 0 0),(5,.int .i64 0),(6,.int .i64 2)],[some (tyO t),some (vaO {})]⟩) ⟨0,?_⟩ (.inr ⟨by simp,rfl,rfl,rfl,rfl,rfl⟩)
      simp (maxSteps:=2000000) -implicitDefEqProofs [-getElem?_pos,go_sem,eqV,plen,tyO,Ty.pay,vaO,Va.pay,hb0,mkVa,flatCells,splice,scalars]
    have e1:(kindN t.t t.u == -1) = false:=beq_eq_false_iff_ne.2 (by omega)
    by_cases h2:kindN t.t t.u = 0
    · have hr:rdV b t = ({},0,0):=by unfold rdV;rw [if_neg h1,if_pos h2]
      rw [hr,h2]
      refine Tells.of (o:=⟨.ret,[(4,.ptr 1 0 0 0),(5,.int .i64 0),(6,.int .i64 0)],[some (tyO t),some (vaO {})]⟩) ⟨0,?_⟩ (.inr ⟨by simp,rfl,rfl,rfl,rfl,rfl⟩)
      simp (maxSteps:=2000000) -implicitDefEqProofs [-getElem?_pos,go_sem,eqV,plen,tyO,Ty.pay,vaO,Va.pay,hb0,mkVa,flatCells,splice,scalars]
    have e2:(kindN t.t t.u == 0) = false:=beq_eq_false_iff_ne.2 h2
    by_cases h5:kindN t.t t.u = 5∨kindN t.t t.u = 6
    · have hr:rdV b t = if (rdW b t.t).2.2 ≠ 0 then ({},0,(rdW b t.t).2.2) else ({ k:=kindN t.t t.u,w:=(rdW b t.t).1 },(rdW b t.t).2.1,0):=by
        unfold rdV;rw [if_neg h1,if_neg h2,if_pos h5]
      rw [hr]
      have hW:=rw_ev hB ht hbm
      generalize rdW b t.t = r at *
      obtain ⟨w,n,e⟩:=r
      have hbw:=fun k=>bvVw k w
      simp only [Wh.pay,Va.pay,Int.cast_ofNat_Int] at hbw
      simp only at *
      by_cases he:e = 0
      · subst he
        rw [if_neg (by simp)]
        refine Tells.of (o:=⟨.ret,[(4,.ptr 1 0 0 0),(5,.int .i64 (n:Nat)),(6,.int .i64 0)],[some (tyO t),some (vaO { k:=kindN t.t t.u,w:=w }),some (whO w)]⟩) ⟨0,?_⟩ (.inr ⟨by simp,rfl,rfl,rfl,rfl,rfl⟩)
        simp only [tyO,Ty.pay,vaO,Va.pay,Wh.pay,Int.cast_ofNat_Int] at hW
        rcases h5 with h5 | h5 <;> rw [h5]
        · simp (maxSteps:=2000000) -implicitDefEqProofs [-getElem?_pos,go_sem,eqV,plen,tyO,Ty.pay,vaO,Va.pay,whO,Wh.pay,hW,hbw,mkVa,mkWh,flatCells,splice,scalars]
        · simp (maxSteps:=2000000) -implicitDefEqProofs [-getElem?_pos,go_sem,eqV,plen,tyO,Ty.pay,vaO,Va.pay,whO,Wh.pay,hW,hbw,mkVa,mkWh,flatCells,splice,scalars]
      · have heb:(e != 0) = true:=by simpa using he
        rw [if_pos he]
        refine Tells.of (o:=⟨.ret,[(4,.ptr 1 0 0 0),(5,.int .i64 0),(6,.int .i64 e)],[some (tyO t),some (vaO {}),some (whO w)]⟩) ⟨0,?_⟩ (.inr ⟨by simp,rfl,rfl,rfl,rfl,rfl⟩)
        simp only [tyO,Ty.pay,vaO,Va.pay,Wh.pay,Int.cast_ofNat_Int] at hW
        rcases h5 with h5 | h5 <;> rw [h5]
        · simp (maxSteps:=2000000) -implicitDefEqProofs [-getElem?_pos,go_sem,eqV,plen,tyO,Ty.pay,vaO,Va.pay,whO,Wh.pay,hW,hb0,heb,mkVa,mkWh,flatCells,splice,scalars]
        · simp (maxSteps:=2000000) -implicitDefEqProofs [-getElem?_pos,go_sem,eqV,plen,tyO,Ty.pay,vaO,Va.pay,whO,Wh.pay,hW,hb0,heb,mkVa,mkWh,flatCells,splice,scalars]
    have e5:(kindN t.t t.u == 5) = false:=beq_eq_false_iff_ne.2 (by omega)
    have e6:(kindN t.t t.u == 6) = false:=beq_eq_false_iff_ne.2 (by omega)
    by_cases h7:kindN t.t t.u = 7
    · have hr:rdV b t = if (rdT b).2.2 ≠ 0 then ({},0,(rdT b).2.2) else if 16777216 < (rdT b).1.length then ({},0,5) else ({ k:=7,t:=(rdT b).1 },(rdT b).2.1,0):=by
        unfold rdV;rw [if_neg h1,if_neg h2,if_neg h5,if_pos h7]
      rw [hr,h7]
      have hT:=readText_ev hB hbm
      generalize rdT b = r at *
      obtain ⟨s,n,e⟩:=r
      have hbt:=fun k=>bvVt k s
      simp only [Va.pay,Int.cast_ofNat_Int] at hbt
      simp only at *
      simp only [tyO,Ty.pay,vaO,Va.pay,Int.cast_ofNat_Int] at hT
      by_cases he:e = 0
      · subst he
        rw [if_neg (by simp)]
        by_cases hs:16777216 < s.length
        · rw [if_pos hs]
          have hsi:(16777216:Int) < (s.length:Int):=by omega
          refine Tells.of (o:=⟨.ret,[(4,.ptr 1 0 0 0),(5,.int .i64 0),(6,.int .i64 5)],[some (tyO t),some (vaO {})]⟩) ⟨0,?_⟩ (.inr ⟨by simp,rfl,rfl,rfl,rfl,rfl⟩)
          simp (maxSteps:=2000000) -implicitDefEqProofs [-getElem?_pos,go_sem,eqV,plen,tyO,Ty.pay,vaO,Va.pay,hT,hb0,hsi,hs,mkVa,flatCells,splice,scalars]
        · rw [if_neg hs]
          have hsi:¬ (16777216:Int) < (s.length:Int):=by omega
          refine Tells.of (o:=⟨.ret,[(4,.ptr 1 0 0 0),(5,.int .i64 (n:Nat)),(6,.int .i64 0)],[some (tyO t),some (vaO { k:=7,t:=s })]⟩) ⟨0,?_⟩ (.inr ⟨by simp,rfl,rfl,rfl,rfl,rfl⟩)
          simp (maxSteps:=2000000) -implicitDefEqProofs [-getElem?_pos,go_sem,eqV,plen,tyO,Ty.pay,vaO,Va.pay,hT,hbt,hsi,hs,mkVa,flatCells,splice,scalars]
      · have heb:(e != 0) = true:=by simpa using he
        rw [if_pos he]
        refine Tells.of (o:=⟨.ret,[(4,.ptr 1 0 0 0),(5,.int .i64 0),(6,.int .i64 e)],[some (tyO t),some (vaO {})]⟩) ⟨0,?_⟩ (.inr ⟨by simp,rfl,rfl,rfl,rfl,rfl⟩)
        simp (maxSteps:=2000000) -implicitDefEqProofs [-getElem?_pos,go_sem,eqV,plen,tyO,Ty.pay,vaO,Va.pay,hT,hb0,heb,mkVa,flatCells,splice,scalars]
    have e7:(kindN t.t t.u == 7) = false:=beq_eq_false_iff_ne.2 h7
    refine Tells.of (o:=⟨.normal,[(0,.ro c (.pb b) 1),(3,.ptr 0 0 0 0),(4,.ptr 1 0 0 0),(7,.int .i64 (kindN t.t t.u)),(45,.bool false)],[some (tyO t),some (vaO {})]⟩) ⟨0,?_⟩ (.inl ⟨rfl,rfl,rfl,by omega⟩)
    generalize kindN t.t t.u = k at *
    simp (maxSteps:=2000000) -implicitDefEqProofs [-getElem?_pos,go_sem,eqV,plen,e1,e2,e5,e6,e7]
  rintro fr H ⟨rfl,rfl,hk⟩
  exact piece (vread_num c b t hc ht hbm hk) _ rfl
end
theorem vread_ev {H:AM.Heap} {a:AV} {b:List UInt8} {t:Ty} (h:Byt H a b) (ht:t.t < 256) (hbm:b.length≤90000000) :
    evT X 25 [a,.agg t.pay] H = some (.tup [.agg (rdV b t).1.pay,.int .i64 ((rdV b t).2.1:Nat),.int .i64 (rdV b t).2.2],H):=by
  obtain ⟨c,p,xl,hp,hc,hx'⟩:=args_byt (C:=X) (f:=25) (i:=0) rfl h (args_ty (f:=25) (i:=1) (t:=t) (args_nil 2))
  obtain ⟨code,hcode,o,⟨he,q4,q0,q5,q6⟩,hr⟩:=vread_code c b t hc ht hbm
  refine evT_eq (Ev1.toldP (l:=[.agg (rdV b t).1.pay,.int .i64 ((rdV b t).2.1:Nat),.int .i64 (rdV b t).2.2]) (evT_below X) Tryz.func25 hcode hx' (by simp [idsL,ids,Ty.pay]) (by simp [gtag]) (by simp [idsL,ids,Va.pay]) (by simp [tagsL,tags,Va.pay]) rfl ⟨o,⟨he,?_⟩,by rw [par25,coB hp];exact hr⟩)
  generalize rdV b t = r at *
  show resultsV X o.fr o.H [.cell 4 41,.tmp 5,.tmp 6] = _
  simp only [vaO,Va.pay] at q0
  simp [resultsV,q4,q5,q6,loadV,live,q0,pagg,mkVa,Va.pay]
theorem rdW_le (b:List UInt8) (t:Nat):(rdW b t).2.1≤b.length:=by
  unfold rdW
  repeat' split
  all_goals (try exact Nat.zero_le _)
  all_goals (simp only;omega)
end Go.Proofs.YtafdnpcamepbmaaGreatDoor
namespace Go.Proofs.YtafdnpcamepbmaaGreatDoor
open Go.AM
def rtF (s:St):List UInt8 × St:=if s.2 ≠ 0 then ([],s) else ((rdT s.1).1,s.1.drop (rdT s.1).2.1,(rdT s.1).2.2)
def zrS (n:Nat) (s:St):St:=((fx n s).2.1,wr ((bts n s).any (· != 0)) (fx n s).2.2)
theorem rdT_bad {b:List UInt8} (h:(rdT b).2.2 ≠ 0):(rdT b).1 = []∧(rdT b).2.1 = 0:=by
  unfold rdT at h ⊢
  split
  · exact ⟨rfl,rfl⟩
  · rename_i h1
    rw [if_neg h1] at h
    split
    · exact ⟨rfl,rfl⟩
    · rename_i h2
      rw [if_neg h2] at h
      exact absurd rfl h
theorem rdT_le' (b:List UInt8):(rdT b).2.1≤b.length:=by
  by_cases h:(rdT b).2.2 = 0
  · exact (rdT_le h).1
  · rw [(rdT_bad h).2];omega
theorem rtF_nil {c:Nat} {s:St} (h:c = 0→s.1 = []):c = 0→(rtF s).2.1 = []:=by
  intro hc
  have:=h hc
  unfold rtF;split
  · exact this
  · simp [this]
theorem rtF_len (s:St):(rtF s).2.1.length≤s.1.length:=by
  unfold rtF;split
  · exact Nat.le_refl _
  · simp
section
variable (c t tg:Nat) (s:St)
theorem ftext_code (hc:c = 0→s.1 = []) (hb:s.1.length≤90000000):∃ code,Tryz.f19.body = some code ∧
    Run X (evT X) 19 1 code [(0,.ptr 0 0 0 0)] [some (rdO c t tg s)] ⟨.ret,[(2,.str (rtF s).1)],[some (rdO c t tg (rtF s).2)]⟩:=by
  refine ⟨_,rfl,0,?_⟩
  obtain ⟨b,e⟩:=s
  simp only at hb
  unfold rtF
  by_cases he:e = 0
  · subst he
    rw [if_neg (by simp)]
    have hR:=rreadText_ev (H:=[some (rdO c t tg (b,0))]) (a:=.ro c (.pb b) t) (b:=b) (Byt.ro (.inl rfl) hc) hb
    have hle:=rdT_le' b
    have hs1:=fun H=>slFrom0 (t:=t) hc hle H
    generalize rdT b = r at *
    obtain ⟨x,n,e⟩:=r
    simp only at hR hle hs1 ⊢
    simp only [rdO] at hR
    simp (maxSteps:=2000000) -implicitDefEqProofs [-getElem?_pos,go_sem,eqV,plen,rdO,hR,hs1]
  · rw [if_pos (by simpa using he)]
    have heb:(e != 0) = true:=by simpa using he
    simp (maxSteps:=2000000) -implicitDefEqProofs [-getElem?_pos,go_sem,eqV,plen,rdO,he,heb]
end
theorem ftext_ev {H:AM.Heap} {o c t tg:Nat} {s:St} (ho:H[o]? = some (some (rdO c t tg s))) (hj:joinTags (tagsOb (rdO c t tg s)) = some t) (hc:c = 0→s.1 = []) (hb:s.1.length≤90000000) :
    evT X 19 [.ptr o 0 0 0] H = some (.str (rtF s).1,upd H o (some (rdO c t t (rtF s).2))):=by
  obtain ⟨code,hcode,hr⟩:=ftext_code c 2 2 s hc hb
  have:=Ev1.box (C:=X) (f:=19) (H:=H) (o:=o) (g:=0) (ob:=rdO c t tg s) (ob1:=rdO c 2 2 (rtF s).2) (xs:=[]) (ys:=[]) (n:=2) (t:=t) (rest:=[])
    (l:=[.str (rtF s).1]) (evT_below X) Tryz.func19 hcode rfl ho rfl rfl (args_nil 1) rfl rfl rfl (by simp [gtag]) hj hr (.inr rfl) rfl rfl rfl rfl rfl
    (by intro k hk;right;simpa [resultV,tags,tagsOb,rdO,tagsL] using hk) (.inr rfl)
  exact evT_eq (by simpa [rdO,ren,renL,bk,resultV] using this)
def zrFr (n len i:Nat) (bad:Bool):AM.Frame:=[(0,.ptr 0 0 0 0),(1,.int .i64 (n:Nat)),(4,.sl 1 0 len 0),(5,.bool bad),(6,.int .i64 (i:Nat))]
theorem take_any {l:List UInt8} {i:Nat} {y:UInt8} (h:l[i]? = some y):(l.take (i + 1)).any (· != 0) = ((l.take i).any (· != 0) || (y != 0)):=by
  rw [take_snoc h];simp
section
variable (c t:Nat) (s:St) (n:Nat)
theorem zeros_code (hc:c = 0→s.1 = []) (hn:n≤1000):∃ code,Tryz.f27.body = some code∧∃ ob fr,
    Run X (evT X) 27 1 code [(0,.ptr 0 0 0 0),(1,.int .i64 (n:Nat))] [some (rdO c t t s)] ⟨.normal,fr,[some (rdO c t t (zrS n s)),some ob]⟩:=by
  refine ⟨_,rfl,?_⟩
  obtain ⟨ob,hw,hB⟩:=bytes_ev (H:=[some (rdO c t t s)]) (o:=0) (n:=n) (N:=n) rfl rfl (jt c t s) hc (by omega)
  have q2:=bts_len n s
  unfold zrS
  generalize bts n s = l at *
  generalize fx n s = r at *
  have hW:=wrong_ev (H:=[some (rdO c t t r.2),some ob]) (o:=0) (k:=t) (p:=.pb r.2.1) (l:=r.2.1) (e:=r.2.2) (bad:=l.any (· != 0)) rfl (.inl rfl) (by simp [tagsOb,bxO,tags,tagsL,joinTags,joinTag];omega)
  refine ⟨ob,[],?_⟩
  apply Run.seq (fr':=[(0,.ptr 0 0 0 0),(1,.int .i64 (n:Nat)),(4,.sl 1 0 n 0)]) (H':=[some (rdO c t t r.2),some ob])
  · simp only [rdO] at hB
    (refine ⟨0,?_⟩;simp (maxSteps:=2000000) -implicitDefEqProofs [-getElem?_pos,go_sem,eqV,plen,rdO,hB,assignV])
  apply Run.seq
  · (refine ⟨0,?_⟩;conv=>lhs;simp (maxSteps:=2000000) -implicitDefEqProofs [-getElem?_pos,go_sem,eqV,plen])
  apply Run.seq (fr':=zrFr n n n (l.any (· != 0)) ++ [(12,.bool false)]) (H':=[some (rdO c t t r.2),some ob])
  · apply Run.seq (fr':=zrFr n n 0 false) (H':=[some (rdO c t t r.2),some ob])
    · (refine ⟨0,?_⟩;simp (maxSteps:=2000000) -implicitDefEqProofs [-getElem?_pos,go_sem,eqV,plen,zrFr])
    apply Run.block_exit
    refine Run.loop_rule (σ:=Nat) (fun i=>i≤n) (fun i=>zrFr n n i ((l.take i).any (· != 0))) (fun _=>[some (rdO c t t r.2),some ob]) (fun _=>⟨.exit 0,zrFr n n n (l.any (· != 0)) ++ [(12,.bool false)],[some (rdO c t t r.2),some ob]⟩) (fun i=>n - i) ?_ 0 (Nat.zero_le _)
    intro i hi
    simp only
    by_cases hin:i = n
    · right
      refine ⟨?_,by simp⟩
      subst hin
      have:l.take i = l:=List.take_of_length_le (by omega)
      rw [this]
      generalize l.any (· != 0) = bad at *
      (refine ⟨0,?_⟩;simp (maxSteps:=2000000) -implicitDefEqProofs [-getElem?_pos,go_sem,eqV,plen,zrFr])
    · left
      have hlt:i < n:=by omega
      have hiI:(i:Int) < (n:Int):=by omega
      have hy:l[i]? = some l[i]:=List.getElem?_eq_getElem (by omega)
      generalize l[i] = y at *
      have w1:IntKind.i64.wrap ((i:Int) + 1) = ((i + 1:Nat):Int):=by rw [wrap_i64 (by omega) (by omega)];omega
      refine ⟨i + 1,by omega,?_,trivial,by omega⟩
      rw [take_any hy]
      have hg:=hw.g
      have hp:=hw.p
      have hids:=hw.ids
      have htg:=hw.tg
      cases hb:(l.take i).any (· != 0) with
      | true=>(refine ⟨0,?_⟩;simp (maxSteps:=2000000) -implicitDefEqProofs [-getElem?_pos,go_sem,eqV,plen,zrFr,hiI,w1])
      | false =>
        have hyb:((y.toNat:Int) != 0) = (y != 0):=by
          rw [Bool.eq_iff_iff]
          simp only [bne_iff_ne,ne_eq]
          constructor
          · intro h h2;exact h (by rw [h2];rfl)
          · intro h h2;exact h (UInt8.toNat_inj.1 (by simpa using h2))
        (refine ⟨0,?_⟩;simp (maxSteps:=2000000) -implicitDefEqProofs [-getElem?_pos,go_sem,eqV,plen,zrFr,hiI,hlt,hg,hp,hids,htg,hy,hyb,w1])
  simp only [bxO,rdO] at hW ⊢
  generalize l.any (· != 0) = bad at *
  refine ⟨0,?_⟩
  simp (maxSteps:=2000000) -implicitDefEqProofs [-getElem?_pos,go_sem,eqV,plen,zrFr,hW,upd]
end
theorem zeros_ev {H:AM.Heap} {o c t tg n:Nat} {N:Int} {s:St} (hN:N = (n:Nat)) (ho:H[o]? = some (some (rdO c t tg s))) (hj:joinTags (tagsOb (rdO c t tg s)) = some t) (hc:c = 0→s.1 = []) (hn:n≤1000) :
    evT X 27 [.ptr o 0 0 0,.int .i64 N] H = some (.tup [],upd H o (some (rdO c t t (zrS n s)))):=by
  subst hN
  obtain ⟨code,hcode,ob,fr,hr⟩:=zeros_code c 3 s n hc hn
  have:=Ev1.box (C:=X) (f:=27) (H:=H) (o:=o) (g:=0) (ob:=rdO c t tg s) (ob1:=rdO c 3 3 (zrS n s)) (xs:=[.int .i64 (n:Nat)]) (ys:=[.int .i64 (n:Nat)]) (n:=3) (t:=t) (rest:=[some ob])
    (l:=[]) (evT_below X) Tryz.func27 hcode rfl ho rfl rfl (args_flat rfl rfl (args_nil 2)) rfl rfl rfl (by simp [gtag]) hj hr (.inl rfl) rfl rfl rfl rfl rfl
    (by intro k hk;right;simpa [resultV,noTups,tags,tagsOb,rdO,tagsL] using hk) (.inr rfl)
  exact evT_eq (by simpa [rdO,ren,renL,bk,resultV,noTups] using this)
end Go.Proofs.YtafdnpcamepbmaaGreatDoor
namespace Go.Proofs.YtafdnpcamepbmaaGreatDoor
open Go.AM
theorem rdV_le (b:List UInt8) (t:Ty) (hb:b.length≤90000000):(rdV b t).2.1≤b.length:=by
  have h1:=rdW_le b t.t
  have h2:=rdT_le' b
  unfold rdV
  by_cases hr:(rfR b (sizeN t.t)).2 = 0
  · have hs:sizeN t.t≤b.length:=by
      unfold rfR at hr
      split at hr
      · cases hr
      · split at hr
        · cases hr
        · omega
    repeat' split
    all_goals (simp only)
    all_goals omega
  · rw [if_pos hr]
    repeat' split
    all_goals (simp only)
    all_goals omega
end Go.Proofs.YtafdnpcamepbmaaGreatDoor
namespace Go.Proofs.YtafdnpcamepbmaaGreatDoor
open Go.AM
def clF (s:St) (w:Wh) (m:Bool):Wh × St :=
  ({ w with h:=((fx 1 s).1:Nat),mi:=((fx 1 (fx 1 s).2).1:Nat),s:=((fx 1 (fx 1 (fx 1 s).2).2).1:Nat),us:=if m then ((fx 4 (fx 1 (fx 1 (fx 1 s).2).2).2).1:Nat) else w.us },
   if m then (fx 4 (fx 1 (fx 1 (fx 1 s).2).2).2).2 else (fx 1 (fx 1 (fx 1 s).2).2).2)
theorem clF_nil {s:St} {w:Wh} {m:Bool} {c:Nat} (h:c = 0→s.1 = []):c = 0→(clF s w m).2.1 = []:=by
  unfold clF
  cases m
  · exact fx_nil (fx_nil (fx_nil h))
  · exact fx_nil (fx_nil (fx_nil (fx_nil h)))
section
variable (c:Nat) (s:St) (w:Wh) (m:Bool)
theorem clockOf_code (hc:c = 0→s.1 = []):∃ code,Tryz.f77.body = some code ∧
    Run X (evT X) 77 1 code [(0,.ptr 0 0 0 0),(1,.agg w.pay),(2,.bool m)] [some (rdO c 4 4 s)] ⟨.ret,[(6,.ptr 2 0 0 0)],[some (rdO c 4 4 (clF s w m).2),some (whO (clF s w m).1),some (whO (clF s w m).1)]⟩:=by
  refine ⟨_,rfl,?_⟩
  unfold clF
  have wb:∀ k:Nat,k < 256→IntKind.i64.wrap (k:Int) = (k:Int):=fun k h=>wrap_i64 (by omega) (by omega)
  have l1:=fx_lt (n:=1) s
  have h1:=fun H (ho:H[0]? = some (some (rdO c 4 4 s)))=>byteF_ev (o:=0) (t:=4) ho (jt c 4 s) hc
  have c1:=fx_nil (n:=1) hc
  generalize fx 1 s = r1 at *
  obtain ⟨k1,s1⟩:=r1
  simp only at *
  have l2:=fx_lt (n:=1) s1
  have h2:=fun H (ho:H[0]? = some (some (rdO c 4 4 s1)))=>byteF_ev (o:=0) (t:=4) ho (jt c 4 s1) c1
  have c2:=fx_nil (n:=1) c1
  generalize fx 1 s1 = r2 at *
  obtain ⟨k2,s2⟩:=r2
  simp only at *
  have l3:=fx_lt (n:=1) s2
  have h3:=fun H (ho:H[0]? = some (some (rdO c 4 4 s2)))=>byteF_ev (o:=0) (t:=4) ho (jt c 4 s2) c2
  have c3:=fx_nil (n:=1) c2
  generalize fx 1 s2 = r3 at *
  obtain ⟨k3,s3⟩:=r3
  simp only at *
  have l4:=fx_lt (n:=4) s3
  have h4:=fun H (ho:H[0]? = some (some (rdO c 4 4 s3)))=>fixedF_ev (N:=4) (n:=4) (o:=0) (t:=4) rfl ho (jt c 4 s3) c3 (by omega) (by omega)
  generalize fx 4 s3 = r4 at *
  obtain ⟨k4,s4⟩:=r4
  simp only at *
  have w1:=wb k1 (by simpa using l1)
  have w2:=wb k2 (by simpa using l2)
  have w3:=wb k3 (by simpa using l3)
  have w4:IntKind.i64.wrap (k4:Int) = (k4:Int):=wrap_i64 (by omega) (by omega)
  clear l1 l2 l3 l4 wb
  apply Run.seq (fr':=[(0,.ptr 0 0 0 0),(2,.bool m),(4,.ptr 1 0 0 0),(6,.ptr 2 0 0 0)]) (H':=[some (rdO c 4 4 s),some (whO w),some (whO {})])
  · (refine ⟨0,?_⟩;simp (maxSteps:=2000000) -implicitDefEqProofs [-getElem?_pos,go_sem,eqV,plen,whO,Wh.pay])
  have e1:=h1 [some (rdO c 4 4 s),some (whO w),some (whO {})] rfl
  apply Run.seq (fr':=[(0,.ptr 0 0 0 0),(2,.bool m),(4,.ptr 1 0 0 0),(6,.ptr 2 0 0 0)]) (H':=[some (rdO c 4 4 s1),some (whO { w with h:=(k1:Nat) }),some (whO {})])
  · simp only [rdO,whO,Wh.pay,upd,List.set] at e1
    (refine ⟨0,?_⟩;simp (maxSteps:=2000000) -implicitDefEqProofs [-getElem?_pos,go_sem,eqV,plen,rdO,whO,Wh.pay,e1,w1])
  have e2:=h2 [some (rdO c 4 4 s1),some (whO { w with h:=(k1:Nat) }),some (whO {})] rfl
  apply Run.seq (fr':=[(0,.ptr 0 0 0 0),(2,.bool m),(4,.ptr 1 0 0 0),(6,.ptr 2 0 0 0)]) (H':=[some (rdO c 4 4 s2),some (whO { w with h:=(k1:Nat),mi:=(k2:Nat) }),some (whO {})])
  · simp only [rdO,whO,Wh.pay,upd,List.set] at e2
    (refine ⟨0,?_⟩;simp (maxSteps:=2000000) -implicitDefEqProofs [-getElem?_pos,go_sem,eqV,plen,rdO,whO,Wh.pay,e2,w2])
  have e3:=h3 [some (rdO c 4 4 s2),some (whO { w with h:=(k1:Nat),mi:=(k2:Nat) }),some (whO {})] rfl
  apply Run.seq (fr':=[(0,.ptr 0 0 0 0),(2,.bool m),(4,.ptr 1 0 0 0),(6,.ptr 2 0 0 0)]) (H':=[some (rdO c 4 4 s3),some (whO { w with h:=(k1:Nat),mi:=(k2:Nat),s:=(k3:Nat) }),some (whO {})])
  · simp only [rdO,whO,Wh.pay,upd,List.set] at e3
    (refine ⟨0,?_⟩;simp (maxSteps:=2000000) -implicitDefEqProofs [-getElem?_pos,go_sem,eqV,plen,rdO,whO,Wh.pay,e3,w3])
  cases m with
  | false =>
    refine ⟨0,?_⟩
    simp (maxSteps:=2000000) -implicitDefEqProofs [-getElem?_pos,go_sem,eqV,plen,rdO,whO,Wh.pay,mkWh,flatCells,splice,scalars]
  | true =>
    have e4:=h4 [some (rdO c 4 4 s3),some (whO { w with h:=(k1:Nat),mi:=(k2:Nat),s:=(k3:Nat) }),some (whO {})] rfl
    simp only [rdO,whO,Wh.pay,upd,List.set] at e4
    refine ⟨0,?_⟩
    simp (maxSteps:=2000000) -implicitDefEqProofs [-getElem?_pos,go_sem,eqV,plen,rdO,whO,Wh.pay,mkWh,e4,w4,flatCells,splice,scalars]
end
theorem clockOf_ev {H:AM.Heap} {o c t tg:Nat} {s:St} {w:Wh} {m:Bool} (ho:H[o]? = some (some (rdO c t tg s))) (hj:joinTags (tagsOb (rdO c t tg s)) = some t) (hc:c = 0→s.1 = []) :
    evT X 77 [.ptr o 0 0 0,.agg w.pay,.bool m] H = some (.agg (clF s w m).1.pay,upd H o (some (rdO c t t (clF s w m).2))):=by
  obtain ⟨code,hcode,hr⟩:=clockOf_code c s w m hc
  generalize clF s w m = q at *
  have:=Ev1.box (C:=X) (f:=77) (H:=H) (o:=o) (g:=0) (ob:=rdO c t tg s) (ob1:=rdO c 4 4 q.2) (xs:=[.agg w.pay,.bool m]) (ys:=[.agg w.pay,.bool m]) (n:=4) (t:=t) (rest:=[some (whO q.1),some (whO q.1)])
    (l:=[.agg q.1.pay]) (evT_below X) Tryz.func77 hcode rfl ho rfl rfl (args_wh (i:=1) (args_flat (i:=2) rfl rfl (args_nil 3))) (by simp [idsL,ids,Wh.pay]) rfl rfl (by simp [gtag]) hj hr (.inr rfl)
    (by show resultsV X [(6,.ptr 2 0 0 0)] [some (rdO c 4 4 q.2),some (whO q.1),some (whO q.1)] [.cell 6 39] = _;simp [resultsV,getF,loadV,live,whO,pagg,mkWh,Wh.pay]) rfl rfl rfl (by simp [resultV,ids,idsL,Wh.pay])
    (by intro k hk;right;simpa [resultV,tags,tagsOb,rdO,tagsL,Wh.pay] using hk) (.inr rfl)
  exact evT_eq (by simpa [rdO,ren,renL,bk,resultV,Wh.pay] using this)
end Go.Proofs.YtafdnpcamepbmaaGreatDoor
namespace Go.Proofs.YtafdnpcamepbmaaGreatDoor
open Go.AM
def spBad (n:Nat):Bool:=n != 0 && n != 8 && n != 12
def moBad (n:Nat):Bool:=n != 0 && n != 4 && n != 7 && n != 11
def wrS (bad:Bool) (s:St):St:=(s.1,wr bad s.2)
def spF (n:Nat) (s:St):Wh × St :=
  if s.2 = 0∧0 < n then
    ((clF (fx 4 (fx 1 s).2).2 { neg:=(fx 1 s).1 == 1,d:=((fx 4 (fx 1 s).2).1:Nat) } (n == 12)).1,wrS (decide (1 < (fx 1 s).1)) (clF (fx 4 (fx 1 s).2).2 { neg:=(fx 1 s).1 == 1,d:=((fx 4 (fx 1 s).2).1:Nat) } (n == 12)).2)
  else ({},s)
def dyF (n:Nat) (s:St):Wh × St :=
  if s.2 = 0∧0 < n then ({ y:=((fx 2 s).1:Nat),mo:=((fx 1 (fx 2 s).2).1:Nat),d:=((fx 1 (fx 1 (fx 2 s).2).2).1:Nat) },(fx 1 (fx 1 (fx 2 s).2).2).2) else ({},s)
def moF (n:Nat) (s:St):Wh × St:=if (dyF n s).2.2 = 0∧4 < n then clF (dyF n s).2 (dyF n s).1 (n == 11) else dyF n s
def whF (s:St) (t:Nat):Wh × St :=
  if t = 11 then spF (fx 1 s).1 (wrS (spBad (fx 1 s).1) (fx 1 s).2) else moF (fx 1 s).1 (wrS (moBad (fx 1 s).1) (fx 1 s).2)
def woF (s:St) (t:Nat):Wh × St:=((whF s t).1,wrS (!fin (whF s t).1 t) (whF s t).2)
theorem spF_nil {n:Nat} {s:St} {c:Nat} (h:c = 0→s.1 = []):c = 0→(spF n s).2.1 = []:=by
  unfold spF
  split
  · exact clF_nil (fx_nil (fx_nil h))
  · exact h
theorem dyF_nil {n:Nat} {s:St} {c:Nat} (h:c = 0→s.1 = []):c = 0→(dyF n s).2.1 = []:=by
  unfold dyF
  split
  · exact fx_nil (fx_nil (fx_nil h))
  · exact h
theorem moF_nil {n:Nat} {s:St} {c:Nat} (h:c = 0→s.1 = []):c = 0→(moF n s).2.1 = []:=by
  unfold moF
  split
  · exact clF_nil (dyF_nil h)
  · exact dyF_nil h
theorem whF_nil {s:St} {t c:Nat} (h:c = 0→s.1 = []):c = 0→(whF s t).2.1 = []:=by
  unfold whF
  split
  · exact spF_nil (fx_nil h)
  · exact moF_nil (fx_nil h)
theorem wrS_ev {H:AM.Heap} {c:Nat} {s:St} {bad:Bool} (ho:H[0]? = some (some (rdO c 3 3 s))) :
    evT X 20 [.ptr 0 0 0 0,.bool bad] H = some (.tup [],upd H 0 (some (rdO c 3 3 (wrS bad s)))) :=
  wrong_ev (o:=0) (p:=.pb s.1) (l:=s.1) (e:=s.2) (k:=3) ho (.inl rfl) (jt c 3 s)
section
variable (c:Nat) (s:St) (t n:Nat)
def woFr (n:Nat) (tl:AM.Frame):AM.Frame:=[(0,.ptr 0 0 0 0),(1,.int .u8 (t:Nat)),(4,.ptr 1 0 0 0),(5,.int .i64 (n:Nat)),(6,.ptr 2 0 0 0)] ++ tl
theorem wo_span (hc:c = 0→s.1 = []) (hn:n < 256):∃ code,((Tryz.f65.body).bind (codeAt [1,1,1,0,1,0])) = some code ∧
    Tells (Goes fun fr H=>(∃ tl,fr = [(0,.ptr 0 0 0 0),(1,.int .u8 (t:Nat)),(4,.ptr 1 0 0 0)] ++ tl∧getF tl 6 = .ptr 2 0 0 0∧(tl = [(6,.ptr 2 0 0 0)]∨tl = [(5,.int .i64 (n:Nat)),(6,.ptr 2 0 0 0),(34,.bool false)]))∧H = [some (rdO c 3 3 (spF n (wrS (spBad n) s)).2),some (whO {}),some (whO (spF n (wrS (spBad n) s)).1)])
      X (evT X) 65 1 code (woFr t n [(13,.bool true)]) [some (rdO c 3 3 s),some (whO {}),some (whO {})]:=by
  refine ⟨_,rfl,?_⟩
  have hW:=wrS_ev (H:=[some (rdO c 3 3 s),some (whO {}),some (whO {})]) (bad:=spBad n) rfl
  apply Tells.seq (fr':=woFr t n []) (H':=[some (rdO c 3 3 (wrS (spBad n) s)),some (whO {}),some (whO {})])
  · simp only [rdO,whO,Wh.pay,upd,List.set] at hW
    by_cases h0:n = 0
    · subst h0
      rw [show spBad 0 = false from rfl] at hW ⊢
      (refine ⟨0,?_⟩;simp (maxSteps:=2000000) -implicitDefEqProofs [-getElem?_pos,go_sem,eqV,plen,woFr,rdO,whO,Wh.pay,hW])
    have e0:((n:Int) != 0) = true:=by simp;omega
    by_cases h8:n = 8
    · subst h8
      rw [show spBad 8 = false from rfl] at hW ⊢
      (refine ⟨0,?_⟩;simp (maxSteps:=2000000) -implicitDefEqProofs [-getElem?_pos,go_sem,eqV,plen,woFr,rdO,whO,Wh.pay,hW])
    have e8:((n:Int) != 8) = true:=by simp;omega
    by_cases h12:n = 12
    · subst h12
      rw [show spBad 12 = false from rfl] at hW ⊢
      (refine ⟨0,?_⟩;simp (maxSteps:=2000000) -implicitDefEqProofs [-getElem?_pos,go_sem,eqV,plen,woFr,rdO,whO,Wh.pay,hW])
    have e12:((n:Int) != 12) = true:=by simp;omega
    rw [show spBad n = true by unfold spBad;simp [h0,h8,h12]] at hW ⊢
    (refine ⟨0,?_⟩;simp (maxSteps:=2000000) -implicitDefEqProofs [-getElem?_pos,go_sem,eqV,plen,woFr,rdO,whO,Wh.pay,hW,e0,e8,e12])
  clear hW
  have hc1:c = 0→(wrS (spBad n) s).1 = []:=hc
  generalize wrS (spBad n) s = s1 at *
  unfold spF
  by_cases hcond:s1.2 = 0∧0 < n
  case neg =>
    rw [if_neg hcond]
    refine Tells.of (o:=⟨.normal,woFr t n [(34,.bool false)],[some (rdO c 3 3 s1),some (whO {}),some (whO {})]⟩) ⟨0,?_⟩ ⟨rfl,⟨_,rfl,rfl,.inr rfl⟩,rfl⟩
    by_cases he:s1.2 = 0
    · have hn0:n = 0:=by omega
      subst hn0
      simp (maxSteps:=2000000) -implicitDefEqProofs [-getElem?_pos,go_sem,eqV,plen,woFr,rdO,he]
    · have heb:(s1.2 == 0) = false:=beq_eq_false_iff_ne.2 he
      simp (maxSteps:=2000000) -implicitDefEqProofs [-getElem?_pos,go_sem,eqV,plen,woFr,rdO,heb]
  rw [if_pos hcond]
  obtain ⟨he,hpos⟩:=hcond
  have hposi:(0:Int) < (n:Int):=by omega
  apply Tells.seq (fr':=woFr t n [(34,.bool true)]) (H':=[some (rdO c 3 3 s1),some (whO {}),some (whO {})])
  · (refine ⟨0,?_⟩;simp (maxSteps:=2000000) -implicitDefEqProofs [-getElem?_pos,go_sem,eqV,plen,woFr,rdO,he,hposi,hpos])
  apply Tells.condT (by simp [evalO,getF,woFr])
  have l1:=fx_lt (n:=1) s1
  have e1:=byteF_ev (H:=[some (rdO c 3 3 s1),some (whO {}),some (whO {})]) (o:=0) (t:=3) rfl (jt c 3 s1) hc1
  have c1:=fx_nil (n:=1) hc1
  generalize fx 1 s1 = r1 at *
  obtain ⟨k1,s2⟩:=r1
  simp only at *
  have l2:=fx_lt (n:=4) s2
  have e2:=fixedF_ev (H:=[some (rdO c 3 3 s2),some (whO {}),some (whO { neg:=k1 == 1 })]) (N:=4) (n:=4) (o:=0) (t:=3) rfl rfl (jt c 3 s2) c1 (by omega) (by omega)
  have c2:=fx_nil (n:=4) c1
  generalize fx 4 s2 = r2 at *
  obtain ⟨k2,s3⟩:=r2
  simp only at *
  have e3:=clockOf_ev (H:=[some (rdO c 3 3 s3),some (whO {}),some (whO { neg:=k1 == 1,d:=(k2:Nat) })]) (o:=0) (t:=3) (w:={ neg:=k1 == 1,d:=(k2:Nat) }) (m:=n == 12) rfl (jt c 3 s3) c2
  generalize clF s3 { neg:=k1 == 1,d:=(k2:Nat) } (n == 12) = r3 at *
  obtain ⟨w4,s4⟩:=r3
  simp only at *
  have e4:=wrS_ev (H:=[some (rdO c 3 3 s4),some (whO {}),some (whO w4)]) (bad:=decide (1 < k1)) rfl
  generalize wrS (decide (1 < k1)) s4 = s5 at *
  have w2:IntKind.i64.wrap (k2:Int) = (k2:Int):=wrap_i64 (by omega) (by omega)
  have hk1:((k1:Int) == 1) = (k1 == 1):=by
    by_cases h:k1 = 1
    · subst h;rfl
    · have:(k1 == 1) = false:=by simpa using h
      rw [this];exact beq_eq_false_iff_ne.2 (by omega)
  have hk2:decide ((1:Int) < (k1:Int)) = decide (1 < k1):=by
    by_cases h:1 < k1
    · rw [decide_eq_true h];exact decide_eq_true (by omega)
    · rw [decide_eq_false h];exact decide_eq_false (by omega)
  have hn12:((n:Int) == 12) = (n == 12):=by
    by_cases h:n = 12
    · subst h;rfl
    · have:(n == 12) = false:=by simpa using h
      rw [this];exact beq_eq_false_iff_ne.2 (by omega)
  apply Tells.seq (fr':=[(0,.ptr 0 0 0 0),(1,.int .u8 (t:Nat)),(4,.ptr 1 0 0 0),(5,.int .i64 (n:Nat)),(6,.ptr 2 0 0 0),(7,.int .u8 (k1:Nat))]) (H':=[some (rdO c 3 3 s2),some (whO {}),some (whO {})])
  · simp only [rdO,whO,Wh.pay,upd,List.set] at e1
    (refine ⟨0,?_⟩;simp (maxSteps:=2000000) -implicitDefEqProofs [-getElem?_pos,go_sem,eqV,plen,woFr,rdO,whO,Wh.pay,e1])
  apply Tells.seq (fr':=[(0,.ptr 0 0 0 0),(1,.int .u8 (t:Nat)),(4,.ptr 1 0 0 0),(5,.int .i64 (n:Nat)),(6,.ptr 2 0 0 0),(7,.int .u8 (k1:Nat))]) (H':=[some (rdO c 3 3 s2),some (whO {}),some (whO { neg:=k1 == 1 })])
  · generalize (k1 == 1) = kk at *
    (refine ⟨0,?_⟩;simp (maxSteps:=2000000) -implicitDefEqProofs [-getElem?_pos,go_sem,eqV,plen,rdO,whO,Wh.pay,hk1])
  apply Tells.seq (fr':=[(0,.ptr 0 0 0 0),(1,.int .u8 (t:Nat)),(4,.ptr 1 0 0 0),(5,.int .i64 (n:Nat)),(6,.ptr 2 0 0 0),(7,.int .u8 (k1:Nat))]) (H':=[some (rdO c 3 3 s3),some (whO {}),some (whO { neg:=k1 == 1,d:=(k2:Nat) })])
  · simp only [rdO,whO,Wh.pay,upd,List.set] at e2
    generalize (k1 == 1) = kk at *
    (refine ⟨0,?_⟩;simp (maxSteps:=2000000) -implicitDefEqProofs [-getElem?_pos,go_sem,eqV,plen,rdO,whO,Wh.pay,e2,w2])
  apply Tells.seq (fr':=[(0,.ptr 0 0 0 0),(1,.int .u8 (t:Nat)),(4,.ptr 1 0 0 0),(6,.ptr 2 0 0 0),(7,.int .u8 (k1:Nat))]) (H':=[some (rdO c 3 3 s4),some (whO {}),some (whO w4)])
  · simp only [rdO,whO,Wh.pay,upd,List.set] at e3
    generalize (k1 == 1) = kk at *
    generalize (n == 12) = nn at *
    (refine ⟨0,?_⟩;simp (maxSteps:=2000000) -implicitDefEqProofs [-getElem?_pos,go_sem,eqV,plen,rdO,whO,Wh.pay,mkWh,e3,hn12,flatCells,splice,scalars])
  refine Tells.of (o:=⟨.normal,[(0,.ptr 0 0 0 0),(1,.int .u8 (t:Nat)),(4,.ptr 1 0 0 0),(6,.ptr 2 0 0 0)],[some (rdO c 3 3 s5),some (whO {}),some (whO w4)]⟩) ⟨0,?_⟩ ⟨rfl,⟨_,rfl,rfl,.inl rfl⟩,rfl⟩
  simp only [rdO,whO,Wh.pay,upd,List.set] at e4
  generalize decide (1 < k1) = kk at *
  simp (maxSteps:=2000000) -implicitDefEqProofs [-getElem?_pos,go_sem,eqV,plen,rdO,whO,Wh.pay,hk2,e4]
end
end Go.Proofs.YtafdnpcamepbmaaGreatDoor
namespace Go.Proofs.YtafdnpcamepbmaaGreatDoor
open Go.AM
section
variable (c:Nat) (s:St) (t n:Nat)
theorem wo_day (hc:c = 0→s.1 = []) (hn:n < 256) (Q:AM.Out→Prop)
    (next:∀ code,((Tryz.f65.body).bind (codeAt [1,1,1,0,1,1,1,1])) = some code→∀ tl,(tl = []∨tl = [(77,.bool false)])→Tells Q X (evT X) 65 1 code (woFr t n tl) [some (rdO c 3 3 (dyF n (wrS (moBad n) s)).2),some (whO {}),some (whO (dyF n (wrS (moBad n) s)).1)]) :
    ∃ code,((Tryz.f65.body).bind (codeAt [1,1,1,0,1,1])) = some code∧Tells Q X (evT X) 65 1 code (woFr t n [(13,.bool false)]) [some (rdO c 3 3 s),some (whO {}),some (whO {})]:=by
  refine ⟨_,rfl,?_⟩
  have hW:=wrS_ev (H:=[some (rdO c 3 3 s),some (whO {}),some (whO {})]) (bad:=moBad n) rfl
  apply Tells.seq (fr':=woFr t n []) (H':=[some (rdO c 3 3 (wrS (moBad n) s)),some (whO {}),some (whO {})])
  · simp only [rdO,whO,Wh.pay,upd,List.set] at hW
    by_cases h0:n = 0
    · subst h0
      rw [show moBad 0 = false from rfl] at hW ⊢
      (refine ⟨0,?_⟩;simp (maxSteps:=2000000) -implicitDefEqProofs [-getElem?_pos,go_sem,eqV,plen,woFr,rdO,whO,Wh.pay,hW])
    have e0:((n:Int) != 0) = true:=by simp;omega
    by_cases h4:n = 4
    · subst h4
      rw [show moBad 4 = false from rfl] at hW ⊢
      (refine ⟨0,?_⟩;simp (maxSteps:=2000000) -implicitDefEqProofs [-getElem?_pos,go_sem,eqV,plen,woFr,rdO,whO,Wh.pay,hW])
    have e4:((n:Int) != 4) = true:=by simp;omega
    by_cases h7:n = 7
    · subst h7
      rw [show moBad 7 = false from rfl] at hW ⊢
      (refine ⟨0,?_⟩;simp (maxSteps:=2000000) -implicitDefEqProofs [-getElem?_pos,go_sem,eqV,plen,woFr,rdO,whO,Wh.pay,hW])
    have e7:((n:Int) != 7) = true:=by simp;omega
    by_cases h11:n = 11
    · subst h11
      rw [show moBad 11 = false from rfl] at hW ⊢
      (refine ⟨0,?_⟩;simp (maxSteps:=2000000) -implicitDefEqProofs [-getElem?_pos,go_sem,eqV,plen,woFr,rdO,whO,Wh.pay,hW])
    have e11:((n:Int) != 11) = true:=by simp;omega
    rw [show moBad n = true by unfold moBad;simp [h0,h4,h7,h11]] at hW ⊢
    (refine ⟨0,?_⟩;simp (maxSteps:=2000000) -implicitDefEqProofs [-getElem?_pos,go_sem,eqV,plen,woFr,rdO,whO,Wh.pay,hW,e0,e4,e7,e11])
  clear hW
  have hc1:c = 0→(wrS (moBad n) s).1 = []:=hc
  generalize wrS (moBad n) s = s1 at *
  apply Tells.assoc
  unfold dyF at next
  by_cases hcond:s1.2 = 0∧0 < n
  case neg =>
    rw [if_neg hcond] at next
    apply Tells.seq (fr':=woFr t n [(77,.bool false)]) (H':=[some (rdO c 3 3 s1),some (whO {}),some (whO {})])
    · by_cases he:s1.2 = 0
      · have hn0:n = 0:=by omega
        subst hn0
        (refine ⟨0,?_⟩;simp (maxSteps:=2000000) -implicitDefEqProofs [-getElem?_pos,go_sem,eqV,plen,woFr,rdO,he])
      · have heb:(s1.2 == 0) = false:=beq_eq_false_iff_ne.2 he
        (refine ⟨0,?_⟩;simp (maxSteps:=2000000) -implicitDefEqProofs [-getElem?_pos,go_sem,eqV,plen,woFr,rdO,heb])
    apply Tells.seq (fr':=woFr t n [(77,.bool false)]) (H':=[some (rdO c 3 3 s1),some (whO {}),some (whO {})])
    · exact condF (by simp [evalO,getF,woFr]) ⟨0,rfl⟩
    exact next _ rfl _ (.inr rfl)
  rw [if_pos hcond] at next
  obtain ⟨he,hpos⟩:=hcond
  have hposi:(0:Int) < (n:Int):=by omega
  apply Tells.seq (fr':=woFr t n [(77,.bool true)]) (H':=[some (rdO c 3 3 s1),some (whO {}),some (whO {})])
  · (refine ⟨0,?_⟩;simp (maxSteps:=2000000) -implicitDefEqProofs [-getElem?_pos,go_sem,eqV,plen,woFr,rdO,he,hposi,hpos])
  have l1:=fx_lt (n:=2) s1
  have e1:=fixedF_ev (H:=[some (rdO c 3 3 s1),some (whO {}),some (whO {})]) (N:=2) (n:=2) (o:=0) (t:=3) rfl rfl (jt c 3 s1) hc1 (by omega) (by omega)
  have c1:=fx_nil (n:=2) hc1
  generalize fx 2 s1 = r1 at *
  obtain ⟨k1,s2⟩:=r1
  simp only at *
  have l2:=fx_lt (n:=1) s2
  have e2:=byteF_ev (H:=[some (rdO c 3 3 s2),some (whO {}),some (whO { y:=(k1:Nat) })]) (o:=0) (t:=3) rfl (jt c 3 s2) c1
  have c2:=fx_nil (n:=1) c1
  generalize fx 1 s2 = r2 at *
  obtain ⟨k2,s3⟩:=r2
  simp only at *
  have l3:=fx_lt (n:=1) s3
  have e3:=byteF_ev (H:=[some (rdO c 3 3 s3),some (whO {}),some (whO { y:=(k1:Nat),mo:=(k2:Nat) })]) (o:=0) (t:=3) rfl (jt c 3 s3) c2
  generalize fx 1 s3 = r3 at *
  obtain ⟨k3,s4⟩:=r3
  simp only at *
  have w1:IntKind.i64.wrap (k1:Int) = (k1:Int):=wrap_i64 (by omega) (by omega)
  have w2:IntKind.i64.wrap (k2:Int) = (k2:Int):=wrap_i64 (by omega) (by omega)
  have w3:IntKind.i64.wrap (k3:Int) = (k3:Int):=wrap_i64 (by omega) (by omega)
  apply Tells.seq (fr':=woFr t n []) (H':=[some (rdO c 3 3 s4),some (whO {}),some (whO { y:=(k1:Nat),mo:=(k2:Nat),d:=(k3:Nat) })])
  · refine condT (by simp [evalO,getF,woFr]) ?_
    apply Run.seq (fr':=woFr t n []) (H':=[some (rdO c 3 3 s2),some (whO {}),some (whO { y:=(k1:Nat) })])
    · simp only [rdO,whO,Wh.pay,upd,List.set] at e1
      (refine ⟨0,?_⟩;simp (maxSteps:=2000000) -implicitDefEqProofs [-getElem?_pos,go_sem,eqV,plen,woFr,rdO,whO,Wh.pay,e1,w1])
    apply Run.seq (fr':=woFr t n []) (H':=[some (rdO c 3 3 s3),some (whO {}),some (whO { y:=(k1:Nat),mo:=(k2:Nat) })])
    · simp only [rdO,whO,Wh.pay,upd,List.set] at e2
      (refine ⟨0,?_⟩;simp (maxSteps:=2000000) -implicitDefEqProofs [-getElem?_pos,go_sem,eqV,plen,woFr,rdO,whO,Wh.pay,e2,w2])
    simp only [rdO,whO,Wh.pay,upd,List.set] at e3
    refine ⟨0,?_⟩
    simp (maxSteps:=2000000) -implicitDefEqProofs [-getElem?_pos,go_sem,eqV,plen,woFr,rdO,whO,Wh.pay,e3,w3]
  exact next _ rfl _ (.inl rfl)
def woP (q:Wh × St) (fr:AM.Frame) (H:AM.Heap):Prop :=
  (∃ tl,fr = [(0,.ptr 0 0 0 0),(1,.int .u8 (t:Nat)),(4,.ptr 1 0 0 0)] ++ tl∧(tl = [(6,.ptr 2 0 0 0)]∨∃ j,j ≠ 6∧tl = [(5,.int .i64 (n:Nat)),(6,.ptr 2 0 0 0),(j,.bool false)]))∧H = [some (rdO c 3 3 q.2),some (whO {}),some (whO q.1)]
theorem wo_clock (q:Wh × St) (hc:c = 0→q.2.1 = []) (hn:n < 256) (tl:AM.Frame) (htl:tl = []∨tl = [(77,.bool false)]) :
    ∃ code,((Tryz.f65.body).bind (codeAt [1,1,1,0,1,1,1,1])) = some code∧Tells (Goes (woP c t n (if q.2.2 = 0∧4 < n then clF q.2 q.1 (n == 11) else q))) X (evT X) 65 1 code (woFr t n tl) [some (rdO c 3 3 q.2),some (whO {}),some (whO q.1)]:=by
  refine ⟨_,rfl,?_⟩
  obtain ⟨w,s1⟩:=q
  simp only at *
  by_cases hcond:s1.2 = 0∧4 < n
  case neg =>
    rw [if_neg hcond]
    refine Tells.of (o:=⟨.normal,woFr t n [(98,.bool false)],[some (rdO c 3 3 s1),some (whO {}),some (whO w)]⟩) ⟨0,?_⟩ ⟨rfl,⟨_,rfl,.inr ⟨98,by decide,rfl⟩⟩,rfl⟩
    by_cases he:s1.2 = 0
    · have hn0:¬ (4:Int) < (n:Int):=by omega
      have hn1:¬ 4 < n:=by omega
      rcases htl with rfl | rfl
      · simp (maxSteps:=2000000) -implicitDefEqProofs [-getElem?_pos,go_sem,eqV,plen,woFr,rdO,he,hn0,hn1]
      · simp (maxSteps:=2000000) -implicitDefEqProofs [-getElem?_pos,go_sem,eqV,plen,woFr,rdO,he,hn0,hn1]
    · have heb:(s1.2 == 0) = false:=beq_eq_false_iff_ne.2 he
      rcases htl with rfl | rfl
      · simp (maxSteps:=2000000) -implicitDefEqProofs [-getElem?_pos,go_sem,eqV,plen,woFr,rdO,heb]
      · simp (maxSteps:=2000000) -implicitDefEqProofs [-getElem?_pos,go_sem,eqV,plen,woFr,rdO,heb]
  rw [if_pos hcond]
  obtain ⟨he,hpos⟩:=hcond
  have hposi:(4:Int) < (n:Int):=by omega
  have e3:=clockOf_ev (H:=[some (rdO c 3 3 s1),some (whO {}),some (whO w)]) (o:=0) (t:=3) (w:=w) (m:=n == 11) rfl (jt c 3 s1) hc
  have hn11:((n:Int) == 11) = (n == 11):=by
    by_cases h:n = 11
    · subst h;rfl
    · have:(n == 11) = false:=by simpa using h
      rw [this];exact beq_eq_false_iff_ne.2 (by omega)
  generalize (n == 11) = nn at *
  generalize clF s1 w nn = r3 at *
  obtain ⟨w4,s4⟩:=r3
  simp only at *
  refine Tells.of (o:=⟨.normal,[(0,.ptr 0 0 0 0),(1,.int .u8 (t:Nat)),(4,.ptr 1 0 0 0),(6,.ptr 2 0 0 0)],[some (rdO c 3 3 s4),some (whO {}),some (whO w4)]⟩) ⟨0,?_⟩ ⟨rfl,⟨_,rfl,.inl rfl⟩,rfl⟩
  simp only [rdO,whO,Wh.pay,upd,List.set] at e3
  rw [he] at e3
  rcases htl with rfl | rfl
  · simp (maxSteps:=2000000) -implicitDefEqProofs [-getElem?_pos,go_sem,eqV,plen,woFr,rdO,whO,Wh.pay,mkWh,he,hposi,hpos,e3,hn11,flatCells,splice,scalars]
  · simp (maxSteps:=2000000) -implicitDefEqProofs [-getElem?_pos,go_sem,eqV,plen,woFr,rdO,whO,Wh.pay,mkWh,he,hposi,hpos,e3,hn11,flatCells,splice,scalars]
end
section
variable (c:Nat) (s:St) (t:Nat)
theorem wo_code (hc:c = 0→s.1 = []) (ht:t < 256):∃ code,Tryz.f65.body = some code ∧
    Tells (Rets fun fr H=>fr = [(4,.ptr 1 0 0 0)]∧H = [some (rdO c 3 3 (woF s t).2),some (whO (woF s t).1),some (whO (woF s t).1)]) X (evT X) 65 1 code [(0,.ptr 0 0 0 0),(1,.int .u8 (t:Nat))] [some (rdO c 3 3 s)]:=by
  refine ⟨_,rfl,?_⟩
  apply Tells.seq (fr':=[(0,.ptr 0 0 0 0),(1,.int .u8 (t:Nat)),(4,.ptr 1 0 0 0)]) (H':=[some (rdO c 3 3 s),some (whO {})])
  · (refine ⟨0,?_⟩;simp (maxSteps:=2000000) -implicitDefEqProofs [-getElem?_pos,go_sem,eqV,plen,rdO,whO,Wh.pay])
  have l1:=fx_lt (n:=1) s
  have e1:=byteF_ev (H:=[some (rdO c 3 3 s),some (whO {})]) (o:=0) (t:=3) rfl (jt c 3 s) hc
  have c1:=fx_nil (n:=1) hc
  have hwo:woF s t = ((whF s t).1,wrS (!fin (whF s t).1 t) (whF s t).2):=rfl
  have hwh:whF s t = if t = 11 then spF (fx 1 s).1 (wrS (spBad (fx 1 s).1) (fx 1 s).2) else moF (fx 1 s).1 (wrS (moBad (fx 1 s).1) (fx 1 s).2):=rfl
  have hnil:=whF_nil (t:=t) hc
  generalize fx 1 s = r1 at *
  obtain ⟨n,s1⟩:=r1
  simp only at *
  have w1:IntKind.i64.wrap (n:Int) = (n:Int):=wrap_i64 (by omega) (by omega)
  have hn:n < 256:=by simpa using l1
  apply Tells.seq (fr':=[(0,.ptr 0 0 0 0),(1,.int .u8 (t:Nat)),(4,.ptr 1 0 0 0),(5,.int .i64 (n:Nat))]) (H':=[some (rdO c 3 3 s1),some (whO {})])
  · simp only [rdO,whO,Wh.pay,upd,List.set] at e1
    (refine ⟨0,?_⟩;simp (maxSteps:=2000000) -implicitDefEqProofs [-getElem?_pos,go_sem,eqV,plen,rdO,whO,Wh.pay,e1,w1])
  have hb0:=bdW0
  apply Tells.seq (fr':=woFr t n []) (H':=[some (rdO c 3 3 s1),some (whO {}),some (whO {})])
  · (refine ⟨0,?_⟩;simp (maxSteps:=2000000) -implicitDefEqProofs [-getElem?_pos,go_sem,eqV,plen,woFr,rdO,whO,Wh.pay,hb0,mkWh,flatCells,splice,scalars])
  rw [hwo]
  generalize hq:whF s t = q at *
  apply Tells.andThen (P:=woP c t n q)
  · by_cases h11:t = 11
    · rw [if_pos h11] at hwh
      subst h11
      apply Tells.seq (fr':=woFr 11 n [(13,.bool true)]) (H':=[some (rdO c 3 3 s1),some (whO {}),some (whO {})])
      · (refine ⟨0,?_⟩;simp (maxSteps:=2000000) -implicitDefEqProofs [-getElem?_pos,go_sem,eqV,plen,woFr])
      apply Tells.condT (by simp [evalO,getF,woFr])
      refine (piece (wo_span c s1 11 n c1 hn) _ rfl).mono ?_
      rintro o ⟨h1,⟨tl,h2,h3,h4⟩,h5⟩
      rw [← hwh] at h5
      refine ⟨h1,⟨tl,h2,?_⟩,h5⟩
      rcases h4 with h4 | h4
      · exact .inl h4
      · exact .inr ⟨34,by decide,h4⟩
    · rw [if_neg h11] at hwh
      have h11b:((t:Int) == 11) = false:=beq_eq_false_iff_ne.2 (by omega)
      apply Tells.seq (fr':=woFr t n [(13,.bool false)]) (H':=[some (rdO c 3 3 s1),some (whO {}),some (whO {})])
      · (refine ⟨0,?_⟩;simp (maxSteps:=2000000) -implicitDefEqProofs [-getElem?_pos,go_sem,eqV,plen,woFr,h11b])
      apply Tells.condF (by simp [evalO,getF,woFr])
      refine piece (wo_day c s1 t n c1 hn _ ?_) _ rfl
      intro code hcode tl htl
      have:=piece (wo_clock c t n (dyF n (wrS (moBad n) s1)) (dyF_nil c1) hn tl htl) _ hcode
      rw [hwh]
      exact this
  rintro fr H ⟨⟨tl,rfl,htl⟩,rfl⟩
  obtain ⟨w,s4⟩:=q
  simp only at *
  have hF:=rfin_ev w ht [some (rdO c 3 3 s4),some (whO {}),some (whO w)]
  have e4:=wrS_ev (H:=[some (rdO c 3 3 s4),some (whO {}),some (whO w)]) (bad:=!fin w t) rfl
  generalize wrS (!fin w t) s4 = s5 at *
  generalize fin w t = ff at *
  refine Tells.of (o:=⟨.ret,[(4,.ptr 1 0 0 0)],[some (rdO c 3 3 s5),some (whO w),some (whO w)]⟩) ⟨0,?_⟩ ⟨rfl,rfl,rfl⟩
  simp only [rdO,whO,Wh.pay,upd,List.set] at e4 hF
  rcases htl with rfl | ⟨j,hj,rfl⟩
  · simp (maxSteps:=2000000) -implicitDefEqProofs [-getElem?_pos,go_sem,eqV,plen,rdO,whO,Wh.pay,mkWh,hF,unV,e4,flatCells,splice,scalars]
  · simp (maxSteps:=2000000) -implicitDefEqProofs [-getElem?_pos,go_sem,eqV,plen,rdO,whO,Wh.pay,mkWh,hF,unV,e4,flatCells,splice,scalars]
end
theorem wo_ev {H:AM.Heap} {o c k tg t:Nat} {s:St} (ho:H[o]? = some (some (rdO c k tg s))) (hj:joinTags (tagsOb (rdO c k tg s)) = some k) (hc:c = 0→s.1 = []) (ht:t < 256) :
    evT X 65 [.ptr o 0 0 0,.int .u8 (t:Nat)] H = some (.agg (woF s t).1.pay,upd H o (some (rdO c k k (woF s t).2))):=by
  obtain ⟨code,hcode,out,⟨he,hfr,hH⟩,hr⟩:=wo_code c s t hc ht
  generalize woF s t = q at *
  have:=Ev1.box (C:=X) (f:=65) (H:=H) (o:=o) (g:=0) (ob:=rdO c k tg s) (ob1:=rdO c 3 3 q.2) (xs:=[.int .u8 (t:Nat)]) (ys:=[.int .u8 (t:Nat)]) (n:=3) (t:=k) (rest:=[some (whO q.1),some (whO q.1)])
    (l:=[.agg q.1.pay]) (evT_below X) Tryz.func65 hcode rfl ho rfl rfl (args_flat (i:=1) rfl rfl (args_nil 2)) rfl rfl rfl (by simp [gtag]) hj hr (.inr he)
    (by rw [hfr,hH];show resultsV X [(4,.ptr 1 0 0 0)] [some (rdO c 3 3 q.2),some (whO q.1),some (whO q.1)] [.cell 4 39] = _;simp [resultsV,getF,loadV,live,whO,pagg,mkWh,Wh.pay]) hH rfl rfl (by simp [resultV,ids,idsL,Wh.pay])
    (by intro k hk;right;simpa [resultV,tags,tagsOb,rdO,tagsL,Wh.pay] using hk) (.inr rfl)
  exact evT_eq (by simpa [rdO,ren,renL,bk,resultV,Wh.pay] using this)
end Go.Proofs.YtafdnpcamepbmaaGreatDoor
