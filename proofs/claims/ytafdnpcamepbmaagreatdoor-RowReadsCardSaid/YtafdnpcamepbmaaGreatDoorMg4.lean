/- VQ to V3c: texts of this claim, one behind the other; what each shows stands at its head. -/
import Derived.Test.YtafdnpcamepbmaaGreatDoorAm3
import Derived.Test.YtafdnpcamepbmaaGreatDoorMg3
set_option linter.unusedSimpArgs false
set_option linter.unusedVariables false
set_option maxRecDepth 100000
set_option maxHeartbeats 8000000
namespace Go.Proofs.YtafdnpcamepbmaaGreatDoor
open Go.AM
def fdV (b:List UInt8) (t:Ty) (k:Int):Va × St :=
  if k = 1 then ({ k:=1,i:=sgV ((fx (rsizeN t.t) (b,0)).1:Nat) (rsizeN t.t) },(fx (rsizeN t.t) (b,0)).2) else
  if k = 2∨k = 3∨k = 4 then ({ k:=k,b:=(fx (rsizeN t.t) (b,0)).1 },(fx (rsizeN t.t) (b,0)).2) else
  if k = 5∨k = 6 then ({ k:=k,w:=(woF (b,0) t.t).1 },(woF (b,0) t.t).2) else
  if k = 7 then ({ k:=7,t:=(rtF (b,0)).1 },wrS (decide (16777216 < (rtF (b,0)).1.length)) (rtF (b,0)).2) else ({ k:=k },(b,0))
def rrV (b:List UInt8) (t:Ty):Va × Nat × Int :=
  if kindN t.t t.u < 0 then ({},0,2) else
  if (fdV b t (kindN t.t t.u)).2.2 ≠ 0 then ({},0,(fdV b t (kindN t.t t.u)).2.2) else ((fdV b t (kindN t.t t.u)).1,b.length - (fdV b t (kindN t.t t.u)).2.1.length,0)
theorem clF_len (s:St) (w:Wh) (m:Bool):(clF s w m).2.1.length≤s.1.length:=by
  unfold clF
  have h1:=fx_len 1 s
  have h2:=fx_len 1 (fx 1 s).2
  have h3:=fx_len 1 (fx 1 (fx 1 s).2).2
  have h4:=fx_len 4 (fx 1 (fx 1 (fx 1 s).2).2).2
  cases m
  · exact Nat.le_trans h3 (Nat.le_trans h2 h1)
  · exact Nat.le_trans h4 (Nat.le_trans h3 (Nat.le_trans h2 h1))
theorem dyF_len (n:Nat) (s:St):(dyF n s).2.1.length≤s.1.length:=by
  unfold dyF
  split
  · exact Nat.le_trans (fx_len 1 _) (Nat.le_trans (fx_len 1 _) (fx_len 2 _))
  · exact Nat.le_refl _
theorem whF_len (s:St) (t:Nat):(whF s t).2.1.length≤s.1.length:=by
  unfold whF spF moF
  repeat' split
  · exact Nat.le_trans (clF_len _ _ _) (Nat.le_trans (fx_len 4 _) (Nat.le_trans (fx_len 1 _) (fx_len 1 s)))
  · exact fx_len 1 s
  · exact Nat.le_trans (clF_len _ _ _) (Nat.le_trans (dyF_len _ _) (fx_len 1 s))
  · exact Nat.le_trans (dyF_len _ _) (fx_len 1 s)
theorem fdV_len (b:List UInt8) (t:Ty) (k:Int):(fdV b t k).2.1.length≤b.length:=by
  unfold fdV
  repeat' split
  · exact fx_len _ (b,0)
  · exact fx_len _ (b,0)
  · exact whF_len (b,0) t.t
  · exact rtF_len (b,0)
  · exact Nat.le_refl _
theorem bdF (c t:Nat) (b:List UInt8):buildV X 49 [(0,.ro c (.pb b) t)] = some (.agg (.pc [.ro c (.pb b) t,.int .i64 0])):=by kernel_rfl
theorem bvVk (k:Int):buildV X 41 [(0,.int .i64 k)] = some (.agg (Va.pay { k:=k })):=by kernel_rfl
section
variable (c:Nat) (b:List UInt8) (t:Ty)
def rfO (s:St) (tg:Nat):AM.Obj:=rdO c 1 tg s
def fdP (k:Int) (fr:AM.Frame) (H:AM.Heap):Prop:=∃ tl tg,fr = [(0,.ro c (.pb b) 1),(4,.ptr 1 0 0 0),(8,.ptr 2 0 0 0),(9,.ptr 3 0 0 0)] ++ tl∧(tl = []∨tl = [(60,.bool false)])∧H = [some (tyO t),some (vaO {}),some (rfO c (fdV b t k).2 tg),some (vaO (fdV b t k).1)]
def fdFr (k:Int):AM.Frame:=[(0,.ro c (.pb b) 1),(3,.ptr 0 0 0 0),(4,.ptr 1 0 0 0),(8,.ptr 2 0 0 0),(9,.ptr 3 0 0 0),(10,.int .i64 (rsizeN t.t:Nat)),(25,.int .i64 k)]
def fdHp (k:Int):AM.Heap:=[some (tyO t),some (vaO {}),some (rfO c (b,0) 0),some (vaO { k:=k })]
theorem jt0 (s:St):joinTags (tagsOb (rdO c 1 0 s)) = some 1:=by
  simp [tagsOb,rdO,tags,tagsL,joinTags,joinTag]
theorem fd_code (k:Int) (hk:0≤k∧k≤7) (hk2:k = kindN t.t t.u) (hc:c = 0→b = []) (ht:t.t < 256) (hbm:b.length≤90000000) :
    ∃ code,((Tryz.f46.body).bind (codeAt [1,1,1,1,1,1,0,1])) = some code∧Tells (Goes (fdP c b t k)) X (evT X) 46 0 code (fdFr c b t k) (fdHp c b t k):=by
  refine ⟨_,rfl,?_⟩
  apply Tells.blk (hq:=fun o h=>by rw [h.1];simp)
  have hrs:=rsz t.t
  unfold fdP fdV
  have hF:=fixedF_ev (H:=fdHp c b t k) (N:=(rsizeN t.t:Nat)) (n:=rsizeN t.t) (o:=2) (c:=c) (t:=1) (tg:=0) (s:=(b,0)) rfl rfl (jt0 c _) hc (by omega) (by omega)
  have hxl:=fx_lt (n:=rsizeN t.t) (b,0)
  generalize hn:rsizeN t.t = n at *
  have hx8:256 ^ n≤256 ^ 8:=Nat.pow_le_pow_right (by omega) (by omega)
  rcases (show k = 0∨k = 1∨k = 2∨k = 3∨k = 4∨k = 5∨k = 6∨k = 7 by omega) with rfl | rfl | rfl | rfl | rfl | rfl | rfl | rfl
  · refine Tells.of (o:=⟨.normal,[(0,.ro c (.pb b) 1),(4,.ptr 1 0 0 0),(8,.ptr 2 0 0 0),(9,.ptr 3 0 0 0),(60,.bool false)],fdHp c b t 0⟩) ⟨0,?_⟩ ⟨rfl,[(60,.bool false)],0,rfl,.inr rfl,rfl⟩
    simp (maxSteps:=2000000) -implicitDefEqProofs [-getElem?_pos,go_sem,eqV,plen,fdFr]
  · generalize fx n (b,0) = r at *
    obtain ⟨x,s⟩:=r
    simp only at *
    refine Tells.of (o:=⟨.normal,[(0,.ro c (.pb b) 1),(4,.ptr 1 0 0 0),(8,.ptr 2 0 0 0),(9,.ptr 3 0 0 0)],[some (tyO t),some (vaO {}),some (rfO c s 1),some (vaO { k:=1,i:=sgV (x:Nat) n })]⟩) ⟨0,?_⟩ ⟨rfl,[],1,rfl,.inl rfl,rfl⟩
    have w1:IntKind.i64.wrap (8 * (n:Int)) = ((8 * n:Nat):Int):=by rw [wrap_i64 (by omega) (by omega)];omega
    have w2:IntKind.i64.wrap (64 - ((8 * n:Nat):Int)) = ((64 - 8 * n:Nat):Int):=by rw [wrap_i64 (by omega) (by omega)];omega
    have w3:IntKind.u64.wrap ((64 - 8 * n:Nat):Int) = ((64 - 8 * n:Nat):Int):=wrap_u64 (by omega) (by omega)
    have hsg:sgV (x:Int) n = Int.fdiv (IntKind.i64.wrap (IntKind.u64.wrap ((x:Int) * 2 ^ (64 - 8 * n)))) (2 ^ (64 - 8 * n)):=rfl
    have hsh0:¬ ((64 - 8 * n:Nat):Int) < 0:=by omega
    have hmin:min (64 - 8 * n) 64 = 64 - 8 * n:=by omega
    rw [hsg]
    generalize hsh:64 - 8 * n = sh at *
    generalize h8:8 * n = n8 at *
    generalize hz:IntKind.u64.wrap ((x:Int) * 2 ^ sh) = z at *
    generalize hz2:IntKind.i64.wrap z = z2 at *
    simp only [fdHp,tyO,Ty.pay,vaO,Va.pay,rfO,rdO,upd,List.set,Int.cast_ofNat_Int] at hF
    unfold fdHp
    simp (maxSteps:=2000000) -implicitDefEqProofs [-getElem?_pos,go_sem,eqV,plen,fdFr,hn,tyO,Ty.pay,vaO,Va.pay,rfO,rdO,hF,w1,w2,w3,hsh0,hmin,hz,hz2,show IntKind.u64.bits = 64 from rfl,show IntKind.i64.bits = 64 from rfl]
  · generalize fx n (b,0) = r at *
    obtain ⟨x,s⟩:=r
    simp only at *
    refine Tells.of (o:=⟨.normal,[(0,.ro c (.pb b) 1),(4,.ptr 1 0 0 0),(8,.ptr 2 0 0 0),(9,.ptr 3 0 0 0)],[some (tyO t),some (vaO {}),some (rfO c s 1),some (vaO { k:=2,b:=x })]⟩) ⟨0,?_⟩ ⟨rfl,[],1,rfl,.inl rfl,rfl⟩
    simp only [fdHp,tyO,Ty.pay,vaO,Va.pay,rfO,rdO,upd,List.set,Int.cast_ofNat_Int] at hF
    unfold fdHp
    simp (maxSteps:=2000000) -implicitDefEqProofs [-getElem?_pos,go_sem,eqV,plen,fdFr,hn,tyO,Ty.pay,vaO,Va.pay,rfO,rdO,hF]
  · generalize fx n (b,0) = r at *
    obtain ⟨x,s⟩:=r
    simp only at *
    refine Tells.of (o:=⟨.normal,[(0,.ro c (.pb b) 1),(4,.ptr 1 0 0 0),(8,.ptr 2 0 0 0),(9,.ptr 3 0 0 0)],[some (tyO t),some (vaO {}),some (rfO c s 1),some (vaO { k:=3,b:=x })]⟩) ⟨0,?_⟩ ⟨rfl,[],1,rfl,.inl rfl,rfl⟩
    simp only [fdHp,tyO,Ty.pay,vaO,Va.pay,rfO,rdO,upd,List.set,Int.cast_ofNat_Int] at hF
    unfold fdHp
    simp (maxSteps:=2000000) -implicitDefEqProofs [-getElem?_pos,go_sem,eqV,plen,fdFr,hn,tyO,Ty.pay,vaO,Va.pay,rfO,rdO,hF]
  · generalize fx n (b,0) = r at *
    obtain ⟨x,s⟩:=r
    simp only at *
    refine Tells.of (o:=⟨.normal,[(0,.ro c (.pb b) 1),(4,.ptr 1 0 0 0),(8,.ptr 2 0 0 0),(9,.ptr 3 0 0 0)],[some (tyO t),some (vaO {}),some (rfO c s 1),some (vaO { k:=4,b:=x })]⟩) ⟨0,?_⟩ ⟨rfl,[],1,rfl,.inl rfl,rfl⟩
    simp only [fdHp,tyO,Ty.pay,vaO,Va.pay,rfO,rdO,upd,List.set,Int.cast_ofNat_Int] at hF
    unfold fdHp
    simp (maxSteps:=2000000) -implicitDefEqProofs [-getElem?_pos,go_sem,eqV,plen,fdFr,hn,tyO,Ty.pay,vaO,Va.pay,rfO,rdO,hF]
  · have hW:=wo_ev (H:=fdHp c b t 5) (o:=2) (c:=c) (k:=1) (tg:=0) (t:=t.t) (s:=(b,0)) rfl (jt0 c _) hc ht
    generalize woF (b,0) t.t = r at *
    obtain ⟨w,s⟩:=r
    simp only at *
    refine Tells.of (o:=⟨.normal,[(0,.ro c (.pb b) 1),(4,.ptr 1 0 0 0),(8,.ptr 2 0 0 0),(9,.ptr 3 0 0 0)],[some (tyO t),some (vaO {}),some (rfO c s 1),some (vaO { k:=5,w:=w })]⟩) ⟨0,?_⟩ ⟨rfl,[],1,rfl,.inl rfl,rfl⟩
    clear hF
    simp only [fdHp,tyO,Ty.pay,vaO,Va.pay,Wh.pay,rfO,rdO,upd,List.set,Int.cast_ofNat_Int] at hW
    unfold fdHp
    simp (maxSteps:=2000000) -implicitDefEqProofs [-getElem?_pos,go_sem,eqV,plen,fdFr,hn,tyO,Ty.pay,vaO,Va.pay,Wh.pay,rfO,rdO,hW,flatCells,splice,scalars]
  · have hW:=wo_ev (H:=fdHp c b t 6) (o:=2) (c:=c) (k:=1) (tg:=0) (t:=t.t) (s:=(b,0)) rfl (jt0 c _) hc ht
    generalize woF (b,0) t.t = r at *
    obtain ⟨w,s⟩:=r
    simp only at *
    refine Tells.of (o:=⟨.normal,[(0,.ro c (.pb b) 1),(4,.ptr 1 0 0 0),(8,.ptr 2 0 0 0),(9,.ptr 3 0 0 0)],[some (tyO t),some (vaO {}),some (rfO c s 1),some (vaO { k:=6,w:=w })]⟩) ⟨0,?_⟩ ⟨rfl,[],1,rfl,.inl rfl,rfl⟩
    clear hF
    simp only [fdHp,tyO,Ty.pay,vaO,Va.pay,Wh.pay,rfO,rdO,upd,List.set,Int.cast_ofNat_Int] at hW
    unfold fdHp
    simp (maxSteps:=2000000) -implicitDefEqProofs [-getElem?_pos,go_sem,eqV,plen,fdFr,hn,tyO,Ty.pay,vaO,Va.pay,Wh.pay,rfO,rdO,hW,flatCells,splice,scalars]
  · have hT:=ftext_ev (H:=fdHp c b t 7) (o:=2) (c:=c) (t:=1) (tg:=0) (s:=(b,0)) rfl (jt0 c _) hc hbm
    generalize rtF (b,0) = r at *
    obtain ⟨x,s⟩:=r
    simp only at *
    have hW:=wrong_ev (H:=[some (tyO t),some (vaO {}),some (rfO c s 1),some (vaO { k:=7,t:=x })]) (o:=2) (c:=c) (t:=1) (tg:=1) (k:=1) (p:=.pb s.1) (l:=s.1) (e:=s.2) (bad:=decide (16777216 < x.length)) rfl (.inl rfl) (jt c 1 s)
    have hd:decide ((16777216:Int) < (x.length:Int)) = decide (16777216 < x.length):=by
      by_cases h:16777216 < x.length
      · rw [decide_eq_true h];exact decide_eq_true (by omega)
      · rw [decide_eq_false h];exact decide_eq_false (by omega)
    generalize decide (16777216 < x.length) = dd at *
    refine Tells.of (o:=⟨.normal,[(0,.ro c (.pb b) 1),(4,.ptr 1 0 0 0),(8,.ptr 2 0 0 0),(9,.ptr 3 0 0 0)],[some (tyO t),some (vaO {}),some (rfO c (wrS dd s) 1),some (vaO { k:=7,t:=x })]⟩) ⟨0,?_⟩ ⟨rfl,[],1,rfl,.inl rfl,rfl⟩
    clear hF
    simp only [fdHp,tyO,Ty.pay,vaO,Va.pay,Wh.pay,rfO,rdO,bxO,upd,List.set,Int.cast_ofNat_Int] at hT hW
    unfold fdHp
    simp (maxSteps:=2000000) -implicitDefEqProofs [-getElem?_pos,go_sem,eqV,plen,fdFr,hn,tyO,Ty.pay,vaO,Va.pay,rfO,rdO,wrS,hT,hW,hd,flatCells,splice,scalars]
theorem rvread_code (hc:c = 0→b = []) (ht:t.t < 256) (hbm:b.length≤90000000):∃ code,Tryz.f46.body = some code ∧
    Tells (Rets (rvQ (rrV b t))) X (evT X) 46 0 code [(0,.ro c (.pb b) 1),(1,.agg t.pay)] []:=by
  refine ⟨_,rfl,?_⟩
  have hK:=rkind_ev ht [some (tyO t),some (vaO {})]
  have hbd:=kind_bd t.t t.u
  have hb0:=bvV0
  have hS:=rsize_ev' ht [some (tyO t),some (vaO {}),some (rfO c (b,0) 0),some (vaO { k:=kindN t.t t.u })]
  apply Tells.seq (fr':=[(0,.ro c (.pb b) 1),(3,.ptr 0 0 0 0),(4,.ptr 1 0 0 0)]) (H':=[some (tyO t),some (vaO {})])
  · (refine ⟨0,?_⟩;simp (maxSteps:=2000000) -implicitDefEqProofs [-getElem?_pos,go_sem,eqV,plen,tyO,Ty.pay,vaO,Va.pay])
  apply Tells.seq (fr':=[(0,.ro c (.pb b) 1),(3,.ptr 0 0 0 0),(4,.ptr 1 0 0 0),(7,.int .i64 (kindN t.t t.u))]) (H':=[some (tyO t),some (vaO {})])
  · simp only [tyO,Ty.pay,vaO,Va.pay,Int.cast_ofNat_Int] at hK
    generalize kindN t.t t.u = k at *
    (refine ⟨0,?_⟩;simp (maxSteps:=2000000) -implicitDefEqProofs [-getElem?_pos,go_sem,eqV,plen,tyO,Ty.pay,vaO,Va.pay,mkTy,hK])
  clear hK
  apply Tells.assoc
  unfold rrV
  by_cases h1:kindN t.t t.u < 0
  · rw [if_pos h1]
    refine Tells.of (o:=⟨.ret,[(4,.ptr 1 0 0 0),(5,.int .i64 0),(6,.int .i64 2)],[some (tyO t),some (vaO {})]⟩) ⟨0,?_⟩ ⟨rfl,rfl,rfl,rfl,rfl⟩
    simp only [Va.pay,Int.cast_ofNat_Int] at hb0
    generalize kindN t.t t.u = k at *
    simp (maxSteps:=2000000) -implicitDefEqProofs [-getElem?_pos,go_sem,eqV,plen,h1,tyO,Ty.pay,vaO,Va.pay,hb0,mkVa,flatCells,splice,scalars]
  rw [if_neg h1]
  apply Tells.seq (fr':=[(0,.ro c (.pb b) 1),(3,.ptr 0 0 0 0),(4,.ptr 1 0 0 0),(7,.int .i64 (kindN t.t t.u)),(15,.bool false)]) (H':=[some (tyO t),some (vaO {})])
  · generalize kindN t.t t.u = k at *
    (refine ⟨0,?_⟩;simp (maxSteps:=2000000) -implicitDefEqProofs [-getElem?_pos,go_sem,eqV,plen,h1])
  apply Tells.seq (fr':=[(0,.ro c (.pb b) 1),(3,.ptr 0 0 0 0),(4,.ptr 1 0 0 0),(7,.int .i64 (kindN t.t t.u)),(15,.bool false)]) (H':=[some (tyO t),some (vaO {})])
  · exact condF (by simp [evalO,getF]) ⟨0,rfl⟩
  have hbf:=fun c t b=>bdF c t b
  have hbk:=fun k=>bvVk k
  apply Tells.seq (fr':=[(0,.ro c (.pb b) 1),(3,.ptr 0 0 0 0),(4,.ptr 1 0 0 0),(7,.int .i64 (kindN t.t t.u)),(8,.ptr 2 0 0 0)]) (H':=[some (tyO t),some (vaO {}),some (rfO c (b,0) 0)])
  · generalize kindN t.t t.u = k at *
    (refine ⟨0,?_⟩;simp (maxSteps:=2000000) -implicitDefEqProofs [-getElem?_pos,go_sem,eqV,plen,hbf,tyO,Ty.pay,vaO,Va.pay,rfO,rdO])
  apply Tells.seq (fr':=[(0,.ro c (.pb b) 1),(3,.ptr 0 0 0 0),(4,.ptr 1 0 0 0),(7,.int .i64 (kindN t.t t.u)),(8,.ptr 2 0 0 0),(9,.ptr 3 0 0 0)]) (H':=[some (tyO t),some (vaO {}),some (rfO c (b,0) 0),some (vaO { k:=kindN t.t t.u })])
  · simp only [Va.pay,Int.cast_ofNat_Int] at hbk
    generalize kindN t.t t.u = k at *
    (refine ⟨0,?_⟩;simp (maxSteps:=2000000) -implicitDefEqProofs [-getElem?_pos,go_sem,eqV,plen,hbk,tyO,Ty.pay,vaO,Va.pay,rfO,rdO,mkVa,flatCells,splice,scalars])
  apply Tells.seq (fr':=[(0,.ro c (.pb b) 1),(3,.ptr 0 0 0 0),(4,.ptr 1 0 0 0),(7,.int .i64 (kindN t.t t.u)),(8,.ptr 2 0 0 0),(9,.ptr 3 0 0 0),(10,.int .i64 (rsizeN t.t:Nat))]) (H':=[some (tyO t),some (vaO {}),some (rfO c (b,0) 0),some (vaO { k:=kindN t.t t.u })])
  · simp only [tyO,Ty.pay,vaO,Va.pay,rfO,rdO,Int.cast_ofNat_Int] at hS
    generalize kindN t.t t.u = k at *
    generalize rsizeN t.t = n at *
    (refine ⟨0,?_⟩;simp (maxSteps:=2000000) -implicitDefEqProofs [-getElem?_pos,go_sem,eqV,plen,tyO,Ty.pay,vaO,Va.pay,rfO,rdO,hS])
  clear hS
  apply Tells.assoc
  apply Tells.seq (fr':=fdFr c b t (kindN t.t t.u)) (H':=fdHp c b t (kindN t.t t.u))
  · unfold fdFr fdHp
    generalize kindN t.t t.u = k at *
    generalize rsizeN t.t = n at *
    (refine ⟨0,?_⟩;simp (maxSteps:=2000000) -implicitDefEqProofs [-getElem?_pos,go_sem,eqV,plen])
  apply Tells.andThen (P:=fdP c b t (kindN t.t t.u))
  · exact piece (fd_code c b t _ (by omega) rfl hc ht hbm) _ rfl
  rintro fr H ⟨tl,tg,rfl,htl,rfl⟩
  apply Tells.assoc
  have hsl:=fdV_len b t (kindN t.t t.u)
  generalize fdV b t (kindN t.t t.u) = q at *
  obtain ⟨v,s⟩:=q
  simp only at *
  by_cases he:s.2 = 0
  case neg =>
    rw [if_pos he]
    have heb:(s.2 != 0) = true:=by simpa using he
    apply Tells.seq (fr':=[(0,.ro c (.pb b) 1),(4,.ptr 1 0 0 0),(8,.ptr 2 0 0 0),(9,.ptr 3 0 0 0),(75,.bool true)]) (H':=[some (tyO t),some (vaO {}),some (rfO c s tg),some (vaO v)])
    · rcases htl with rfl | rfl
      · (refine ⟨0,?_⟩;simp (maxSteps:=2000000) -implicitDefEqProofs [-getElem?_pos,go_sem,eqV,plen,rfO,rdO,heb])
      · (refine ⟨0,?_⟩;simp (maxSteps:=2000000) -implicitDefEqProofs [-getElem?_pos,go_sem,eqV,plen,rfO,rdO,heb])
    refine Tells.seqOut (Tells.condT (by simp [evalO,getF]) ?_) (fun o h=>by rw [h.1];simp)
    refine Tells.of (o:=⟨.ret,[(4,.ptr 1 0 0 0),(5,.int .i64 0),(6,.int .i64 s.2)],[some (tyO t),some (vaO {}),some (rfO c s tg),some (vaO v)]⟩) ?_ ⟨rfl,rfl,rfl,rfl,rfl⟩
    apply Run.seq (fr':=[(4,.ptr 1 0 0 0),(5,.int .i64 0),(6,.int .i64 s.2)]) (H':=[some (tyO t),some (vaO {}),some (rfO c s tg),some (vaO v)])
    · simp only [Va.pay,Int.cast_ofNat_Int] at hb0
      apply Run.dy (by simp) keep46_22 (by simp)
      · (conv=>lhs;simp (maxSteps:=2000000) -implicitDefEqProofs [-getElem?_pos,go_sem,eqV,plen,runD,out1,markOf,freeO,quietO,pushes,isAssign,calledV,touched,mentioned,opVals,touchCall,mentionCall,idsAt,Op.operands,ids,idsL,lendArgs,lendV,lend1,lendL,eqH_self,hb0,tyO,Ty.pay,vaO,Va.pay,rfO,rdO,mkVa,flatCells,splice,scalars,upd])
        rfl
      · kernel_rfl
      · rfl
    exact ⟨0,rfl⟩
  rw [if_neg (by simpa using he)]
  apply Tells.seq (fr':=[(0,.ro c (.pb b) 1),(4,.ptr 1 0 0 0),(8,.ptr 2 0 0 0),(9,.ptr 3 0 0 0),(75,.bool false)]) (H':=[some (tyO t),some (vaO {}),some (rfO c s tg),some (vaO v)])
  · rcases htl with rfl | rfl
    · (refine ⟨0,?_⟩;simp (maxSteps:=2000000) -implicitDefEqProofs [-getElem?_pos,go_sem,eqV,plen,rfO,rdO,he])
    · (refine ⟨0,?_⟩;simp (maxSteps:=2000000) -implicitDefEqProofs [-getElem?_pos,go_sem,eqV,plen,rfO,rdO,he])
  apply Tells.seq (fr':=[(0,.ro c (.pb b) 1),(4,.ptr 1 0 0 0),(8,.ptr 2 0 0 0),(9,.ptr 3 0 0 0),(75,.bool false)]) (H':=[some (tyO t),some (vaO {}),some (rfO c s tg),some (vaO v)])
  · exact condF (by simp [evalO,getF]) ⟨0,rfl⟩
  have w1:IntKind.i64.wrap ((b.length:Int) - (s.1.length:Int)) = ((b.length - s.1.length:Nat):Int):=by rw [wrap_i64 (by omega) (by omega)];omega
  refine Tells.of (o:=⟨.ret,[(4,.ptr 1 0 0 0),(5,.int .i64 ((b.length - s.1.length:Nat):Int)),(6,.int .i64 0)],[some (tyO t),some (vaO v),some (rfO c s tg),some (vaO v)]⟩) ?_ ⟨rfl,rfl,rfl,rfl,rfl⟩
  apply Run.seq (fr':=[(4,.ptr 1 0 0 0),(5,.int .i64 ((b.length - s.1.length:Nat):Int)),(6,.int .i64 0)]) (H':=[some (tyO t),some (vaO v),some (rfO c s tg),some (vaO v)])
  · generalize b.length - s.1.length = n at *
    apply Run.dy (by simp) keep46_23 (by simp)
    · (conv=>lhs;simp (maxSteps:=2000000) -implicitDefEqProofs [-getElem?_pos,go_sem,eqV,plen,runD,out1,markOf,freeO,quietO,pushes,isAssign,calledV,touched,mentioned,opVals,touchCall,mentionCall,idsAt,Op.operands,ids,idsL,lendArgs,lendV,lend1,lendL,eqH_self,tyO,Ty.pay,vaO,Va.pay,rfO,rdO,w1,mkVa,flatCells,splice,scalars,upd])
      rfl
    · kernel_rfl
    · rfl
  exact ⟨0,rfl⟩
end
theorem rvread_ev {H:AM.Heap} {a:AV} {b:List UInt8} {t:Ty} (h:Byt H a b) (ht:t.t < 256) (hbm:b.length≤90000000) :
    evT X 46 [a,.agg t.pay] H = some (.tup [.agg (rrV b t).1.pay,.int .i64 ((rrV b t).2.1:Nat),.int .i64 (rrV b t).2.2],H):=by
  obtain ⟨c,p,xl,hp,hc,hx'⟩:=args_byt (C:=X) (f:=46) (i:=0) rfl h (args_ty (f:=46) (i:=1) (t:=t) (args_nil 2))
  obtain ⟨code,hcode,o,⟨he,q4,q0,q5,q6⟩,hr⟩:=rvread_code c b t hc ht hbm
  refine evT_eq (Ev1.toldP (l:=[.agg (rrV b t).1.pay,.int .i64 ((rrV b t).2.1:Nat),.int .i64 (rrV b t).2.2]) (evT_below X) Tryz.func46 hcode hx' (by simp [idsL,ids,Ty.pay]) (by simp [gtag]) (by simp [idsL,ids,Va.pay]) (by simp [tagsL,tags,Va.pay]) rfl ⟨o,⟨he,?_⟩,by rw [par46,coB hp];exact hr⟩)
  generalize rrV b t = r at *
  show resultsV X o.fr o.H [.cell 4 41,.tmp 5,.tmp 6] = _
  simp only [vaO,Va.pay] at q0
  simp [resultsV,q4,q5,q6,loadV,live,q0,pagg,mkVa,Va.pay]
end Go.Proofs.YtafdnpcamepbmaaGreatDoor
namespace Go.Proofs.YtafdnpcamepbmaaGreatDoor
open Go.AM
theorem fx_at (l:List UInt8) (i k:Nat) (h:i + k≤l.length):fx k (l.drop i,0) = (nb l i k,l.drop (i + k),0):=by
  unfold fx nb
  rw [if_neg (by simp),if_neg (by simp only [List.length_drop];omega),List.drop_drop]
def rds (ks:List Nat) (s:St):St:=ks.foldl (fun s k=>(fx k s).2) s
theorem rds_err (ks:List Nat):∀ s:St,s.2 = 4→(rds ks s).2 = 4:=by
  induction ks with
  | nil=>intro s h;exact h
  | cons k ks ih =>
    intro s h
    refine ih _ (show (fx k s).2.2 = 4 from ?_)
    unfold fx
    rw [if_pos (by rw [h];decide)];exact h
theorem rds_short (l:List UInt8) (ks:List Nat):∀ i,i≤l.length→l.length < i + ks.sum→(rds ks (l.drop i,0)).2 = 4:=by
  induction ks with
  | nil=>intro i h1 h2;simp at h2;omega
  | cons k ks ih =>
    intro i h1 h2
    simp only [List.sum_cons] at h2
    show (rds ks (fx k (l.drop i,0)).2).2 = 4
    by_cases h:i + k≤l.length
    · rw [fx_at l i k h]
      exact ih (i + k) h (by omega)
    · refine rds_err ks _ ?_
      unfold fx
      rw [if_neg (by simp),if_pos (by simp only [List.length_drop];omega)]
theorem nb_take (l:List UInt8) (n i k:Nat) (z:List UInt8) (h:i + k≤n) (hn:n≤l.length):nb (l.take n ++ z) i k = nb l i k:=by
  unfold nb
  rw [List.drop_append_of_le_length (by simp;omega),List.take_append_of_le_length (by simp;omega),List.drop_take,List.take_take,Nat.min_eq_left (by omega)]
theorem leV_rep:∀ n,leV (List.replicate n 0) = 0:=leV_zeros
theorem nb_zero (l:List UInt8) (n i k m:Nat) (h:n≤i) (hn:n≤l.length):nb (l.take n ++ List.replicate m 0) i k = 0:=by
  unfold nb
  rw [List.drop_append,List.drop_of_length_le (by simp;omega),List.nil_append,List.drop_replicate,List.take_replicate,leV_rep]
theorem wr0 (b:Bool):wr b 0 = if b = true then 5 else 0:=by unfold wr;cases b <;> rfl
theorem kn_sp (n:Nat):spBad n = !knW n 11:=by
  unfold spBad knW szL
  rw [if_pos rfl]
  by_cases h0:n = 0
  · subst h0;rfl
  by_cases h8:n = 8
  · subst h8;rfl
  by_cases h12:n = 12
  · subst h12;rfl
  have e0:((n:Int) == 0) = false:=beq_eq_false_iff_ne.2 (by omega)
  have e8:((n:Int) == 8) = false:=beq_eq_false_iff_ne.2 (by omega)
  have e12:((n:Int) == 12) = false:=beq_eq_false_iff_ne.2 (by omega)
  simp [h0,h8,h12,e0,e8,e12]
theorem kn_mo (n t:Nat) (h:t ≠ 11):moBad n = !knW n t:=by
  unfold moBad knW szL
  rw [if_neg h]
  by_cases h0:n = 0
  · subst h0;rfl
  by_cases h8:n = 4
  · subst h8;rfl
  by_cases h12:n = 7
  · subst h12;rfl
  by_cases h13:n = 11
  · subst h13;rfl
  have e0:((n:Int) == 0) = false:=beq_eq_false_iff_ne.2 (by omega)
  have e8:((n:Int) == 4) = false:=beq_eq_false_iff_ne.2 (by omega)
  have e12:((n:Int) == 7) = false:=beq_eq_false_iff_ne.2 (by omega)
  have e13:((n:Int) == 11) = false:=beq_eq_false_iff_ne.2 (by omega)
  simp [h0,h8,h12,h13,e0,e8,e12,e13]
theorem kn_cases {n t:Nat} (h:knW n t = true):(t = 11∧(n = 0∨n = 8∨n = 12))∨(t ≠ 11∧(n = 0∨n = 4∨n = 7∨n = 11)):=by
  unfold knW szL at h
  split at h
  · left;simp at h;omega
  · right;simp at h;omega
def Agree (b:List UInt8) (t:Nat) (r:Wh × St):Prop:=r.2.2 = (rdW b t).2.2∧((rdW b t).2.2 = 0→r.1 = (rdW b t).1∧r.2.1 = b.drop (rdW b t).2.1)
theorem nb_head (l:List UInt8) (h:1≤l.length):nb l 0 1 = (l.headD 0).toNat:=by
  cases l with
  | nil=>simp at h
  | cons y ys=>simp [nb,leV]
theorem head_take (l:List UInt8) (n:Nat) (z:List UInt8) (hn:1≤n) (h:n≤l.length):(l.take n ++ z).headD 0 = l.headD 0:=by
  cases l with
  | nil=>simp at h;omega
  | cons y ys =>
    cases n with
    | zero=>omega
    | succ n=>rfl
theorem st0 (l:List UInt8):((l,0):St) = (l.drop 0,0):=rfl
theorem clF_at (l:List UInt8) (i:Nat) (w:Wh) (m:Bool) (h:i + 3 + (if m then 4 else 0)≤l.length) :
    clF (l.drop i,0) w m = ({ w with h:=(nb l i 1:Nat),mi:=(nb l (i + 1) 1:Nat),s:=(nb l (i + 2) 1:Nat),us:=if m then (nb l (i + 3) 4:Nat) else w.us },(l.drop (i + 3 + (if m then 4 else 0)),0)):=by
  unfold clF
  rw [fx_at l i 1 (by omega)]
  simp only
  rw [fx_at l (i + 1) 1 (by omega)]
  simp only
  rw [fx_at l (i + 1 + 1) 1 (by omega)]
  cases m with
  | false=>rfl
  | true =>
    simp only [if_true] at h ⊢
    rw [fx_at l (i + 1 + 1 + 1) 4 (by omega)]
theorem spF_at (l:List UInt8) (n:Nat) (hn:n = 8∨n = 12) (h:n≤l.length) :
    spF n (l,0) = (spW (l.take n ++ List.replicate (13 - n) 0),(l.drop n,wr (decide (1 < ((l.take n ++ List.replicate (13 - n) 0).headD 0).toNat)) 0)):=by
  unfold spF
  rw [if_pos ⟨rfl,by omega⟩,st0,fx_at l 0 1 (by omega)]
  simp only
  rw [fx_at l (0 + 1) 4 (by omega)]
  simp only
  have hh:=head_take l n (List.replicate (13 - n) 0) (by omega) h
  have h0:=nb_head l (by omega)
  rw [h0]
  rcases hn with rfl | rfl
  · rw [clF_at l (0 + 1 + 4) _ _ (by simp;omega)]
    unfold spW wrS
    rw [hh,nb_take l 8 1 4 _ (by omega) h,nb_take l 8 5 1 _ (by omega) h,nb_take l 8 6 1 _ (by omega) h,nb_take l 8 7 1 _ (by omega) h,nb_zero l 8 8 4 _ (by omega) h]
    rfl
  · rw [clF_at l (0 + 1 + 4) _ _ (by simp;omega)]
    unfold spW wrS
    rw [hh,nb_take l 12 1 4 _ (by omega) h,nb_take l 12 5 1 _ (by omega) h,nb_take l 12 6 1 _ (by omega) h,nb_take l 12 7 1 _ (by omega) h,nb_take l 12 8 4 _ (by omega) h]
    rfl
theorem spF_zero (l:List UInt8):spF 0 (l,0) = (spW (l.take 0 ++ List.replicate 13 0),(l.drop 0,wr (decide (1 < ((l.take 0 ++ List.replicate 13 (0:UInt8)).headD 0).toNat)) 0)):=by
  unfold spF
  rw [if_neg (by simp)]
  rfl
theorem dyF_at (l:List UInt8) (n:Nat) (hn:4≤n) (h:n≤l.length):dyF n (l,0) = ({ y:=(nb l 0 2:Nat),mo:=(nb l 2 1:Nat),d:=(nb l 3 1:Nat) },(l.drop 4,0)):=by
  unfold dyF
  rw [if_pos ⟨rfl,by omega⟩,st0,fx_at l 0 2 (by omega)]
  simp only
  rw [fx_at l (0 + 2) 1 (by omega)]
  simp only
  rw [fx_at l (0 + 2 + 1) 1 (by omega)]
theorem moF_at (l:List UInt8) (n:Nat) (hn:n = 4∨n = 7∨n = 11) (h:n≤l.length):moF n (l,0) = (moW (l.take n ++ List.replicate (13 - n) 0),(l.drop n,0)):=by
  unfold moF
  rw [dyF_at l n (by omega) h]
  simp only
  unfold moW
  rcases hn with rfl | rfl | rfl
  · rw [if_neg (by simp),nb_take l 4 0 2 _ (by omega) h,nb_take l 4 2 1 _ (by omega) h,nb_take l 4 3 1 _ (by omega) h,nb_zero l 4 4 1 _ (by omega) h,nb_zero l 4 5 1 _ (by omega) h,nb_zero l 4 6 1 _ (by omega) h,nb_zero l 4 7 4 _ (by omega) h]
    rfl
  · rw [if_pos ⟨trivial,by decide⟩,clF_at l 4 _ _ (by simp;omega),nb_take l 7 0 2 _ (by omega) h,nb_take l 7 2 1 _ (by omega) h,nb_take l 7 3 1 _ (by omega) h,nb_take l 7 4 1 _ (by omega) h,nb_take l 7 5 1 _ (by omega) h,nb_take l 7 6 1 _ (by omega) h,nb_zero l 7 7 4 _ (by omega) h]
    rfl
  · rw [if_pos ⟨trivial,by decide⟩,clF_at l 4 _ _ (by simp;omega),nb_take l 11 0 2 _ (by omega) h,nb_take l 11 2 1 _ (by omega) h,nb_take l 11 3 1 _ (by omega) h,nb_take l 11 4 1 _ (by omega) h,nb_take l 11 5 1 _ (by omega) h,nb_take l 11 6 1 _ (by omega) h,nb_take l 11 7 4 _ (by omega) h]
    rfl
theorem moF_zero (l:List UInt8):moF 0 (l,0) = (moW (l.take 0 ++ List.replicate 13 0),(l.drop 0,0)):=by
  unfold moF dyF
  rw [if_neg (by simp),if_neg (by simp)]
  rfl
theorem spF_short (l:List UInt8) (n:Nat) (hn:n = 8∨n = 12) (h:l.length < n):(spF n (l,0)).2.2 = 4:=by
  unfold spF
  rw [if_pos ⟨rfl,by omega⟩]
  have e:∀ st:St,st.2 = 4→(wrS (decide (1 < (fx 1 (l,0)).1)) st).2 = 4:=fun st h=>by unfold wrS;rw [h];rfl
  refine e _ ?_
  rcases hn with rfl | rfl
  · exact rds_short l [1,4,1,1,1] 0 (by omega) (by simpa using h)
  · exact rds_short l [1,4,1,1,1,4] 0 (by omega) (by simpa using h)
theorem moF_short (l:List UInt8) (n:Nat) (hn:n = 4∨n = 7∨n = 11) (h:l.length < n):(moF n (l,0)).2.2 = 4:=by
  have hd:(dyF n (l,0)).2 = rds [2,1,1] (l,0):=by unfold dyF;rw [if_pos ⟨rfl,by omega⟩];rfl
  unfold moF
  by_cases h4:l.length < 4
  · have he:(dyF n (l,0)).2.2 = 4:=by rw [hd];exact rds_short l [2,1,1] 0 (by omega) (by simpa using h4)
    rw [if_neg (by rw [he];simp)]
    exact he
  · have ho:=dyF_at l 4 (by omega) (by omega)
    have hd4:dyF n (l,0) = dyF 4 (l,0):=by unfold dyF;rw [if_pos ⟨rfl,by omega⟩,if_pos ⟨rfl,by omega⟩]
    rw [hd4,ho]
    simp only
    rw [if_pos ⟨trivial,by omega⟩]
    rcases hn with rfl | rfl | rfl
    · omega
    · exact rds_short l [1,1,1] 4 (by omega) (by simpa using h)
    · exact rds_short l [1,1,1,4] 4 (by omega) (by simpa using h)
theorem wo_agree (b:List UInt8) (t:Nat):Agree b t (woF (b,0) t):=by
  unfold Agree
  cases b with
  | nil =>
    have hr:rdW [] t = ({},0,4):=rfl
    rw [hr]
    have hf1:fx 1 (([],0):St) = (0,[],4):=rfl
    have hw:whF ([],0) t = ({},[],4):=by
      unfold whF
      rw [hf1]
      simp only
      split
      · rfl
      · rfl
    unfold woF
    rw [hw]
    exact ⟨rfl,fun h=>by cases h⟩
  | cons y ys =>
    have hf1:fx 1 (y :: ys,0) = (y.toNat,ys,0):=by
      unfold fx;rw [if_neg (by simp),if_neg (by simp)];simp [leV]
    have hwh:whF (y :: ys,0) t = if t = 11 then spF y.toNat (wrS (spBad y.toNat) (ys,0)) else moF y.toNat (wrS (moBad y.toNat) (ys,0)):=by
      unfold whF;rw [hf1]
    have hcw:cW (y :: ys) = ys.take y.toNat ++ List.replicate (13 - y.toNat) 0:=rfl
    have hrd:rdW (y :: ys) t = if knW y.toNat t = false then ({},0,5) else if ys.length < y.toNat then ({},0,4) else
        if t = 11 then (if 1 < ((cW (y :: ys)).headD 0).toNat then ({},0,5) else if fin (spW (cW (y :: ys))) t = false then ({},0,5) else (spW (cW (y :: ys)),1 + y.toNat,0))
        else if fin (moW (cW (y :: ys))) t = false then ({},0,5) else (moW (cW (y :: ys)),1 + y.toNat,0):=by
      unfold rdW
      rw [if_neg (by simp)]
      show (if knW y.toNat t = false then (({}:Wh),0,(5:Int)) else if ys.length + 1 < 1 + y.toNat then ({},0,4) else _) = _
      by_cases h:ys.length < y.toNat
      · rw [if_pos h,if_pos (show ys.length + 1 < 1 + y.toNat by omega)]
      · rw [if_neg h,if_neg (show ¬ ys.length + 1 < 1 + y.toNat by omega)]
        rfl
    have hdr:(y :: ys).drop (1 + y.toNat) = ys.drop y.toNat:=by rw [Nat.add_comm];rfl
    rw [hrd]
    unfold woF
    cases hk:knW y.toNat t with
    | false =>
      rw [if_pos rfl]
      have:∃ w s,whF (y :: ys,0) t = (w,s)∧s.2 = 5:=by
        rw [hwh]
        by_cases h11:t = 11
        · subst h11
          rw [if_pos rfl,kn_sp,hk]
          unfold spF
          rw [if_neg (by simp [wrS,wr])]
          exact ⟨_,_,rfl,rfl⟩
        · rw [if_neg h11,kn_mo _ _ h11,hk]
          have hd:dyF y.toNat (wrS (!false) (ys,0)) = ({},ys,5):=by
            unfold dyF
            rw [if_neg (by simp [wrS,wr])];rfl
          unfold moF
          rw [hd,if_neg (by simp)]
          exact ⟨_,_,rfl,rfl⟩
      obtain ⟨w,s,h1,h2⟩:=this
      rw [h1]
      simp only [wrS]
      rw [h2]
      exact ⟨rfl,fun h=>by cases h⟩
    | true =>
    rw [if_neg (by simp)]
    have hcase:=kn_cases hk
    by_cases hs:ys.length < y.toNat
    · rw [if_pos hs]
      have:(whF (y :: ys,0) t).2.2 = 4:=by
        rw [hwh]
        rcases hcase with ⟨rfl,hn⟩ | ⟨h11,hn⟩
        · rw [if_pos rfl,kn_sp,hk]
          exact spF_short ys _ (by omega) hs
        · rw [if_neg h11,kn_mo _ _ h11,hk]
          exact moF_short ys _ (by omega) hs
      simp only [wrS]
      rw [this]
      exact ⟨rfl,fun h=>by cases h⟩
    rw [if_neg hs]
    rcases hcase with ⟨rfl,hn⟩ | ⟨h11,hn⟩
    · rw [if_pos rfl]
      have hw:whF (y :: ys,0) 11 = (spW (cW (y :: ys)),(ys.drop y.toNat,wr (decide (1 < ((cW (y :: ys)).headD 0).toNat)) 0)):=by
        rw [hwh,if_pos rfl,kn_sp,hk,hcw]
        show spF y.toNat (ys,0) = _
        by_cases h0:y.toNat = 0
        · rw [h0];exact spF_zero ys
        · exact spF_at ys _ (by omega) (by omega)
      rw [hw]
      simp only [wrS]
      by_cases h1:1 < ((cW (y :: ys)).headD 0).toNat
      · rw [if_pos h1,decide_eq_true h1]
        exact ⟨rfl,fun h=>by cases h⟩
      · rw [if_neg h1,decide_eq_false h1]
        cases hf:fin (spW (cW (y :: ys))) 11 with
        | false=>rw [if_pos rfl];exact ⟨rfl,fun h=>by cases h⟩
        | true=>rw [if_neg (by simp)];exact ⟨rfl,fun _=>⟨rfl,by rw [hdr]⟩⟩
    · rw [if_neg h11]
      have hw:whF (y :: ys,0) t = (moW (cW (y :: ys)),(ys.drop y.toNat,0)):=by
        rw [hwh,if_neg h11,kn_mo _ _ h11,hk,hcw]
        show moF y.toNat (ys,0) = _
        by_cases h0:y.toNat = 0
        · rw [h0];exact moF_zero ys
        · exact moF_at ys _ (by omega) (by omega)
      rw [hw]
      simp only [wrS]
      cases hf:fin (moW (cW (y :: ys))) t with
      | false=>rw [if_pos rfl];exact ⟨rfl,fun h=>by cases h⟩
      | true=>rw [if_neg (by simp)];exact ⟨rfl,fun _=>⟨rfl,by rw [hdr]⟩⟩
end Go.Proofs.YtafdnpcamepbmaaGreatDoor
namespace Go.Proofs.YtafdnpcamepbmaaGreatDoor
open Go.AM
theorem fx_rf (b:List UInt8) (n:Nat) (h1:1≤n) (h8:n≤8):(fx n (b,0)).2.2 = (rfR b (n:Nat)).2∧(((fx n (b,0)).1:Nat):Int) = (rfR b (n:Nat)).1∧((rfR b (n:Nat)).2 = 0→b.length - (fx n (b,0)).2.1.length = n):=by
  have hf:fx n (b,0) = if b.length < n then (0,b,4) else (leV (b.take n),b.drop n,0):=if_neg (by simp)
  have hr:rfR b (n:Nat) = if (b.length:Int) < (n:Int) then (0,4) else (((leV (b.take n):Nat):Int),0):=if_neg (by omega)
  rw [hf,hr]
  by_cases h:b.length < n
  · rw [if_pos h,if_pos (show (b.length:Int) < (n:Int) by omega)]
    exact ⟨rfl,rfl,fun h=>by cases h⟩
  · rw [if_neg h,if_neg (show ¬ (b.length:Int) < (n:Int) by omega)]
    exact ⟨rfl,rfl,fun _=>by simp only [List.length_drop];omega⟩
theorem rv_eq (b:List UInt8) (t:Ty):rrV b t = rdV b t:=by
  have hbd:=kind_bd t.t t.u
  unfold rrV rdV
  by_cases h1:kindN t.t t.u < 0
  · rw [if_pos h1,if_pos h1]
  rw [if_neg h1,if_neg h1]
  have hnum:(kindN t.t t.u = 1∨kindN t.t t.u = 2∨kindN t.t t.u = 3∨kindN t.t t.u = 4)→rsizeN t.t = sizeN t.t∧1≤sizeN t.t∧sizeN t.t≤8:=by
    intro hk
    have:=size_num (t:=t.t) (u:=t.u) hk
    exact ⟨rsize_eq (by omega),by omega,by omega⟩
  have hwo:=wo_agree b t.t
  generalize kindN t.t t.u = k at *
  rcases (show k = 0∨k = 1∨(k = 2∨k = 3∨k = 4)∨(k = 5∨k = 6)∨k = 7 by omega) with rfl | hk1 | hk | hk | hk7
  · have hF:fdV b t 0 = ({ k:=0 },(b,0)):=rfl
    rw [hF]
    simp
  · obtain ⟨e,n1,n8⟩:=hnum (.inl hk1)
    have hF:fdV b t k = ({ k:=1,i:=sgV ((fx (sizeN t.t) (b,0)).1:Nat) (sizeN t.t) },(fx (sizeN t.t) (b,0)).2):=by
      unfold fdV;rw [if_pos hk1,e]
    obtain ⟨f1,f2,f3⟩:=fx_rf b (sizeN t.t) n1 n8
    rw [hF,if_neg (show ¬ k = 0 by omega),if_neg (show ¬ (k = 5∨k = 6) by omega),if_neg (show ¬ k = 7 by omega),if_pos hk1]
    simp only
    rw [f1,f2]
    by_cases he:(rfR b (sizeN t.t)).2 = 0
    · rw [if_neg (fun h=>h he),if_neg (fun h=>h he),f3 he]
    · rw [if_pos he,if_pos he]
  · obtain ⟨e,n1,n8⟩:=hnum (.inr hk)
    have hF:fdV b t k = ({ k:=k,b:=(fx (sizeN t.t) (b,0)).1 },(fx (sizeN t.t) (b,0)).2):=by
      unfold fdV;rw [if_neg (show ¬ k = 1 by omega),if_pos hk,e]
    obtain ⟨f1,f2,f3⟩:=fx_rf b (sizeN t.t) n1 n8
    rw [hF,if_neg (show ¬ k = 0 by omega),if_neg (show ¬ (k = 5∨k = 6) by omega),if_neg (show ¬ k = 7 by omega),if_neg (show ¬ k = 1 by omega)]
    simp only
    rw [f1,← f2,Int.toNat_natCast]
    by_cases he:(rfR b (sizeN t.t)).2 = 0
    · rw [if_neg (fun h=>h he),if_neg (fun h=>h he),f3 he]
    · rw [if_pos he,if_pos he]
  · obtain ⟨a1,a2⟩:=hwo
    have hF:fdV b t k = ({ k:=k,w:=(woF (b,0) t.t).1 },(woF (b,0) t.t).2):=by
      unfold fdV;rw [if_neg (show ¬ k = 1 by omega),if_neg (show ¬ (k = 2∨k = 3∨k = 4) by omega),if_pos hk]
    rw [hF,if_neg (show ¬ k = 0 by omega),if_pos hk]
    simp only
    rw [a1]
    by_cases he:(rdW b t.t).2.2 = 0
    · rw [if_neg (fun h=>h he),if_neg (fun h=>h he)]
      obtain ⟨a3,a4⟩:=a2 he
      have:=rdW_le b t.t
      rw [a3,a4,List.length_drop,show b.length - (b.length - (rdW b t.t).2.1) = (rdW b t.t).2.1 by omega]
    · rw [if_pos he,if_pos he]
  · have hr:rtF (b,0) = ((rdT b).1,b.drop (rdT b).2.1,(rdT b).2.2):=if_neg (by simp)
    have hF:fdV b t k = ({ k:=7,t:=(rdT b).1 },(b.drop (rdT b).2.1,wr (decide (16777216 < (rdT b).1.length)) (rdT b).2.2)):=by
      unfold fdV;rw [if_neg (show ¬ k = 1 by omega),if_neg (show ¬ (k = 2∨k = 3∨k = 4) by omega),if_neg (show ¬ (k = 5∨k = 6) by omega),if_pos hk7,hr];rfl
    rw [hF,if_neg (show ¬ k = 0 by omega),if_neg (show ¬ (k = 5∨k = 6) by omega),if_pos hk7]
    simp only
    have hle:=rdT_le' b
    by_cases he:(rdT b).2.2 = 0
    · rw [he,if_neg (show ¬ ((0:Int) ≠ 0) by simp)]
      by_cases hs:16777216 < (rdT b).1.length
      · rw [if_pos hs,decide_eq_true hs,wr0,if_pos rfl,if_pos (by decide)]
      · rw [if_neg hs,decide_eq_false hs,wr0,if_neg (by decide),List.length_drop,show b.length - (b.length - (rdT b).2.1) = (rdT b).2.1 by omega]
    · have hw:wr (decide (16777216 < (rdT b).1.length)) (rdT b).2.2 = (rdT b).2.2:=if_neg (fun h=>he h.1)
      rw [hw,if_pos he,if_pos he]
end Go.Proofs.YtafdnpcamepbmaaGreatDoor
namespace Go.Proofs.YtafdnpcamepbmaaGreatDoor
open Go.AM
def vlF (s:St) (t:Ty):Va × St :=
  if s.2 ≠ 0 then ({},s) else ((rdV s.1 t).1,s.1.drop (rdV s.1 t).2.1,(rdV s.1 t).2.2)
theorem vlF_len (s:St) (t:Ty):(vlF s t).2.1.length≤s.1.length:=by
  unfold vlF
  split
  · exact Nat.le_refl _
  · simp only [List.length_drop];omega
theorem vlF_nil {c:Nat} {s:St} {t:Ty} (h:c = 0→s.1 = []):c = 0→(vlF s t).2.1 = []:=by
  intro hc
  have:=vlF_len s t
  rw [h hc] at this
  exact List.eq_nil_of_length_eq_zero (by simpa using this)
section
variable (c t tg:Nat) (s:St) (y:Ty)
theorem vl_code (hc:c = 0→s.1 = []) (hy:y.t < 256) (hb:s.1.length≤90000000):∃ code,Tryz.f30.body = some code∧∃ rest,
    Run X (evT X) 30 1 code [(0,.ptr 0 0 0 0),(1,.agg y.pay)] [some (rdO c 3 3 s)] ⟨.ret,[(4,.ptr 2 0 0 0)],some (rdO c 3 3 (vlF s y).2) :: some (tyO y) :: some (vaO (vlF s y).1) :: rest⟩:=by
  refine ⟨_,rfl,?_⟩
  obtain ⟨b,e⟩:=s
  simp only at hb hc
  have hb0:=bvV0
  by_cases he:e = 0
  · subst he
    have hv:vlF (b,0) y = ((rdV b y).1,b.drop (rdV b y).2.1,(rdV b y).2.2):=if_neg (by simp)
    have hV:=rvread_ev (H:=[some (rdO c 3 3 (b,0)),some (tyO y),some (vaO {})]) (a:=.ro c (.pb b) 3) (b:=b) (t:=y) (Byt.ro (.inl rfl) hc) hy hb
    rw [rv_eq] at hV
    have hvl:=rdV_le b y hb
    rw [hv]
    generalize rdV b y = x at *
    obtain ⟨v,k,e⟩:=x
    simp only at *
    have hsl:=fun H=>slFrom (c:=c) (t:=3) (n:=k) (b:=b) hc hvl H
    refine ⟨[some (vaO v)],?_⟩
    apply Run.seq (fr':=[(0,.ptr 0 0 0 0),(3,.ptr 1 0 0 0),(4,.ptr 2 0 0 0)]) (H':=[some (rdO c 3 3 (b,0)),some (tyO y),some (vaO {})])
    · (refine ⟨0,?_⟩;simp (maxSteps:=2000000) -implicitDefEqProofs [-getElem?_pos,go_sem,eqV,plen,rdO,tyO,Ty.pay,vaO,Va.pay])
    apply Run.seq (fr':=[(0,.ptr 0 0 0 0),(3,.ptr 1 0 0 0),(4,.ptr 2 0 0 0),(12,.bool false)]) (H':=[some (rdO c 3 3 (b,0)),some (tyO y),some (vaO {})])
    · apply Run.seq (fr':=[(0,.ptr 0 0 0 0),(3,.ptr 1 0 0 0),(4,.ptr 2 0 0 0),(12,.bool false)]) (H':=[some (rdO c 3 3 (b,0)),some (tyO y),some (vaO {})])
      · (refine ⟨0,?_⟩;simp (maxSteps:=2000000) -implicitDefEqProofs [-getElem?_pos,go_sem,eqV,plen,rdO,tyO,Ty.pay,vaO,Va.pay])
      · exact condF (by simp [evalO,getF]) ⟨0,rfl⟩
    apply Run.seq (fr':=[(0,.ptr 0 0 0 0),(4,.ptr 2 0 0 0),(5,.ptr 3 0 0 0),(6,.int .i64 (k:Nat)),(7,.int .i64 e)]) (H':=[some (rdO c 3 3 (b,0)),some (tyO y),some (vaO {}),some (vaO v)])
    · simp only [rdO,tyO,Ty.pay,vaO,Va.pay,Int.cast_ofNat_Int] at hV
      apply Run.dy (by simp) keep30_3 (by simp)
      · (conv=>lhs;simp (maxSteps:=2000000) -implicitDefEqProofs [-getElem?_pos,go_sem,eqV,plen,runD,out1,markOf,freeO,quietO,pushes,isAssign,calledV,touched,mentioned,opVals,touchCall,mentionCall,idsAt,Op.operands,ids,idsL,lendArgs,lendV,lend1,lendL,eqH_self,rdO,tyO,Ty.pay,vaO,Va.pay,mkTy,mkVa,hV,retagL,retag,retagP,flatCells,splice,scalars,scalar])
        rfl
      · kernel_rfl
      · rfl
    refine ⟨0,?_⟩
    simp (maxSteps:=2000000) -implicitDefEqProofs [-getElem?_pos,go_sem,eqV,plen,rdO,tyO,Ty.pay,vaO,Va.pay,mkVa,hsl,retagL,retag,retagP,flatCells,splice,scalars,scalar]
  · have heb:(e != 0) = true:=by simpa using he
    have hv:vlF (b,e) y = ({},(b,e)):=if_pos he
    rw [hv]
    refine ⟨[],0,?_⟩
    simp only [vaO,Va.pay,Int.cast_ofNat_Int] at hb0
    simp (maxSteps:=2000000) -implicitDefEqProofs [-getElem?_pos,go_sem,eqV,plen,rdO,tyO,Ty.pay,vaO,Va.pay,mkVa,hb0,heb,retagL,retag,retagP,flatCells,splice,scalars,scalar]
end
theorem vl_ev {H:AM.Heap} {o c t tg:Nat} {s:St} {y:Ty} (ho:H[o]? = some (some (rdO c t tg s))) (hj:joinTags (tagsOb (rdO c t tg s)) = some t) (hc:c = 0→s.1 = []) (hy:y.t < 256) (hb:s.1.length≤90000000) :
    evT X 30 [.ptr o 0 0 0,.agg y.pay] H = some (.agg (vlF s y).1.pay,upd H o (some (rdO c t t (vlF s y).2))):=by
  obtain ⟨code,hcode,rest,hr⟩:=vl_code c s y hc hy hb
  have:=Ev1.box (C:=X) (f:=30) (H:=H) (o:=o) (g:=0) (ob:=rdO c t tg s) (ob1:=rdO c 3 3 (vlF s y).2) (xs:=[.agg y.pay]) (ys:=[.agg y.pay]) (n:=3) (t:=t) (rest:=some (tyO y) :: some (vaO (vlF s y).1) :: rest)
    (l:=[.agg (vlF s y).1.pay]) (evT_below X) Tryz.func30 hcode rfl ho rfl rfl (args_ty (f:=30) (i:=1) (t:=y) (args_nil 2)) (by simp [idsL,ids,Ty.pay]) rfl rfl (by simp [gtag]) hj (by rw [par30];exact hr) (.inr rfl)
    (by
      show resultsV X [(4,.ptr 2 0 0 0)] _ [.cell 4 41] = _
      simp [resultsV,getF,loadV,live,pagg,mkVa,vaO,Va.pay]) rfl rfl rfl (by simp [resultV,noTups,ids,idsL,Va.pay])
    (by intro k hk;right;simpa [resultV,tags,tagsOb,rdO,tagsL,Va.pay] using hk) (.inr rfl)
  exact evT_eq (by simpa [rdO,ren,renL,bk,resultV,Va.pay] using this)
end Go.Proofs.YtafdnpcamepbmaaGreatDoor
namespace Go.Proofs.YtafdnpcamepbmaaGreatDoor
open Go.AM
section
variable (l:List UInt8) (x n tg:Nat)
end
end Go.Proofs.YtafdnpcamepbmaaGreatDoor
namespace Go.Proofs.YtafdnpcamepbmaaGreatDoor
open Go.AM
def e8:List UInt8:=[165,165,165,165,165,165,165,165]
theorem bs8 (H:AM.Heap):buildSliceV X H 22 8 [(0,.int .u8 165),(1,.int .u8 165),(2,.int .u8 165),(3,.int .u8 165),(4,.int .u8 165),(5,.int .u8 165),(6,.int .u8 165),(7,.int .u8 165)] = some (.ro 1 (.pb e8) 0,H):=by kernel_rfl
theorem mk0 {n:Nat} (hn:n≤1000000) (H:AM.Heap):makeSliceV X H 22 (.int .i64 0) (.int .i64 (n:Nat)) = some (.sl H.length 0 0 0,H ++ [some ⟨.pb [],0,some n,1,true,false,0⟩]):=by
  have hz:∀ n,zeroRow X 5 n = some (.pb (List.replicate n 0)):=fun n=>by simp [zeroRow,cellsAV,scalars,scalar,idsL,ids,tagsL,tags]
  have h0:(0:Int)≤n:=by omega
  have h1:(n:Int)≤9223372036854775807:=by omega
  have h2:(n:Int)≤140737488355328:=by omega
  simp [makeSliceV,hz,h0,h1,h2,rowOf]
theorem pieceF {O:Option Code} {P:Code→Prop} (h:∃ code,O = some code∧P code) (code':Code) (h':O = some code'):P code':=by
  obtain ⟨c,h1,h2⟩:=h
  rw [h'] at h1
  exact (Option.some.inj h1) ▸ h2
noncomputable def ownO:Option Code:=((Tryz.f5.body).bind cR).bind cL
theorem own_r1 {c n8:Nat} {b E:List UInt8} {ob0 ob1 ob2:AM.Obj} (w8:IntKind.i64.wrap ((b.length:Int) + 8) = (n8:Nat))
    (hM:makeSliceV X [some nilB] 22 (.int .i64 0) (.int .i64 (n8:Nat)) = some (.sl 1 0 0 0,[some nilB,some ob0]))
    (hA1:appendV X [some nilB,some ob0] 22 (.sl 1 0 0 0) (.ro c (.pb b) 1) = some (.sl 1 0 b.length 1,[some nilB,some ob1]))
    (hb8:∀ H,buildSliceV X H 22 8 [(0,.int .u8 165),(1,.int .u8 165),(2,.int .u8 165),(3,.int .u8 165),(4,.int .u8 165),(5,.int .u8 165),(6,.int .u8 165),(7,.int .u8 165)] = some (.ro 1 (.pb E) 0,H))
    (hA2:appendV X [some nilB,some ob1] 22 (.sl 1 0 b.length 1) (.ro 1 (.pb E) 0) = some (.sl 1 0 n8 2,[some nilB,some ob2]))
    (hS2:sliceV X [some nilB,some ob2] 22 (.sl 1 0 n8 2) none (some (.int .i64 (b.length:Nat))) = some (.sl 1 0 b.length 2)) :
    ∃ code,ownO = some code∧Run X (evT X) 5 0 code [(0,.ro c (.pb b) 1)] [some nilB] ⟨.normal,[(2,.sl 1 0 b.length 2)],[some nilB,some ob2]⟩:=by
  refine ⟨_,rfl,0,?_⟩
  simp (maxSteps:=2000000) -implicitDefEqProofs [-getElem?_pos,go_sem,eqV,plen,assignV,w8,hM,hA1,hA2,hb8,hS2]
section
variable (c:Nat) (b:List UInt8)
theorem own_code (hc:c = 0→b = []) (hb:b.length≤900000):∃ code,Tryz.f5.body = some code ∧
    Tells (Rets fun fr H=>∃ o g ob,getF fr 2 = .sl o 0 b.length g∧H[o]? = some (some ob)∧Rw (.pb (b ++ e8)) g ob∧ob.cap = some (b.length + 8)) X (evT X) 5 0 code [(0,.ro c (.pb b) 1)] []:=by
  refine ⟨_,rfl,?_⟩
  have w8:IntKind.i64.wrap ((b.length:Int) + 8) = ((b.length + 8:Nat):Int):=by rw [wrap_i64 (by omega) (by omega)];omega
  have hM:=mk0 (n:=b.length + 8) (by omega) [some nilB]
  have hw0:Rw (.pb []) 0 ⟨.pb [],0,some (b.length + 8),1,true,false,0⟩:=⟨rfl,rfl,rfl,rfl,rfl⟩
  obtain ⟨ob1,hw1,hk1,hA1⟩:=app_rwc (C:=X) (T:=22) (e:=5) (by simp) (und5) (by simp) (by simp) (by simp) (H:=[some nilB,some ⟨.pb [],0,some (b.length + 8),1,true,false,0⟩]) (o:=1) (g:=0) (k:=b.length + 8) (l:=[]) (m:=b) (src:=.ro c (.pb b) 1) rfl hw0 rfl (by simp) (srcB (.inl rfl)) (by simp;omega)
  rw [List.nil_append] at hw1
  rw [List.length_nil,Nat.zero_add] at hA1
  obtain ⟨ob2,hw2,hk2,hA2⟩:=app_rwc (C:=X) (T:=22) (e:=5) (by simp) (und5) (by simp) (by simp) (by simp) (H:=[some nilB,some ob1]) (o:=1) (g:=1) (k:=b.length + 8) (l:=b) (m:=e8) (src:=.ro 1 (.pb e8) 0) rfl hw1 hk1 (by simp [e8]) (.inl rfl) (by simp [e8];omega)
  have hPl:plen (.pb (b ++ e8)) = b.length + 8:=by simp [plen,e8]
  have hS2:sliceV X [some nilB,some ob2] 22 (.sl 1 0 (b.length + 8) 2) none (some (.int .i64 (b.length:Nat))) = some (.sl 1 0 b.length 2):=by
    have hg:=hw2.g
    have hp:=hw2.p
    have hle:(b.length:Int)≤(b.length:Int) + 8:=by omega
    simp [sliceV,bound,live,hg,hp,hPl,pesz,hle]
  apply Tells.seq (fr':=[(0,.ro c (.pb b) 1)]) (H':=[some nilB])
  · (refine ⟨0,?_⟩;simp (maxSteps:=2000000) -implicitDefEqProofs [-getElem?_pos,go_sem,eqV,plen,assignV,emB])
  refine Tells.seq (pieceF (own_r1 w8 hM hA1 bs8 hA2 hS2) _ rfl) (Tells.of (o:=⟨.ret,[(2,.sl 1 0 b.length 2)],[some nilB,some ob2]⟩) ⟨0,rfl⟩ ⟨rfl,1,2,ob2,rfl,rfl,hw2,hk2⟩)
structure OwnB (b:List UInt8) (ob:AM.Obj):Prop where
  rw:Rw (.pb (b ++ e8)) 0 ob
  cap:ob.cap = some (b.length + 8)
def kpFr (c t:Nat) (b:List UInt8) (i:Nat):AM.Frame:=[(5,.sl 0 b.length 8 0),(6,.int .i64 (i:Nat))]
theorem kept_code (ob:AM.Obj) (hp:ob.p = .pb (b ++ e8)) (hg:ob.g = 0) (hid:ob.ids = false) (hk:ob.cap = some (b.length + 8)) (hc:c = 0→b = []) (hb:b.length≤900000):∃ code,Tryz.f14.body = some code ∧
    Tells (Rets fun fr H=>getF fr 4 = .bool true∧H = [some ob]) X (evT X) 14 1 code [(0,.sl 0 0 b.length 0),(1,.ro c (.pb b) 2)] [some ob]:=by
  refine ⟨_,rfl,?_⟩
  have w8:IntKind.i64.wrap ((b.length:Int) + 8) = (b.length:Int) + 8:=by rw [wrap_i64 (by omega) (by omega)]
  have hPl:plen (.pb (b ++ e8)) = b.length + 8:=by simp [plen,e8]
  have hS:=sameB_ev (H:=[some ob]) (a:=.sl 0 0 b.length 0) (a2:=.ro c (.pb b) 2) (Byt.part (l:=b) rfl hg hp hid (by simp) (by simp)) (Byt.ro (.inl rfl) hc)
  rw [beq_self_eq_true] at hS
  have hC:capV X [some ob] 22 (.sl 0 0 b.length 0) = some ((b.length:Int) + 8):=by simp [capV,live,hg,hk]
  have hS1:sliceV X [some ob] 22 (.sl 0 0 b.length 0) none (some (.int .i64 ((b.length:Int) + 8))) = some (.sl 0 0 (b.length + 8) 0):=by
    have h1:(0:Int)≤(b.length:Int) + 8:=by omega
    have h2:((b.length:Int) + 8).toNat = b.length + 8:=by omega
    simp [sliceV,bound,live,hg,hp,hPl,pesz,h1,h2]
  have hS2:sliceV X [some ob] 22 (.sl 0 0 (b.length + 8) 0) (some (.int .i64 (b.length:Nat))) none = some (.sl 0 b.length 8 0):=by
    have hle:(b.length:Int)≤(b.length:Int) + 8:=by omega
    simp [sliceV,bound,live,hg,hp,hPl,pesz,hle]
  apply Tells.seq (fr':=[(0,.sl 0 0 b.length 0),(1,.ro c (.pb b) 2)]) (H':=[some ob])
  · (refine ⟨0,?_⟩;simp (maxSteps:=2000000) -implicitDefEqProofs [-getElem?_pos,go_sem,eqV,plen])
  apply Tells.seq (fr':=[(0,.sl 0 0 b.length 0),(1,.ro c (.pb b) 2),(18,.bool false)]) (H':=[some ob])
  · (refine ⟨0,?_⟩;simp (maxSteps:=2000000) -implicitDefEqProofs [-getElem?_pos,go_sem,eqV,plen,hS,hC,w8])
  apply Tells.seq (fr':=[(5,.sl 0 b.length 8 0)]) (H':=[some ob])
  · (refine ⟨0,?_⟩;simp (maxSteps:=2000000) -implicitDefEqProofs [-getElem?_pos,go_sem,eqV,plen,hS1,hS2,w8])
  apply Tells.andThen (P:=fun fr H=>fr = kpFr c 2 b 8 ++ [(33,.bool false)]∧H = [some ob])
  · apply Tells.seq (fr':=kpFr c 2 b 0) (H':=[some ob])
    · (refine ⟨0,?_⟩;simp (maxSteps:=2000000) -implicitDefEqProofs [-getElem?_pos,go_sem,eqV,plen,kpFr])
    apply Tells.block
    refine Tells.loop (σ:=Nat) (fun i=>i≤8) (fun i=>kpFr c 2 b i) (fun _=>[some ob]) (fun i=>8 - i) ?_ 0 (by omega)
    intro i hi
    by_cases hi8:i = 8
    · right
      subst hi8
      refine ⟨⟨.exit 0,kpFr c 2 b 8 ++ [(33,.bool false)],[some ob]⟩,⟨rfl,rfl,rfl⟩,by simp,?_⟩
      (refine ⟨0,?_⟩;simp (maxSteps:=2000000) -implicitDefEqProofs [-getElem?_pos,go_sem,eqV,plen,kpFr,hg])
    · left
      have hiI:(i:Int) < 8:=by omega
      have w1:IntKind.i64.wrap ((i:Int) + 1) = ((i + 1:Nat):Int):=by rw [wrap_i64 (by omega) (by omega)];omega
      have hv:(b ++ e8)[b.length + i]? = some 165:=by
        rw [List.getElem?_append_right (by omega),show b.length + i - b.length = i by omega]
        match i,hi,hi8 with
        | 0,_,_ | 1,_,_ | 2,_,_ | 3,_,_ | 4,_,_ | 5,_,_ | 6,_,_ | 7,_,_=>rfl
        | 8,_,h=>exact absurd rfl h
        | i + 9,h,_=>omega
      refine ⟨i + 1,by omega,?_,by omega⟩
      have hin:i < 8:=by omega
      (refine ⟨0,?_⟩;simp (maxSteps:=2000000) -implicitDefEqProofs [-getElem?_pos,go_sem,eqV,plen,kpFr,hiI,hin,hg,hp,hid,hv,w1])
  · rintro fr H ⟨rfl,rfl⟩
    refine Tells.of (o:=⟨.ret,[(4,.bool true)],[some ob]⟩) ⟨0,?_⟩ ⟨rfl,rfl,rfl⟩
    simp (maxSteps:=2000000) -implicitDefEqProofs [-getElem?_pos,go_sem,eqV,plen,kpFr]
end
theorem own_ev {H:AM.Heap} {a:AV} {b:List UInt8} (h:Byt H a b) (hb:b.length≤900000):∃ ob,OwnB b ob∧evT X 5 [a] H = some (.sl H.length 0 b.length 0,H ++ [some ob]):=by
  obtain ⟨c,p,xl,hp,hc,hx⟩:=args_byt (C:=X) (f:=5) (i:=0) rfl h (args_nil 1)
  obtain ⟨code,hcode,hr⟩:=own_code c b hc hb
  obtain ⟨ob,q1,q2,q3⟩:=Ev1.newBc (H:=H) (n:=b.length) (k:=some (b.length + 8)) (l:=b ++ e8) (rest:=[]) (evT_below X) Tryz.func5 hcode hx (by simp [idsL,ids,hp.ids]) (by simp [gtag]) rfl rfl rfl (by
    obtain ⟨o,⟨he,o1,g,ob,q1,q2,q3,q4⟩,hrun⟩:=hr
    exact ⟨o,⟨he,o1,g,ob,congrArg (fun v=>some [v]) q1,q2,q3,q4⟩,by rw [par5,coB hp];exact hrun⟩)
  exact ⟨ob,⟨q1,q2⟩,evT_eq q3⟩
theorem OwnB.byt {H:AM.Heap} {o:Nat} {ob:AM.Obj} {b:List UInt8} (ho:H[o]? = some (some ob)) (h:OwnB b ob):Byt H (.sl o 0 b.length 0) b :=
  Byt.sl ho h.rw (by simp) (by simp)
theorem kept_ev {H:AM.Heap} {o:Nat} {ob:AM.Obj} {b:List UInt8} {c t:Nat} (ho:H[o]? = some (some ob)) (h:OwnB b ob) (hc:c = 0→b = []) (hb:b.length≤900000) :
    evT X 14 [.sl o 0 b.length 0,.ro c (.pb b) t] H = some (.bool true,H):=by
  have hl:lendArgs X 14 H 1 [.ro c (.pb b) t] = some ([.ro c (.pb b) 2],[⟨[],[t]⟩]):=by simp [lendArgs,lendV,lend1]
  obtain ⟨code,hcode,⟨⟨ex,fr,H1⟩,⟨he,h4,hH⟩,hrun⟩⟩:=kept_code c b { ob with g:=0,tg:=3 } h.rw.p rfl h.rw.ids h.cap hc hb
  simp only at he h4 hH
  subst he hH
  exact evT_eq (Ev1.rw1 (H:=H) (n:=3) (l:=[.bool true]) (rest:=[]) (evT_below X) Tryz.func14 hcode rfl ho h.rw.g h.rw.ids (by rw [h.rw.p];rfl) h.rw.tg hl rfl rfl rfl (by simp [gtag])
    (by rw [par14];simpa [coerce,numbered] using hrun) (.inr rfl) (by show some [getF fr 4] = _;rw [h4]) rfl rfl rfl)
end Go.Proofs.YtafdnpcamepbmaaGreatDoor
namespace Go.Proofs.YtafdnpcamepbmaaGreatDoor
open Go.AM
theorem bsK (H:AM.Heap) (y:UInt8) (k:Int) (h:(y.toNat:Int) = k):buildSliceV X H 22 1 [(0,.int .u8 k)] = some (.ro 1 (.pb [y]) 0,H):=by
  subst h;exact bs1 H y
theorem fin_nn {w:Wh} {t:Nat} (h:fin w t = true):0≤w.y∧w.y < 65536∧0≤w.mo∧w.mo < 256∧0≤w.d∧w.d < 256∧0≤w.h∧w.h < 256∧0≤w.mi∧w.mi < 256∧0≤w.s∧w.s < 256∧0≤w.us∧w.us < 4294967296:=by
  unfold fin clk btw at h
  simp only [Bool.and_eq_true,decide_eq_true_eq] at h
  obtain ⟨⟨h1,h2,h3,h4⟩,h5⟩:=h
  by_cases h11:t = 11
  · rw [if_pos h11] at h5
    simp only [Bool.and_eq_true,decide_eq_true_eq] at h5
    omega
  · rw [if_neg h11] at h5
    simp only [Bool.and_eq_true,decide_eq_true_eq] at h5
    omega
section
variable (l:List UInt8) (w:Wh) (tg:Nat)
end
end Go.Proofs.YtafdnpcamepbmaaGreatDoor
namespace Go.Proofs.YtafdnpcamepbmaaGreatDoor
open Go.AM
theorem ck1 (v:Va) (t:Ty) (k:Int) (n:Nat) (hbd:-1≤k∧k≤7) (hk0:¬ k < 0) (hsz:k = 1∨k = 2∨k = 3∨k = 4→n = 1∨n = 2∨n = 4∨n = 8) (hF:evT X 55 [.agg v.w.pay,.int .u8 (t.t:Nat)] [some (vaO v),some (tyO t)] = some (.bool (fin v.w t.t),[some (vaO v),some (tyO t)])) (k1:v.k = 1):∃ code,ckO = some code ∧
    Tells (Goes (ckP v t k n)) X (evT X) 34 0 code (ckFr k (v.k == k) (8 * n)) [some (vaO v),some (tyO t)]:=by
  refine ⟨_,rfl,?_⟩
  unfold ckP okVk
  rw [if_pos k1]
  by_cases hk1:k = 1
  case neg =>
    have hkb:((1:Int) == k) = false:=by simp;omega
    rw [decide_eq_false hk1]
    refine Tells.of (o:=⟨.normal,[(6,.bool false)],[some (vaO v),some (tyO t)]⟩) ⟨0,?_⟩ ⟨rfl,rfl,.inl rfl⟩
    generalize 8 * n = n8 at *
    simp (maxSteps:=2000000) -implicitDefEqProofs [-getElem?_pos,go_sem,eqV,plen,vaO,tyO,Va.pay,ckFr,k1,hkb]
  subst hk1
  have hEq:=fun H xo yo=>eqVa v { k:=1,i:=v.i } H xo yo
  have hbi:=bdVi 1 v.i
  generalize hpz:(({ k:=1,i:=v.i }:Va).pay) = pz at *
  generalize decide (v = { k:=1,i:=v.i }) = e at *
  simp only [Va.pay] at hEq
  rw [k1] at hEq
  cases e with
  | false =>
    refine Tells.of (o:=⟨.normal,[(6,.bool false)],[some (vaO v),some (tyO t)]⟩) ⟨0,?_⟩ ⟨rfl,rfl,.inl (by simp)⟩
    generalize 8 * n = n8 at *
    simp (maxSteps:=2000000) -implicitDefEqProofs [-getElem?_pos,go_sem,eqV,plen,-eqV,vaO,tyO,Va.pay,ckFr,k1,mkVa,hbi,hEq]
  | true =>
  have hn:=hsz (.inl rfl)
  unfold okI
  rcases hn with rfl | rfl | rfl | rfl
  · have hq:=fdiv_q (i:=v.i) (m:=7) _ rfl
    have e1:(decide (8≤1) || decide (-(2 ^ (8 * 1 - 1))≤v.i∧v.i < 2 ^ (8 * 1 - 1))) = ((v.i.fdiv 128 == 0) || (v.i.fdiv 128 == -1)):=by rw [show (128:Int) = 2 ^ 7 from rfl,hq];simp
    rw [e1]
    clear e1 hq
    generalize hq2:v.i.fdiv 128 = q at *
    by_cases q0:q = 0
    · refine Tells.of (o:=⟨.normal,[(6,.bool true)],[some (vaO v),some (tyO t)]⟩) ⟨0,?_⟩ ⟨rfl,rfl,.inl (by simp [q0])⟩
      simp (maxSteps:=2000000) -implicitDefEqProofs [-getElem?_pos,go_sem,eqV,plen,-eqV,vaO,tyO,Va.pay,ckFr,k1,mkVa,hbi,hEq,hq2,q0,minmax,show IntKind.i64.bits = 64 from rfl,show IntKind.i64.wrap 7 = 7 from rfl,show IntKind.i64.wrap 15 = 15 from rfl,show IntKind.i64.wrap 31 = 31 from rfl,show IntKind.i64.wrap 63 = 63 from rfl]
    have q0b:(q == 0) = false:=by simpa using q0
    by_cases q1:q = -1
    · refine Tells.of (o:=⟨.normal,[(6,.bool true)],[some (vaO v),some (tyO t)]⟩) ⟨0,?_⟩ ⟨rfl,rfl,.inl (by simp [q1])⟩
      simp (maxSteps:=2000000) -implicitDefEqProofs [-getElem?_pos,go_sem,eqV,plen,-eqV,vaO,tyO,Va.pay,ckFr,k1,mkVa,hbi,hEq,hq2,q1,minmax,show IntKind.i64.bits = 64 from rfl,show IntKind.i64.wrap 7 = 7 from rfl,show IntKind.i64.wrap 15 = 15 from rfl,show IntKind.i64.wrap 31 = 31 from rfl,show IntKind.i64.wrap 63 = 63 from rfl]
    have q1b:(q == -1) = false:=by simpa using q1
    refine Tells.of (o:=⟨.normal,[(6,.bool false)],[some (vaO v),some (tyO t)]⟩) ⟨0,?_⟩ ⟨rfl,rfl,.inl (by simp [q0,q1])⟩
    simp (maxSteps:=2000000) -implicitDefEqProofs [-getElem?_pos,go_sem,eqV,plen,-eqV,vaO,tyO,Va.pay,ckFr,k1,mkVa,hbi,hEq,hq2,q0b,q1b,minmax,show IntKind.i64.bits = 64 from rfl,show IntKind.i64.wrap 7 = 7 from rfl,show IntKind.i64.wrap 15 = 15 from rfl,show IntKind.i64.wrap 31 = 31 from rfl,show IntKind.i64.wrap 63 = 63 from rfl]
  · have hq:=fdiv_q (i:=v.i) (m:=15) _ rfl
    have e1:(decide (8≤2) || decide (-(2 ^ (8 * 2 - 1))≤v.i∧v.i < 2 ^ (8 * 2 - 1))) = ((v.i.fdiv 32768 == 0) || (v.i.fdiv 32768 == -1)):=by rw [show (32768:Int) = 2 ^ 15 from rfl,hq];simp
    rw [e1]
    clear e1 hq
    generalize hq2:v.i.fdiv 32768 = q at *
    by_cases q0:q = 0
    · refine Tells.of (o:=⟨.normal,[(6,.bool true)],[some (vaO v),some (tyO t)]⟩) ⟨0,?_⟩ ⟨rfl,rfl,.inl (by simp [q0])⟩
      simp (maxSteps:=2000000) -implicitDefEqProofs [-getElem?_pos,go_sem,eqV,plen,-eqV,vaO,tyO,Va.pay,ckFr,k1,mkVa,hbi,hEq,hq2,q0,minmax,show IntKind.i64.bits = 64 from rfl,show IntKind.i64.wrap 7 = 7 from rfl,show IntKind.i64.wrap 15 = 15 from rfl,show IntKind.i64.wrap 31 = 31 from rfl,show IntKind.i64.wrap 63 = 63 from rfl]
    have q0b:(q == 0) = false:=by simpa using q0
    by_cases q1:q = -1
    · refine Tells.of (o:=⟨.normal,[(6,.bool true)],[some (vaO v),some (tyO t)]⟩) ⟨0,?_⟩ ⟨rfl,rfl,.inl (by simp [q1])⟩
      simp (maxSteps:=2000000) -implicitDefEqProofs [-getElem?_pos,go_sem,eqV,plen,-eqV,vaO,tyO,Va.pay,ckFr,k1,mkVa,hbi,hEq,hq2,q1,minmax,show IntKind.i64.bits = 64 from rfl,show IntKind.i64.wrap 7 = 7 from rfl,show IntKind.i64.wrap 15 = 15 from rfl,show IntKind.i64.wrap 31 = 31 from rfl,show IntKind.i64.wrap 63 = 63 from rfl]
    have q1b:(q == -1) = false:=by simpa using q1
    refine Tells.of (o:=⟨.normal,[(6,.bool false)],[some (vaO v),some (tyO t)]⟩) ⟨0,?_⟩ ⟨rfl,rfl,.inl (by simp [q0,q1])⟩
    simp (maxSteps:=2000000) -implicitDefEqProofs [-getElem?_pos,go_sem,eqV,plen,-eqV,vaO,tyO,Va.pay,ckFr,k1,mkVa,hbi,hEq,hq2,q0b,q1b,minmax,show IntKind.i64.bits = 64 from rfl,show IntKind.i64.wrap 7 = 7 from rfl,show IntKind.i64.wrap 15 = 15 from rfl,show IntKind.i64.wrap 31 = 31 from rfl,show IntKind.i64.wrap 63 = 63 from rfl]
  · have hq:=fdiv_q (i:=v.i) (m:=31) _ rfl
    have e1:(decide (8≤4) || decide (-(2 ^ (8 * 4 - 1))≤v.i∧v.i < 2 ^ (8 * 4 - 1))) = ((v.i.fdiv 2147483648 == 0) || (v.i.fdiv 2147483648 == -1)):=by rw [show (2147483648:Int) = 2 ^ 31 from rfl,hq];simp
    rw [e1]
    clear e1 hq
    generalize hq2:v.i.fdiv 2147483648 = q at *
    by_cases q0:q = 0
    · refine Tells.of (o:=⟨.normal,[(6,.bool true)],[some (vaO v),some (tyO t)]⟩) ⟨0,?_⟩ ⟨rfl,rfl,.inl (by simp [q0])⟩
      simp (maxSteps:=2000000) -implicitDefEqProofs [-getElem?_pos,go_sem,eqV,plen,-eqV,vaO,tyO,Va.pay,ckFr,k1,mkVa,hbi,hEq,hq2,q0,minmax,show IntKind.i64.bits = 64 from rfl,show IntKind.i64.wrap 7 = 7 from rfl,show IntKind.i64.wrap 15 = 15 from rfl,show IntKind.i64.wrap 31 = 31 from rfl,show IntKind.i64.wrap 63 = 63 from rfl]
    have q0b:(q == 0) = false:=by simpa using q0
    by_cases q1:q = -1
    · refine Tells.of (o:=⟨.normal,[(6,.bool true)],[some (vaO v),some (tyO t)]⟩) ⟨0,?_⟩ ⟨rfl,rfl,.inl (by simp [q1])⟩
      simp (maxSteps:=2000000) -implicitDefEqProofs [-getElem?_pos,go_sem,eqV,plen,-eqV,vaO,tyO,Va.pay,ckFr,k1,mkVa,hbi,hEq,hq2,q1,minmax,show IntKind.i64.bits = 64 from rfl,show IntKind.i64.wrap 7 = 7 from rfl,show IntKind.i64.wrap 15 = 15 from rfl,show IntKind.i64.wrap 31 = 31 from rfl,show IntKind.i64.wrap 63 = 63 from rfl]
    have q1b:(q == -1) = false:=by simpa using q1
    refine Tells.of (o:=⟨.normal,[(6,.bool false)],[some (vaO v),some (tyO t)]⟩) ⟨0,?_⟩ ⟨rfl,rfl,.inl (by simp [q0,q1])⟩
    simp (maxSteps:=2000000) -implicitDefEqProofs [-getElem?_pos,go_sem,eqV,plen,-eqV,vaO,tyO,Va.pay,ckFr,k1,mkVa,hbi,hEq,hq2,q0b,q1b,minmax,show IntKind.i64.bits = 64 from rfl,show IntKind.i64.wrap 7 = 7 from rfl,show IntKind.i64.wrap 15 = 15 from rfl,show IntKind.i64.wrap 31 = 31 from rfl,show IntKind.i64.wrap 63 = 63 from rfl]
  · have e1:(decide (8≤8) || decide (-(2 ^ (8 * 8 - 1))≤v.i∧v.i < 2 ^ (8 * 8 - 1))) = true:=by simp
    rw [e1]
    refine Tells.of (o:=⟨.normal,[(6,.bool true)],[some (vaO v),some (tyO t)]⟩) ⟨0,?_⟩ ⟨rfl,rfl,.inl (by simp)⟩
    simp (maxSteps:=2000000) -implicitDefEqProofs [-getElem?_pos,go_sem,eqV,plen,-eqV,vaO,tyO,Va.pay,ckFr,k1,mkVa,hbi,hEq,minmax,show IntKind.i64.bits = 64 from rfl,show IntKind.i64.wrap 7 = 7 from rfl,show IntKind.i64.wrap 15 = 15 from rfl,show IntKind.i64.wrap 31 = 31 from rfl,show IntKind.i64.wrap 63 = 63 from rfl]
end Go.Proofs.YtafdnpcamepbmaaGreatDoor
namespace Go.Proofs.YtafdnpcamepbmaaGreatDoor
open Go.AM
theorem ck234 (v:Va) (t:Ty) (k:Int) (n:Nat) (hbd:-1≤k∧k≤7) (hk0:¬ k < 0) (hsz:k = 1∨k = 2∨k = 3∨k = 4→n = 1∨n = 2∨n = 4∨n = 8) (hF:evT X 55 [.agg v.w.pay,.int .u8 (t.t:Nat)] [some (vaO v),some (tyO t)] = some (.bool (fin v.w t.t),[some (vaO v),some (tyO t)])) (k234:v.k = 2∨v.k = 3∨v.k = 4):∃ code,ckO = some code ∧
    Tells (Goes (ckP v t k n)) X (evT X) 34 0 code (ckFr k (v.k == k) (8 * n)) [some (vaO v),some (tyO t)]:=by
  refine ⟨_,rfl,?_⟩
  unfold ckP okVk
  have k1:¬ v.k = 1:=by omega
  rw [if_neg k1,if_pos k234]
  by_cases hk1:k = v.k
  case neg =>
    have hkb:(v.k == k) = false:=by simp;omega
    rw [decide_eq_false hk1]
    refine Tells.of (o:=⟨.normal,[(6,.bool false)],[some (vaO v),some (tyO t)]⟩) ⟨0,?_⟩ ⟨rfl,rfl,.inl rfl⟩
    generalize 8 * n = n8 at *
    rcases k234 with kv | kv | kv
    · rw [kv] at hkb
      simp (maxSteps:=2000000) -implicitDefEqProofs [-getElem?_pos,go_sem,eqV,plen,vaO,tyO,Va.pay,ckFr,kv,hkb]
    · rw [kv] at hkb
      simp (maxSteps:=2000000) -implicitDefEqProofs [-getElem?_pos,go_sem,eqV,plen,vaO,tyO,Va.pay,ckFr,kv,hkb]
    · rw [kv] at hkb
      simp (maxSteps:=2000000) -implicitDefEqProofs [-getElem?_pos,go_sem,eqV,plen,vaO,tyO,Va.pay,ckFr,kv,hkb]
  subst hk1
  have hn:=hsz (by omega)
  have hEq:=fun H xo yo=>eqVa v { k:=v.k,b:=v.b } H xo yo
  have hbi:=bdVb v.k v.b
  generalize hpz:(({ k:=v.k,b:=v.b }:Va).pay) = pz at *
  generalize decide (v = { k:=v.k,b:=v.b }) = e at *
  simp only [Va.pay] at hEq
  cases e with
  | false =>
    refine Tells.of (o:=⟨.normal,[(6,.bool false)],[some (vaO v),some (tyO t)]⟩) ⟨0,?_⟩ ⟨rfl,rfl,.inl (by simp)⟩
    generalize 8 * n = n8 at *
    rcases k234 with kv | kv | kv
    · rw [kv] at hEq hbi
      simp (maxSteps:=2000000) -implicitDefEqProofs [-getElem?_pos,go_sem,eqV,plen,-eqV,vaO,tyO,Va.pay,ckFr,kv,mkVa,hbi,hEq]
    · rw [kv] at hEq hbi
      simp (maxSteps:=2000000) -implicitDefEqProofs [-getElem?_pos,go_sem,eqV,plen,-eqV,vaO,tyO,Va.pay,ckFr,kv,mkVa,hbi,hEq]
    · rw [kv] at hEq hbi
      simp (maxSteps:=2000000) -implicitDefEqProofs [-getElem?_pos,go_sem,eqV,plen,-eqV,vaO,tyO,Va.pay,ckFr,kv,mkVa,hbi,hEq]
  | true =>
  unfold okB
  clear hpz
  have main:∀ kk:Int,v.k = kk→(kk = 2∨kk = 3∨kk = 4)→True:=fun _ _ _=>trivial
  rcases hn with rfl | rfl | rfl | rfl
  · have e1:(decide (8≤1) || decide (v.b < 2 ^ (8 * 1))) = ((v.b / 256:Nat) == 0):=by rw [Bool.eq_iff_iff];first | (simp;done) | (simp;omega)
    rw [e1]
    clear e1
    have hd:Int.fdiv (v.b:Int) 256 = ((v.b / 256:Nat):Int):=by
      rw [Int.fdiv_eq_ediv_of_nonneg _ (by decide)];exact (Int.natCast_ediv _ _).symm
    generalize v.b / 256 = q at *
    have hqb:((q:Int) == 0) = (q == 0):=by rw [Bool.eq_iff_iff];simp
    generalize hqq:(q == 0) = qb at *
    refine Tells.of (o:=⟨.normal,[(6,.bool qb)],[some (vaO v),some (tyO t)]⟩) ⟨0,?_⟩ ⟨rfl,rfl,.inl (by simp)⟩
    rcases k234 with kv | kv | kv
    · rw [kv] at hEq hbi
      simp (maxSteps:=2000000) -implicitDefEqProofs [-getElem?_pos,go_sem,eqV,plen,-eqV,vaO,tyO,Va.pay,ckFr,kv,mkVa,hbi,hEq,hd,hqb,show IntKind.u64.bits = 64 from rfl]
    · rw [kv] at hEq hbi
      simp (maxSteps:=2000000) -implicitDefEqProofs [-getElem?_pos,go_sem,eqV,plen,-eqV,vaO,tyO,Va.pay,ckFr,kv,mkVa,hbi,hEq,hd,hqb,show IntKind.u64.bits = 64 from rfl]
    · rw [kv] at hEq hbi
      simp (maxSteps:=2000000) -implicitDefEqProofs [-getElem?_pos,go_sem,eqV,plen,-eqV,vaO,tyO,Va.pay,ckFr,kv,mkVa,hbi,hEq,hd,hqb,show IntKind.u64.bits = 64 from rfl]
  · have e1:(decide (8≤2) || decide (v.b < 2 ^ (8 * 2))) = ((v.b / 65536:Nat) == 0):=by rw [Bool.eq_iff_iff];first | (simp;done) | (simp;omega)
    rw [e1]
    clear e1
    have hd:Int.fdiv (v.b:Int) 65536 = ((v.b / 65536:Nat):Int):=by
      rw [Int.fdiv_eq_ediv_of_nonneg _ (by decide)];exact (Int.natCast_ediv _ _).symm
    generalize v.b / 65536 = q at *
    have hqb:((q:Int) == 0) = (q == 0):=by rw [Bool.eq_iff_iff];simp
    generalize hqq:(q == 0) = qb at *
    refine Tells.of (o:=⟨.normal,[(6,.bool qb)],[some (vaO v),some (tyO t)]⟩) ⟨0,?_⟩ ⟨rfl,rfl,.inl (by simp)⟩
    rcases k234 with kv | kv | kv
    · rw [kv] at hEq hbi
      simp (maxSteps:=2000000) -implicitDefEqProofs [-getElem?_pos,go_sem,eqV,plen,-eqV,vaO,tyO,Va.pay,ckFr,kv,mkVa,hbi,hEq,hd,hqb,show IntKind.u64.bits = 64 from rfl]
    · rw [kv] at hEq hbi
      simp (maxSteps:=2000000) -implicitDefEqProofs [-getElem?_pos,go_sem,eqV,plen,-eqV,vaO,tyO,Va.pay,ckFr,kv,mkVa,hbi,hEq,hd,hqb,show IntKind.u64.bits = 64 from rfl]
    · rw [kv] at hEq hbi
      simp (maxSteps:=2000000) -implicitDefEqProofs [-getElem?_pos,go_sem,eqV,plen,-eqV,vaO,tyO,Va.pay,ckFr,kv,mkVa,hbi,hEq,hd,hqb,show IntKind.u64.bits = 64 from rfl]
  · have e1:(decide (8≤4) || decide (v.b < 2 ^ (8 * 4))) = ((v.b / 4294967296:Nat) == 0):=by rw [Bool.eq_iff_iff];first | (simp;done) | (simp;omega)
    rw [e1]
    clear e1
    have hd:Int.fdiv (v.b:Int) 4294967296 = ((v.b / 4294967296:Nat):Int):=by
      rw [Int.fdiv_eq_ediv_of_nonneg _ (by decide)];exact (Int.natCast_ediv _ _).symm
    generalize v.b / 4294967296 = q at *
    have hqb:((q:Int) == 0) = (q == 0):=by rw [Bool.eq_iff_iff];simp
    generalize hqq:(q == 0) = qb at *
    refine Tells.of (o:=⟨.normal,[(6,.bool qb)],[some (vaO v),some (tyO t)]⟩) ⟨0,?_⟩ ⟨rfl,rfl,.inl (by simp)⟩
    rcases k234 with kv | kv | kv
    · rw [kv] at hEq hbi
      simp (maxSteps:=2000000) -implicitDefEqProofs [-getElem?_pos,go_sem,eqV,plen,-eqV,vaO,tyO,Va.pay,ckFr,kv,mkVa,hbi,hEq,hd,hqb,show IntKind.u64.bits = 64 from rfl]
    · rw [kv] at hEq hbi
      simp (maxSteps:=2000000) -implicitDefEqProofs [-getElem?_pos,go_sem,eqV,plen,-eqV,vaO,tyO,Va.pay,ckFr,kv,mkVa,hbi,hEq,hd,hqb,show IntKind.u64.bits = 64 from rfl]
    · rw [kv] at hEq hbi
      simp (maxSteps:=2000000) -implicitDefEqProofs [-getElem?_pos,go_sem,eqV,plen,-eqV,vaO,tyO,Va.pay,ckFr,kv,mkVa,hbi,hEq,hd,hqb,show IntKind.u64.bits = 64 from rfl]
  · have e1:(decide (8≤8) || decide (v.b < 2 ^ (8 * 8))) = true:=by simp
    rw [e1]
    refine Tells.of (o:=⟨.normal,[(6,.bool true)],[some (vaO v),some (tyO t)]⟩) ⟨0,?_⟩ ⟨rfl,rfl,.inl (by simp)⟩
    rcases k234 with kv | kv | kv
    · rw [kv] at hEq hbi
      simp (maxSteps:=2000000) -implicitDefEqProofs [-getElem?_pos,go_sem,eqV,plen,-eqV,vaO,tyO,Va.pay,ckFr,kv,mkVa,hbi,hEq]
    · rw [kv] at hEq hbi
      simp (maxSteps:=2000000) -implicitDefEqProofs [-getElem?_pos,go_sem,eqV,plen,-eqV,vaO,tyO,Va.pay,ckFr,kv,mkVa,hbi,hEq]
    · rw [kv] at hEq hbi
      simp (maxSteps:=2000000) -implicitDefEqProofs [-getElem?_pos,go_sem,eqV,plen,-eqV,vaO,tyO,Va.pay,ckFr,kv,mkVa,hbi,hEq]
end Go.Proofs.YtafdnpcamepbmaaGreatDoor
namespace Go.Proofs.YtafdnpcamepbmaaGreatDoor
open Go.AM
theorem ckR (v:Va) (t:Ty) (k:Int) (n:Nat) (hbd:-1≤k∧k≤7) (hk0:¬ k < 0) (hsz:k = 1∨k = 2∨k = 3∨k = 4→n = 1∨n = 2∨n = 4∨n = 8) (hF:evT X 55 [.agg v.w.pay,.int .u8 (t.t:Nat)] [some (vaO v),some (tyO t)] = some (.bool (fin v.w t.t),[some (vaO v),some (tyO t)])) (k1:¬ v.k = 1) (k234:¬ (v.k = 2∨v.k = 3∨v.k = 4)):∃ code,ckO = some code ∧
    Tells (Goes (ckP v t k n)) X (evT X) 34 0 code (ckFr k (v.k == k) (8 * n)) [some (vaO v),some (tyO t)]:=by
  refine ⟨_,rfl,?_⟩
  unfold ckP okVk
  have k1b:(v.k == 1) = false:=by simpa using k1
  rw [if_neg k1]
  have k2b:(v.k == 2) = false:=by simp;omega
  have k3b:(v.k == 3) = false:=by simp;omega
  have k4b:(v.k == 4) = false:=by simp;omega
  rw [if_neg k234]
  generalize 8 * n = n8 at *
  by_cases k56:v.k = 5∨v.k = 6
  · rw [if_pos k56]
    by_cases hk1:k = v.k
    case neg =>
      have hkb:(v.k == k) = false:=by simp;omega
      rw [decide_eq_false hk1]
      refine Tells.of (o:=⟨.normal,[(6,.bool false)],[some (vaO v),some (tyO t)]⟩) ⟨0,?_⟩ ⟨rfl,rfl,.inl rfl⟩
      rcases k56 with kv | kv
      · rw [kv] at hkb
        simp (maxSteps:=2000000) -implicitDefEqProofs [-getElem?_pos,go_sem,eqV,plen,vaO,tyO,Va.pay,ckFr,kv,hkb]
      · rw [kv] at hkb
        simp (maxSteps:=2000000) -implicitDefEqProofs [-getElem?_pos,go_sem,eqV,plen,vaO,tyO,Va.pay,ckFr,kv,hkb]
    subst hk1
    have hEq:=fun H xo yo=>eqVa v { k:=v.k,w:=v.w } H xo yo
    have hbi:=bdVw v.k v.w
    generalize hpz:(({ k:=v.k,w:=v.w }:Va).pay) = pz at *
    generalize decide (v = { k:=v.k,w:=v.w }) = e at *
    clear hpz
    simp only [Va.pay] at hEq
    simp only [Wh.pay] at hbi
    cases e with
    | false =>
      refine Tells.of (o:=⟨.normal,[(6,.bool false)],[some (vaO v),some (tyO t)]⟩) ⟨0,?_⟩ ⟨rfl,rfl,.inl (by simp)⟩
      rcases k56 with kv | kv
      · rw [kv] at hEq hbi
        simp (maxSteps:=2000000) -implicitDefEqProofs [-getElem?_pos,go_sem,eqV,plen,-eqV,vaO,tyO,Va.pay,ckFr,kv,mkVa,mkWh,hbi,hEq]
      · rw [kv] at hEq hbi
        simp (maxSteps:=2000000) -implicitDefEqProofs [-getElem?_pos,go_sem,eqV,plen,-eqV,vaO,tyO,Va.pay,ckFr,kv,mkVa,mkWh,hbi,hEq]
    | true =>
    refine Tells.of (o:=⟨.normal,[(6,.bool (fin v.w t.t))],[some (vaO v),some (tyO t)]⟩) ⟨0,?_⟩ ⟨rfl,rfl,.inl (by simp)⟩
    simp only [vaO,tyO,Va.pay,Ty.pay,Wh.pay] at hF
    generalize fin v.w t.t = fb at *
    rcases k56 with kv | kv
    · rw [kv] at hEq hbi hF
      simp (maxSteps:=2000000) -implicitDefEqProofs [-getElem?_pos,go_sem,eqV,plen,-eqV,vaO,tyO,Va.pay,Ty.pay,ckFr,kv,mkVa,mkWh,hbi,hEq,hF]
    · rw [kv] at hEq hbi hF
      simp (maxSteps:=2000000) -implicitDefEqProofs [-getElem?_pos,go_sem,eqV,plen,-eqV,vaO,tyO,Va.pay,Ty.pay,ckFr,kv,mkVa,mkWh,hbi,hEq,hF]
  have k5b:(v.k == 5) = false:=by simp;omega
  have k6b:(v.k == 6) = false:=by simp;omega
  rw [if_neg k56]
  by_cases k7:v.k = 7
  · rw [if_pos k7]
    by_cases hk1:k = 7
    case neg =>
      have hkb:((7:Int) == k) = false:=by simp;omega
      rw [decide_eq_false hk1]
      refine Tells.of (o:=⟨.normal,[(6,.bool false)],[some (vaO v),some (tyO t)]⟩) ⟨0,?_⟩ ⟨rfl,rfl,.inl rfl⟩
      simp (maxSteps:=2000000) -implicitDefEqProofs [-getElem?_pos,go_sem,eqV,plen,vaO,tyO,Va.pay,ckFr,k7,hkb]
    subst hk1
    have hEq:=fun H xo yo=>eqVa v { k:=7,t:=v.t } H xo yo
    have hbi:=bdVt 7 v.t
    generalize hpz:(({ k:=7,t:=v.t }:Va).pay) = pz at *
    generalize decide (v = { k:=7,t:=v.t }) = e at *
    clear hpz
    simp only [Va.pay] at hEq
    rw [k7] at hEq
    cases e with
    | false =>
      refine Tells.of (o:=⟨.normal,[(6,.bool false)],[some (vaO v),some (tyO t)]⟩) ⟨0,?_⟩ ⟨rfl,rfl,.inl (by simp)⟩
      simp (maxSteps:=2000000) -implicitDefEqProofs [-getElem?_pos,go_sem,eqV,plen,-eqV,vaO,tyO,Va.pay,ckFr,k7,mkVa,hbi,hEq]
    | true =>
    have hl:decide ((v.t.length:Int)≤16777216) = decide (v.t.length≤16777216):=by rw [decide_eq_decide];omega
    generalize decide (v.t.length≤16777216) = lb at *
    refine Tells.of (o:=⟨.normal,[(6,.bool lb)],[some (vaO v),some (tyO t)]⟩) ⟨0,?_⟩ ⟨rfl,rfl,.inl (by simp)⟩
    simp (maxSteps:=2000000) -implicitDefEqProofs [-getElem?_pos,go_sem,eqV,plen,-eqV,vaO,tyO,Va.pay,ckFr,k7,mkVa,hbi,hEq,hl]
  have k7b:(v.k == 7) = false:=by simpa using k7
  rw [if_neg k7]
  by_cases k0:v.k = 0
  · refine Tells.of (o:=⟨.normal,[(6,.bool false)],[some (vaO v),some (tyO t)]⟩) ⟨0,?_⟩ ⟨rfl,rfl,.inl rfl⟩
    simp (maxSteps:=2000000) -implicitDefEqProofs [-getElem?_pos,go_sem,eqV,plen,vaO,tyO,Va.pay,ckFr,k0]
  have k0b:(v.k == 0) = false:=by simpa using k0
  have hkb:(v.k == k) = false:=by simp;omega
  refine Tells.of (o:=⟨.normal,[(2,.ptr 0 0 0 0),(5,.int .i64 k),(6,.bool false),(103,.bool false)],[some (vaO v),some (tyO t)]⟩) ⟨0,?_⟩ ⟨rfl,rfl,.inr rfl⟩
  simp (maxSteps:=2000000) -implicitDefEqProofs [-getElem?_pos,go_sem,eqV,plen,vaO,tyO,Va.pay,ckFr,hkb,k0b,k1b,k2b,k3b,k4b,k5b,k6b,k7b]
end Go.Proofs.YtafdnpcamepbmaaGreatDoor
