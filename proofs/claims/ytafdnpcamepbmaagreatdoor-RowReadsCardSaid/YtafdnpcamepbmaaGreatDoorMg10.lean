/- TE to MC: texts of this claim, one behind the other; what each shows stands at its head. -/
import Derived.Test.YtafdnpcamepbmaaGreatDoorMg9
set_option linter.unusedSimpArgs false
set_option linter.unusedVariables false
set_option maxRecDepth 100000
set_option maxHeartbeats 8000000
namespace Go.Proofs.YtafdnpcamepbmaaGreatDoor
open Go.AM
theorem roV_whole {H:AM.Heap} {o:Nat} {l:List Va} {ob:AM.Obj} (ho:H[o]? = some (some ob)) (hw:Rw (.pr 12 (l.map Va.pay)) 0 ob):RoV H (.sl o 0 l.length 0) l:=by
  have:=RoRow.whole ho hw
  rwa [List.length_map] at this
section
variable (c e:Nat) (ts:List Ty)
theorem trn_code (b:List UInt8) (hc:c = 0→b = []) (he:e = 0→ts = []) (hb:b.length≤90000000) (h256:∀ t ∈ ts,t.t < 256) (hok:∀ v ∈ (rdBin b ts).1,v.okR) (hn:ts.length≤4096) (hT:(txR (List.zipWith trnV (rdBin b ts).1 ts)).length≤1000000) :
    ∃ code,Tryz.f11.body = some code ∧
    Tells (Rets (tnQ (trdB b ts))) X (evT X) 11 0 code [(0,.ro c (.pb b) 1),(1,tyA e ts)] []:=by
  refine ⟨_,rfl,?_⟩
  have hTl:(ts.map Ty.pay).length = ts.length:=List.length_map _
  apply Tells.seq (fr':=[(0,.ro c (.pb b) 1),(1,tyA e ts)]) (H':=[some nilB])
  · unfold tyA
    generalize ts.map Ty.pay = T at *
    (refine ⟨0,?_⟩;simp (maxSteps:=2000000) -implicitDefEqProofs [-getElem?_pos,go_sem,eqV,plen,assignV,emB])
  have hA:RoT [some nilB] (tyA e ts) ts:=RoRow.ro fun h=>by rw [he h];rfl
  obtain ⟨ob,hw,hB⟩:=brd_ev (H:=[some nilB]) (a:=.ro c (.pb b) 1) (A:=tyA e ts) (b:=b) (ts:=ts) (Byt.ro (.inl rfl) hc) hA hb h256
  have hlen:=rdBin_len (b:=b) (ts:=ts)
  have hX:trdB b ts = if (rdBin b ts).2 ≠ 0 then ([],(rdBin b ts).2) else if ts.any bad45 then ([],2) else txApp [] (List.zipWith trnV (rdBin b ts).1 ts):=rfl
  obtain ⟨l,er,hr⟩:∃ l er,rdBin b ts = (l,er):=⟨_,_,rfl⟩
  rw [hr] at hX hB hw hok hT hlen
  rw [hX]
  clear hX
  simp only at hok hT hw hlen ⊢
  simp only [List.length_cons,List.length_nil,List.cons_append,List.nil_append] at hB
  apply Tells.seq (fr':=[(1,tyA e ts),(6,.sl 1 0 l.length 0),(7,.int .i64 er)]) (H':=[some nilB,some ob])
  · generalize tyA e ts = A at *
    (refine ⟨0,?_⟩;simp (maxSteps:=2000000) -implicitDefEqProofs [-getElem?_pos,go_sem,eqV,plen,hB,assignV])
  by_cases he0:er ≠ 0
  · rw [if_pos he0]
    have heb:(er != 0) = true:=by simpa using he0
    refine Tells.of (o:=⟨.ret,[(4,.sl 2 0 0 0),(5,.int .i64 er)],[some nilB,some ob,some nilB]⟩) ?_ ⟨rfl,2,0,nilB,rfl,rfl,rfl,nilB_rw⟩
    apply Run.seq_out (hne:=by simp)
    generalize tyA e ts = A at *
    refine ⟨0,?_⟩
    simp (maxSteps:=2000000) -implicitDefEqProofs [-getElem?_pos,go_sem,eqV,plen,heb,assignV,emB]
  rw [if_neg he0]
  have he1:er = 0:=by simpa using he0
  subst he1
  have hl:l.length = ts.length:=hlen rfl
  apply Tells.seq (fr':=[(1,tyA e ts),(6,.sl 1 0 l.length 0),(7,.int .i64 0),(19,.bool false)]) (H':=[some nilB,some ob])
  · apply Run.seq (fr':=[(1,tyA e ts),(6,.sl 1 0 l.length 0),(7,.int .i64 0),(19,.bool false)]) (H':=[some nilB,some ob])
    · generalize tyA e ts = A at *
      (refine ⟨0,?_⟩;simp (maxSteps:=2000000) -implicitDefEqProofs [-getElem?_pos,go_sem,eqV,plen])
    · exact condF (by simp [evalO,getF]) ⟨0,rfl⟩
  apply Tells.assoc
  apply Tells.seq (fr':=tnFr e ts l.length 0) (H':=[some nilB,some ob])
  · unfold tnFr tyA
    generalize ts.map Ty.pay = T at *
    (refine ⟨0,?_⟩;simp (maxSteps:=2000000) -implicitDefEqProofs [-getElem?_pos,go_sem,eqV,plen,hTl])
  apply Tells.or (P:=fun fr H'=>ts.any bad45 = false∧fr = tnFr e ts l.length ts.length ++ [(24,.bool false)]∧tnHp (List.zipWith trnV l ts) H')
  · refine (piece (tn_loop e ts l [some nilB,some ob] hl hn hok h256 ⟨ob,rfl,hw⟩) _ rfl).mono ?_
    rintro out (h | ⟨q1,q2,q3,q4⟩)
    · exact .inl h
    · refine .inr ⟨q1,q2,?_⟩
      rw [if_pos q3]
      exact q4
  rintro fr H ⟨hnb,rfl,ob2,h1,hw2⟩
  rw [if_neg (by rw [hnb];simp)]
  have hzl:(List.zipWith trnV l ts).length = l.length:=by rw [List.length_zipWith];omega
  have hzo:=trn_all (ts:=ts) hok
  have hRV:=roV_whole h1 hw2
  rw [hzl] at hRV
  generalize List.zipWith trnV l ts = z at *
  obtain ⟨ob3,hw3,hA3⟩:=tapp_ev (H:=H) (a:=.ro 0 .pn 0) (A:=.sl 1 0 l.length 0) (b:=[]) Byt.nil hRV (by simp) hzo hT
  refine Tells.of (o:=⟨.ret,[(4,.sl H.length 0 (txApp [] z).1.length 0),(5,.int .i64 (txApp [] z).2)],H ++ [some ob3]⟩) ⟨0,?_⟩ ⟨rfl,H.length,0,ob3,rfl,rfl,by simp,hw3⟩
  unfold tnFr
  generalize tyA e ts = A at *
  generalize (txApp [] z) = x at *
  generalize l.length = n at *
  simp (maxSteps:=2000000) -implicitDefEqProofs [-getElem?_pos,go_sem,eqV,plen,hA3,assignV]
end
theorem trn_ev {H:AM.Heap} {a A:AV} {b:List UInt8} {ts:List Ty} (h:Byt H a b) (hA:RoT H A ts) (hb:b.length≤90000000) (h256:∀ t ∈ ts,t.t < 256) (hok:∀ v ∈ (rdBin b ts).1,v.okR) (hn:ts.length≤4096) (hT:(txR (List.zipWith trnV (rdBin b ts).1 ts)).length≤1000000) :
    ∃ ob,Rw (.pb (trdB b ts).1) 0 ob∧evT X 11 [a,A] H = some (.tup [.sl H.length 0 (trdB b ts).1.length 0,.int .i64 (trdB b ts).2],H ++ [some ob]):=by
  obtain ⟨e,pt,xt,hpt,he,hxt⟩:=args_t (f:=11) (i:=1) rfl hA (args_nil 2)
  obtain ⟨c,p,xl,hp,hc,hx'⟩:=args_byt (C:=X) (f:=11) (i:=0) rfl h hxt
  obtain ⟨code,hcode,hr⟩:=trn_code c e ts b hc he hb h256 hok hn hT
  obtain ⟨ob,q1,q2⟩:=Ev1.newB (H:=H) (n:=(trdB b ts).1.length) (l:=(trdB b ts).1) (rest:=[.int .i64 (trdB b ts).2]) (evT_below X) Tryz.func11 hcode hx' (by simp [idsL,ids,hp.ids,hpt.ids]) (by simp [gtag]) rfl rfl rfl (by
    obtain ⟨o,⟨he,o1,g,ob,q1,q2,q3,q4⟩,hrun⟩:=hr
    exact ⟨o,⟨he,o1,g,ob,by show some [getF o.fr 4,getF o.fr 5] = _;rw [q1,q2],q3,q4⟩,by rw [par11,coB hp,coT hpt,coerce_nil];exact hrun⟩)
  exact ⟨ob,q1,evT_eq q2⟩
end Go.Proofs.YtafdnpcamepbmaaGreatDoor
namespace Go.Proofs.YtafdnpcamepbmaaGreatDoor
open Go.AM
section
variable (c:Nat) (b:List UInt8) (d:Nat) (l:List Va)
def rtFr (i o g:Nat):AM.Frame:=[(1,.ro d (.pr 12 (l.map Va.pay)) 2),(6,.sl o 0 (b ++ txR (l.take i)).length g),(7,.int .i64 (i:Nat))]
theorem rt_chk (i o g:Nat) (v:Va) (H:AM.Heap) (hn:l.length≤4096) (hv:l[i]? = some v) :
    ∃ code,((Tryz.f33.body).bind (codeAt [1,1,1,0,1,0,0,1,0,0,0,0])) = some code∧Run X (evT X) 33 0 code (rtFr b d l i o g ++ [(17,.bool true)]) H
      ⟨.normal,rtFr b d l i o g ++ [(26,.bool (chkV v tyVS != 0))],H⟩:=by
  refine ⟨_,rfl,?_⟩
  have hC:=rcheck_ev (v:=v) (t:=tyVS) (by decide) H
  have hX:=plain_ev H
  have hLl:(l.map Va.pay).length = l.length:=List.length_map _
  have hrow:(l.map Va.pay)[i]? = some v.pay:=by rw [List.getElem?_map,hv];rfl
  have hlt:=at_lt hv
  have hiI:(i:Int) < (l.length:Int):=by omega
  unfold rtFr
  generalize (b ++ txR (l.take i)).length = n at *
  generalize l.map Va.pay = L at *
  generalize chkV v tyVS = ck at *
  simp only [Va.pay,Ty.pay] at hC hX hrow
  apply Run.dy (by simp) keep33_7 (by simp)
  · (conv=>lhs;simp (maxSteps:=2000000) -implicitDefEqProofs [-getElem?_pos,go_sem,eqV,plen,runD,out1,markOf,freeO,quietO,pushes,isAssign,calledV,touched,mentioned,opVals,touchCall,mentionCall,idsAt,Op.operands,ids,idsL,lendArgs,lendV,lend1,lendL,eqH_self,hlt,hiI,hLl,hrow,Va.pay,Ty.pay,mkVa,mkTy,hC,hX,retagL,retag,retagP,flatCells,splice,scalars,scalar])
  · refine marksOk_of (ps:=[(0,1),(0,4),(1,4),(2,4),(3,4)]) (by kernel_rfl) ?_
    simp [bearP,bear]
  · rfl
def rtFm (i o g:Nat):AM.Frame:=[(1,.ro d (.pr 12 (l.map Va.pay)) 2),(6,.sl o 0 (b ++ txR (l.take (i + 1))).length g),(7,.int .i64 (i:Nat))]
theorem rt_val (i o g:Nat) (v:Va) (ob:AM.Obj) (H:AM.Heap) (hn:l.length≤4096) (hv:l[i]? = some v) (hb:b.length≤2000000) (hT:(txR l).length≤1000000) (hs:v.t.length≤16777216) (ho:H[o]? = some (some ob)) (hw:Rw (.pb (b ++ txR (l.take i))) g ob) :
    ∃ code,((Tryz.f33.body).bind (codeAt [1,1,1,0,1,0,0,1,0,0,1])) = some code ∧
      Tells (Goes fun fr H'=>∃ o' g' ob',fr = rtFm b d l i o' g'∧H'[o']? = some (some ob')∧Rw (.pb (b ++ txR (l.take (i + 1)))) g' ob') X (evT X) 33 0 code (rtFr b d l i o g ++ [(26,.bool false)]) H:=by
  refine ⟨_,rfl,?_⟩
  have hlt:=at_lt hv
  have hLl:(l.map Va.pay).length = l.length:=List.length_map _
  have hrow:(l.map Va.pay)[i]? = some v.pay:=by rw [List.getElem?_map,hv];rfl
  have hiI:(i:Int) < (l.length:Int):=by omega
  have hcat:=txR_take hv
  have hle:=txR_le l i
  by_cases hk:v.k = 0
  · have ht:txV v = [251]:=if_pos hk
    rw [ht] at hcat
    obtain ⟨ob1,hw1,hA⟩:=app_b (H:=H) (o:=o) (m:=[251]) (src:=.ro 1 (.pb [251]) 0) ho hw (.inl rfl) (by simp;omega)
    have hbs:=fun H=>bsK H 251 251 rfl
    rw [List.append_assoc,← hcat] at hw1
    have hl1:(b ++ txR (l.take (i + 1))).length = (b ++ txR (l.take i)).length + 1:=by rw [hcat];simp;omega
    refine Tells.of (o:=⟨.normal,rtFm b d l i o (g + 1),upd H o (some ob1)⟩) ⟨0,?_⟩ ⟨rfl,o,g + 1,ob1,rfl,at_set ho,hw1⟩
    unfold rtFr rtFm
    rw [hl1]
    simp only [List.length_cons,List.length_nil,Nat.zero_add] at hA
    generalize (b ++ txR (l.take i)).length = n at *
    generalize l.map Va.pay = L at *
    simp only [Va.pay] at hA hrow
    rw [hk] at hrow
    simp (maxSteps:=2000000) -implicitDefEqProofs [-getElem?_pos,go_sem,eqV,plen,hlt,hiI,hLl,hrow,hk,hbs,hA,assignV]
  · have ht:txV v = aT v.t:=if_neg hk
    rw [ht] at hcat
    have hkb:(v.k == 0) = false:=by simpa using hk
    obtain ⟨ob1,hw1,hA⟩:=rappendText_ev (H:=H) (s:=v.t) (Byt.whole ho hw) (by simp;omega) (by omega)
    rw [List.append_assoc,← hcat] at hw1 hA
    refine Tells.of (o:=⟨.normal,rtFm b d l i H.length 0,H ++ [some ob1]⟩) ⟨0,?_⟩ ⟨rfl,H.length,0,ob1,rfl,by simp,hw1⟩
    unfold rtFr rtFm
    generalize (b ++ txR (l.take i)).length = n at *
    generalize (b ++ txR (l.take (i + 1))).length = n1 at *
    generalize l.map Va.pay = L at *
    simp only [Va.pay] at hA hrow
    simp (maxSteps:=2000000) -implicitDefEqProofs [-getElem?_pos,go_sem,eqV,plen,hlt,hiI,hLl,hrow,hkb,hA,assignV]
theorem rt_loop (H:AM.Heap) (o0:Nat) (ob0:AM.Obj) (hn:l.length≤4096) (hb:b.length≤2000000) (hT:(txR l).length≤1000000) (ho0:H[o0]? = some (some ob0)) (hw0:Rw (.pb b) 0 ob0) :
    ∃ code,((Tryz.f33.body).bind (codeAt [1,1,1,0,1])) = some code ∧
      Tells (Or2 (fun fr H=>(∀ p ∈ l,chkV p tyVS = 0)∧∃ o g ob,fr = rtFr b d l l.length o g ++ [(17,.bool false)]∧H[o]? = some (some ob)∧Rw (.pb (b ++ txR l)) g ob) (fun out=>out.ex = .ret∧(∃ p ∈ l,chkV p tyVS ≠ 0)∧∃ o,getF out.fr 4 = .sl o 0 0 0∧getF out.fr 5 = .int .i64 2∧out.H[o]? = some (some nilB)))
        X (evT X) 33 0 code (rtFr b d l 0 o0 0) H:=by
  refine ⟨_,rfl,?_⟩
  have hLl:(l.map Va.pay).length = l.length:=List.length_map _
  apply Tells.blockOr
  refine Tells.loopP (fun k fr H=>∃ i o g ob,k = l.length - i∧i≤l.length∧fr = rtFr b d l i o g∧H[o]? = some (some ob)∧Rw (.pb (b ++ txR (l.take i))) g ob∧∀ j p,j < i→l[j]? = some p→chkV p tyVS = 0) ?_ (k:=l.length) ⟨0,o0,0,ob0,rfl,by omega,rfl,ho0,by rw [List.take_zero];simpa [txR] using hw0,by omega⟩
  rintro k fr H ⟨i,o,g,ob,rfl,hi,rfl,ho,hw,hall⟩
  apply Tells.assoc
  by_cases hin:i = l.length
  · subst hin
    rw [List.take_length] at hw
    refine Tells.of (o:=⟨.exit 0,rtFr b d l l.length o g ++ [(17,.bool false)],H⟩) ⟨0,?_⟩ (.inr ⟨by simp,.inl ⟨rfl,fun p hp=>?_,o,g,ob,rfl,ho,hw⟩⟩)
    · unfold rtFr
      generalize (b ++ txR (l.take l.length)).length = n at *
      generalize l.map Va.pay = L at *
      simp (maxSteps:=2000000) -implicitDefEqProofs [-getElem?_pos,go_sem,eqV,plen,hLl]
    · obtain ⟨j,hj,rfl⟩:=List.mem_iff_getElem.1 hp
      exact hall j _ hj (List.getElem?_eq_getElem hj)
  have hlt:i < l.length:=by omega
  have hiI:(i:Int) < (l.length:Int):=by omega
  obtain ⟨v,hv⟩:∃ p,l[i]? = some p:=⟨_,List.getElem?_eq_getElem hlt⟩
  have hm:=List.mem_of_getElem? hv
  have w1:IntKind.i64.wrap ((i:Int) + 1) = ((i + 1:Nat):Int):=by rw [wrap_i64 (by omega) (by omega)];omega
  apply Tells.seq (fr':=rtFr b d l i o g ++ [(17,.bool true)]) (H':=H)
  · unfold rtFr
    generalize (b ++ txR (l.take i)).length = n at *
    generalize l.map Va.pay = L at *
    (refine ⟨0,?_⟩;simp (maxSteps:=2000000) -implicitDefEqProofs [-getElem?_pos,go_sem,eqV,plen,hLl,hiI])
  apply Tells.seq (fr':=rtFr b d l i o g ++ [(17,.bool true)]) (H':=H)
  · refine condT (by simp [evalO,getF,rtFr]) ?_
    exact ⟨0,rfl⟩
  apply Tells.or (P:=fun fr H'=>chkV v tyVS = 0∧∃ o' g' ob',fr = rtFm b d l i o' g'∧H'[o']? = some (some ob')∧Rw (.pb (b ++ txR (l.take (i + 1)))) g' ob')
  · apply Tells.blkOr
    · apply Tells.assoc
      apply Tells.seq (piece (rt_chk b d l i o g v H hn hv) _ rfl)
      by_cases h0:chkV v tyVS = 0
      · have h0b:(chkV v tyVS != 0) = false:=by rw [h0];rfl
        rw [h0b]
        apply Tells.seq (fr':=rtFr b d l i o g ++ [(26,.bool false)]) (H':=H)
        · exact condF (by simp [evalO,getF,rtFr]) ⟨0,rfl⟩
        have hs:v.t.length≤16777216:=by
          rcases ok_tx h0 with h | h
          · rw [h];decide
          · exact h.2
        refine (piece (rt_val b d l i o g v ob H hn hv hb hT hs ho hw) _ rfl).mono ?_
        rintro q ⟨h1,h2⟩
        exact .inl ⟨h1,h0,h2⟩
      · have h0b:(chkV v tyVS != 0) = true:=by simpa using h0
        rw [h0b]
        refine Tells.of (o:=⟨.ret,[(4,.sl H.length 0 0 0),(5,.int .i64 2)],H ++ [some nilB]⟩) ?_ (.inr ⟨by simp,.inr ⟨by simp,.inr ⟨rfl,rfl,⟨v,hm,h0⟩,H.length,rfl,rfl,by simp⟩⟩⟩)
        apply Run.seq_out (hne:=by simp)
        refine condT (by simp [evalO,getF,rtFr]) ⟨0,?_⟩
        unfold rtFr
        generalize (b ++ txR (l.take i)).length = n at *
        generalize l.map Va.pay = L at *
        simp (maxSteps:=2000000) -implicitDefEqProofs [-getElem?_pos,go_sem,eqV,plen,assignV,emB]
    · rintro o (⟨h1,_⟩ | ⟨_,⟨h2,_⟩ | ⟨h2,_⟩⟩)
      · rw [h1];simp
      · rw [h2];simp
      · rw [h2];simp
  rintro fr H' ⟨h0,o',g',ob',rfl,ho',hw'⟩
  refine Tells.of (o:=⟨.normal,rtFr b d l (i + 1) o' g',H'⟩) ⟨0,?_⟩ (.inl ⟨rfl,l.length - (i + 1),by omega,i + 1,o',g',ob',rfl,by omega,rfl,ho',hw',fun j q hj hq=>?_⟩)
  · unfold rtFr rtFm
    generalize (b ++ txR (l.take (i + 1))).length = n at *
    generalize l.map Va.pay = L at *
    simp (maxSteps:=2000000) -implicitDefEqProofs [-getElem?_pos,go_sem,eqV,plen,w1]
  · by_cases hji:j = i
    · subst hji;rw [hv] at hq;obtain rfl:=Option.some.inj hq
      exact h0
    · exact hall j q (by omega) hq
theorem rtapp_code (hc:c = 0→b = []) (hb:b.length≤2000000) (hT:(txR l).length≤1000000):∃ code,Tryz.f33.body = some code ∧
    Tells (Rets fun fr H=>∃ o g ob,getF fr 4 = .sl o 0 (txApp b l).1.length g∧getF fr 5 = .int .i64 (txApp b l).2∧H[o]? = some (some ob)∧Rw (.pb (txApp b l).1) g ob) X (evT X) 33 0 code [(0,.ro c (.pb b) 1),(1,.ro d (.pr 12 (l.map Va.pay)) 2)] []:=by
  refine ⟨_,rfl,?_⟩
  have hLl:(l.map Va.pay).length = l.length:=List.length_map _
  obtain ⟨L,hLm⟩:∃ L,l.map Va.pay = L:=⟨_,rfl⟩
  rw [hLm] at hLl ⊢
  apply Tells.seq (fr':=[(0,.ro c (.pb b) 1),(1,.ro d (.pr 12 L) 2)]) (H':=[some nilB])
  · (refine ⟨0,?_⟩;simp (maxSteps:=2000000) -implicitDefEqProofs [-getElem?_pos,go_sem,eqV,plen,assignV,emB])
  by_cases h5:4096 < l.length
  · rw [show txApp b l = ([],3) from if_pos h5]
    refine Tells.of (o:=⟨.ret,[(4,.sl 1 0 0 0),(5,.int .i64 3)],[some nilB,some nilB]⟩) ?_ ⟨rfl,1,0,nilB,rfl,rfl,rfl,nilB_rw⟩
    apply Run.seq_out (hne:=by simp)
    have h5i:(4096:Int) < (l.length:Int):=by omega
    refine ⟨0,?_⟩
    simp (maxSteps:=2000000) -implicitDefEqProofs [-getElem?_pos,go_sem,eqV,plen,assignV,emB,h5i,hLl]
  have hbad:∀ p ∈ l,chkV p tyVS ≠ 0→txApp b l = ([],2):=by
    intro p hp hb
    unfold txApp
    rw [if_neg h5,if_pos (List.any_eq_true.2 ⟨p,hp,by simpa using hb⟩)]
  have h5i:¬ (4096:Int) < (l.length:Int):=by omega
  apply Tells.seq (fr':=[(0,.ro c (.pb b) 1),(1,.ro d (.pr 12 L) 2),(10,.bool false)]) (H':=[some nilB])
  · (refine ⟨0,?_⟩;simp (maxSteps:=2000000) -implicitDefEqProofs [-getElem?_pos,go_sem,eqV,plen,assignV,emB,h5i,hLl])
  have hA:=app_lit (H:=[some nilB]) (src:=.ro c (.pb b) 1) (.inl rfl) (by omega)
  have hb0:=fun H=>bs0 H
  apply Tells.seq (fr':=[(1,.ro d (.pr 12 L) 2),(6,.sl 1 0 b.length 0)]) (H':=[some nilB,some ⟨.pb b,0,.none,1,true,false,0⟩])
  · (refine ⟨0,?_⟩;simp (maxSteps:=2000000) -implicitDefEqProofs [-getElem?_pos,go_sem,eqV,plen,hb0,hA,assignV])
  apply Tells.assoc
  have hbl:(b ++ txR (l.take 0)).length = b.length:=by rw [List.take_zero];simp [txR]
  apply Tells.seq (fr':=rtFr b d l 0 1 0) (H':=[some nilB,some ⟨.pb b,0,.none,1,true,false,0⟩])
  · unfold rtFr
    rw [hbl,hLm]
    (refine ⟨0,?_⟩;simp (maxSteps:=2000000) -implicitDefEqProofs [-getElem?_pos,go_sem,eqV,plen])
  apply Tells.or (P:=fun fr H=>(∀ p ∈ l,chkV p tyVS = 0)∧∃ o g ob,fr = rtFr b d l l.length o g ++ [(17,.bool false)]∧H[o]? = some (some ob)∧Rw (.pb (b ++ txR l)) g ob)
  · refine (piece (rt_loop b d l [some nilB,some ⟨.pb b,0,.none,1,true,false,0⟩] 1 _ (by omega) hb hT rfl ⟨rfl,rfl,rfl,rfl,rfl⟩) _ rfl).mono ?_
    rintro out (h | ⟨h1,h2,⟨p,hp,hb⟩,o,q6,q7,q8⟩)
    · exact .inl h
    · have hbd:=hbad p hp hb
      exact .inr ⟨h1,h2,o,0,nilB,by rw [hbd];exact q6,by rw [hbd];exact q7,q8,by rw [hbd];exact nilB_rw⟩
  rintro fr H ⟨hok,o,g,ob,rfl,ho,hw⟩
  have hany:¬ (l.any fun v=>decide (chkV v tyVS ≠ 0)) = true:=by
    intro h
    obtain ⟨p,hp,hb⟩:=List.any_eq_true.1 h
    rw [hok p hp] at hb;simp at hb
  have hpa:txApp b l = (b ++ txR l,0):=by
    unfold txApp
    rw [if_neg h5,if_neg hany]
  rw [hpa]
  refine Tells.of (o:=⟨.ret,[(4,.sl o 0 (b ++ txR l).length g),(5,.int .i64 0)],H⟩) ⟨0,?_⟩ ⟨rfl,o,g,ob,rfl,rfl,ho,hw⟩
  unfold rtFr
  rw [List.take_length]
  generalize (b ++ txR l).length = n at *
  simp (maxSteps:=2000000) -implicitDefEqProofs [-getElem?_pos,go_sem,eqV,plen,assignV]
end
theorem rtapp_ev {H:AM.Heap} {a A:AV} {b:List UInt8} {l:List Va} (h:Byt H a b) (hA:RoV H A l) (hb:b.length≤2000000) (hT:(txR l).length≤1000000) :
    ∃ ob,Rw (.pb (txApp b l).1) 0 ob∧evT X 33 [a,A] H = some (.tup [.sl H.length 0 (txApp b l).1.length 0,.int .i64 (txApp b l).2],H ++ [some ob]):=by
  obtain ⟨d,pv,xv,hpv,hd,hxv⟩:=args_v (f:=33) (i:=1) rfl hA (args_nil 2)
  obtain ⟨c,p,xl,hp,hc,hx'⟩:=args_byt (C:=X) (f:=33) (i:=0) rfl h hxv
  obtain ⟨code,hcode,hr⟩:=rtapp_code c b d l hc hb hT
  obtain ⟨ob,q1,q2⟩:=Ev1.newB (H:=H) (n:=(txApp b l).1.length) (l:=(txApp b l).1) (rest:=[.int .i64 (txApp b l).2]) (evT_below X) Tryz.func33 hcode hx' (by simp [idsL,ids,hp.ids,hpv.ids]) (by simp [gtag]) rfl rfl rfl (by
    obtain ⟨o,⟨he,o1,g,ob,q1,q2,q3,q4⟩,hrun⟩:=hr
    exact ⟨o,⟨he,o1,g,ob,by show some [getF o.fr 4,getF o.fr 5] = _;rw [q1,q2],q3,q4⟩,by rw [par33,coB hp,coV hpv,coerce_nil];exact hrun⟩)
  exact ⟨ob,q1,evT_eq q2⟩
end Go.Proofs.YtafdnpcamepbmaaGreatDoor
namespace Go.Proofs.YtafdnpcamepbmaaGreatDoor
open Go.AM
section
variable (n:Nat)
def rxFr (x:Nat) (s:List UInt8) (tl:AM.Frame):AM.Frame:=[(0,.int .u64 (x:Nat)),(1,.int .i64 (n:Nat)),(5,.str s)] ++ tl
theorem bsD (H:AM.Heap) (y:UInt8):buildSliceV X H 22 1 [(0,.int .u8 (y.toNat:Nat))] = some (.ro 1 (.pb [y]) 0,H):=bs1 H y
theorem rg_round (H:AM.Heap) (x:Nat) (s:List UInt8) (hx:x < 18446744073709551616) (hs:s.length≤30):∃ code,((Tryz.f51.body).bind (codeAt [1,1,0,0,0,1])) = some code∧Run X (evT X) 51 0 code (rxFr n x s [(13,.bool true)]) H ⟨.normal,rxFr n (x / 10) (dch (x % 10) :: s) [],H⟩:=by
  refine ⟨_,rfl,?_⟩
  have t1:(x:Int).tmod 10 = ((x % 10:Nat):Int):=rfl
  have t1':(x:Int) % 10 = ((x % 10:Nat):Int):=by omega
  have t2:(x:Int).tdiv 10 = ((x / 10:Nat):Int):=rfl
  have t2':(x:Int) / 10 = ((x / 10:Nat):Int):=by omega
  have w1:IntKind.u64.wrap (48 + ((x % 10:Nat):Int)) = ((48 + x % 10:Nat):Int):=by
    unfold IntKind.wrap;simp [IntKind.signed,IntKind.bits];omega
  have w2:IntKind.u8.wrap ((48 + x % 10:Nat):Int) = ((dch (x % 10)).toNat:Int):=by
    unfold IntKind.wrap dch;simp [IntKind.signed,IntKind.bits]
  have w3:IntKind.u64.wrap ((x / 10:Nat):Int) = ((x / 10:Nat):Int):=by
    unfold IntKind.wrap;simp [IntKind.signed,IntKind.bits];omega
  have hB:=fun H=>bsD H (dch (x % 10))
  have hl:1 + s.length≤9223372036854775807:=by omega
  have hl2:s.length + 1≤9223372036854775807:=by omega
  generalize hz:48 + x % 10 = z at *
  generalize dch (x % 10) = y at *
  generalize x % 10 = m at *
  generalize x / 10 = q at *
  refine Run.block ?_ (by simp)
  unfold rxFr
  (refine ⟨0,?_⟩;simp (maxSteps:=2000000) -implicitDefEqProofs [-getElem?_pos,go_sem,eqV,plen,t1,t1',t2,t2',w1,w2,w3,hB,hl,hl2,isU8,readSl,strOp])
theorem rdig_code (x:Nat) (hx:x < 18446744073709551616) (hn:1≤n) (hn2:n≤20):∃ code,Tryz.f51.body = some code ∧
    Tells (Rets fun fr H=>getF fr 4 = .str (padB x n)) X (evT X) 51 0 code [(0,.int .u64 (x:Nat)),(1,.int .i64 (n:Nat))] []:=by
  refine ⟨_,rfl,?_⟩
  apply Tells.seq (fr':=[(0,.int .u64 (x:Nat)),(1,.int .i64 (n:Nat))]) (H':=[])
  · (refine ⟨0,?_⟩;simp (maxSteps:=2000000) -implicitDefEqProofs [-getElem?_pos,go_sem,eqV,plen])
  apply Tells.seq (fr':=rxFr n x [] []) (H':=[])
  · unfold rxFr
    (refine ⟨0,?_⟩;simp (maxSteps:=2000000) -implicitDefEqProofs [-getElem?_pos,go_sem,eqV,plen])
  apply Tells.andThen (P:=fun fr H=>H = []∧∃ x2,fr = rxFr n x2 (padB x n) [(13,.bool false)])
  · refine Tells.block (P:=fun fr H=>H = []∧∃ x2,fr = rxFr n x2 (padB x n) [(13,.bool false)]) ?_
    refine Tells.loopP (fun k fr H=>∃ x2 s,k = x2 + (n - s.length)∧fr = rxFr n x2 s []∧H = []∧x2 < 18446744073709551616∧s.length≤20∧x2 < 10 ^ (20 - s.length)∧∀ f,ndN x2 + n < f→rdg n f x2 s = padB x n) ?_ (k:=x + n) ⟨x,[],rfl,rfl,rfl,hx,by simp,by simp;omega,fun f hf=>rdg_pad hn hf⟩
    rintro k fr H ⟨x2,s,rfl,rfl,rfl,h1,h2,h3,h4⟩
    apply Tells.assoc
    by_cases hc:0 < x2∨s.length < n
    · have hs20:s.length < 20:=by
        by_cases h:s.length = 20
        · rw [h] at h3;simp at h3;omega
        · omega
      apply Tells.seq (fr':=rxFr n x2 s [(13,.bool true)]) (H':=[])
      · unfold rxFr
        by_cases h0:0 < x2
        · have h0I:(0:Int) < (x2:Int):=by omega
          (refine ⟨0,?_⟩;simp (maxSteps:=2000000) -implicitDefEqProofs [-getElem?_pos,go_sem,eqV,plen,h0,h0I])
        · have h0I:¬ (0:Int) < (x2:Int):=by omega
          have h5:s.length < n:=by omega
          have h5I:(s.length:Int) < (n:Int):=by omega
          (refine ⟨0,?_⟩;simp (maxSteps:=2000000) -implicitDefEqProofs [-getElem?_pos,go_sem,eqV,plen,h0,h0I,h5,h5I])
      apply Tells.seq (fr':=rxFr n x2 s [(13,.bool true)]) (H':=[])
      · exact Run.cond (d:=true) rfl ⟨0,rfl⟩
      refine Tells.of (piece (rg_round n [] x2 s h1 (by omega)) _ rfl) (.inl ⟨rfl,x2 / 10 + (n - (s.length + 1)),by omega,x2 / 10,_,rfl,rfl,rfl,by omega,by simp;omega,?_,?_⟩)
      · simp only [List.length_cons]
        rw [show 20 - s.length = (20 - (s.length + 1)) + 1 by omega,Nat.pow_succ] at h3
        omega
      · intro f hf
        have hnd:ndN (x2 / 10)≤ndN x2:=by
          conv=>rhs;unfold ndN
          split
          · have:x2 / 10 = 0:=by omega
            rw [this]
            have:ndN 0 = 1:=by unfold ndN;rfl
            omega
          · omega
        have h6:=h4 (ndN x2 + n + 1 + 1) (by omega)
        rw [rdg,if_pos hc] at h6
        rw [← h6,rdg_eq f _ _ hf,rdg_eq (ndN x2 + n + 1) _ _ (by omega)]
    · have h0:¬ 0 < x2:=by omega
      have h0I:¬ (0:Int) < (x2:Int):=by omega
      have h5:¬ s.length < n:=by omega
      have h5I:¬ (s.length:Int) < (n:Int):=by omega
      have h6:=h4 (ndN x2 + n + 1) (by omega)
      rw [rdg,if_neg hc] at h6
      refine Tells.of (o:=⟨.exit 0,rxFr n x2 s [(13,.bool false)],[]⟩) ⟨0,?_⟩ (.inr ⟨by simp,rfl,rfl,x2,by rw [h6]⟩)
      unfold rxFr
      simp (maxSteps:=2000000) -implicitDefEqProofs [-getElem?_pos,go_sem,eqV,plen,h0,h0I,h5,h5I]
  rintro fr H ⟨rfl,x2,rfl⟩
  refine Tells.of (o:=⟨.ret,[(4,.str (padB x n))],[]⟩) ⟨0,?_⟩ ⟨rfl,rfl⟩
  unfold rxFr
  simp (maxSteps:=2000000) -implicitDefEqProofs [-getElem?_pos,go_sem,eqV,plen]
end
theorem rdig_ev {H:AM.Heap} {x n:Nat} (hx:x < 18446744073709551616) (hn:1≤n) (hn2:n≤20):evT X 51 [.int .u64 (x:Nat),.int .i64 (n:Nat)] H = some (.str (padB x n),H):=by
  obtain ⟨code,hcode,o,⟨he,h4⟩,hr⟩:=rdig_code n x hx hn hn2
  exact evT_eq (Ev1.toldP (l:=[.str (padB x n)]) (evT_below X) Tryz.func51 hcode (args_flat (i:=0) rfl rfl (args_flat (i:=1) rfl rfl (args_nil 2))) rfl (by simp [gtag]) rfl rfl rfl ⟨o,⟨he,by show some [getF o.fr 4] = _;rw [h4]⟩,hr⟩)
end Go.Proofs.YtafdnpcamepbmaaGreatDoor
namespace Go.Proofs.YtafdnpcamepbmaaGreatDoor
open Go.AM
theorem padB_one (x:Nat):padB x 1 = decB x:=by
  rw [padB_eq,show 1 - ndN x = 0 by have:=ndN_pos x;omega];rfl
section
variable (w:Wh)
theorem ct_r1 (hw:WOk w):∃ code,((Tryz.f52.body).bind (codeAt [1,0])) = some code∧Run X (evT X) 52 0 code [(1,.ptr 0 0 0 0)] [some (whO w)] ⟨.normal,[(1,.ptr 0 0 0 0),(3,.str (58 :: (padB w.mi.toNat 2 ++ 58 :: padB w.s.toNat 2)))],[some (whO w)]⟩:=by
  refine ⟨_,rfl,?_⟩
  obtain ⟨m,hm⟩:∃ m:Nat,w.mi = (m:Int):=⟨w.mi.toNat,by have:=hw.mi;omega⟩
  obtain ⟨s,hs⟩:∃ m:Nat,w.s = (m:Int):=⟨w.s.toNat,by have:=hw.s;omega⟩
  have b1:=hw.mi;have b2:=hw.s
  rw [hm] at b1;rw [hs] at b2
  have e1:=rdig_ev (H:=[some (whO w)]) (x:=m) (n:=2) (by omega) (by omega) (by omega)
  have e2:=rdig_ev (H:=[some (whO w)]) (x:=s) (n:=2) (by omega) (by omega) (by omega)
  have w1:IntKind.u64.wrap (m:Int) = (m:Int):=wu64 (by omega)
  have w2:IntKind.u64.wrap (s:Int) = (s:Int):=wu64 (by omega)
  have l1:=padB_len (x:=m) (n:=2) (by omega) (by omega)
  have l2:=padB_len (x:=s) (n:=2) (by omega) (by omega)
  rw [hm,hs]
  simp only [Int.toNat_natCast,Int.cast_ofNat_Int] at e1 e2 ⊢
  generalize padB m 2 = A at *
  generalize padB s 2 = B at *
  have c1:strOp .add [58] A = some (.str (58 :: A)):=catS (by simp;omega) rfl
  have c2:strOp .add (58 :: A) [58] = some (.str (58 :: (A ++ [58]))):=catS (by simp;omega) rfl
  have c3:strOp .add (58 :: (A ++ [58])) B = some (.str (58 :: (A ++ 58 :: B))):=catS (by simp;omega) (by simp)
  apply Run.dy (by simp) keep52_1 (by simp)
  · simp only [whO,Wh.pay,hm,hs] at e1 e2 ⊢
    (conv=>lhs;simp (maxSteps:=2000000) -implicitDefEqProofs [-getElem?_pos,go_sem,eqV,plen,runD,out1,markOf,freeO,quietO,pushes,isAssign,calledV,touched,mentioned,opVals,touchCall,mentionCall,idsAt,Op.operands,ids,idsL,lendArgs,lendV,lend1,lendL,eqH_self,e1,e2,w1,w2,c1,c2,c3,reach_none])
  · kernel_rfl
  · rfl
theorem ct_code (hw:WOk w):∃ code,Tryz.f52.body = some code ∧
    Tells (Rets fun fr H=>getF fr 2 = .str (ckT w)) X (evT X) 52 0 code [(0,.agg w.pay)] []:=by
  refine ⟨_,rfl,?_⟩
  apply Tells.seq (fr':=[(1,.ptr 0 0 0 0)]) (H':=[some (whO w)])
  · unfold whO
    simp only [Wh.pay]
    (refine ⟨0,?_⟩;simp (maxSteps:=2000000) -implicitDefEqProofs [-getElem?_pos,go_sem,eqV,plen])
  apply Tells.seq (piece (ct_r1 w hw) _ rfl)
  obtain ⟨u,hu⟩:∃ m:Nat,w.us = (m:Int):=⟨w.us.toNat,by have:=hw.us;omega⟩
  have b3:=hw.us
  rw [hu] at b3
  have l3:=padB_len (x:=u) (n:=6) (by omega) (by omega)
  have e3:=rdig_ev (H:=[some (whO w)]) (x:=u) (n:=6) (by omega) (by omega) (by omega)
  have w3:IntKind.u64.wrap (u:Int) = (u:Int):=wu64 (by omega)
  have hk:ckT w = (58 :: (padB w.mi.toNat 2 ++ 58 :: padB w.s.toNat 2)) ++ usT u:=by unfold ckT;rw [hu];simp
  have l1:(58 :: (padB w.mi.toNat 2 ++ 58 :: padB w.s.toNat 2)).length≤50:=by
    have h1:=hw.mi;have h2:=hw.s
    have q1:=padB_len (x:=w.mi.toNat) (n:=2) (by omega) (by omega)
    have q2:=padB_len (x:=w.s.toNat) (n:=2) (by omega) (by omega)
    simp only [List.length_cons,List.length_append]
    omega
  rw [hk]
  generalize (58 :: (padB w.mi.toNat 2 ++ 58 :: padB w.s.toNat 2)) = K at *
  by_cases h0:u = 0
  · subst h0
    have hz:w.us = 0:=by omega
    refine Tells.of (o:=⟨.ret,[(2,.str (K ++ usT 0))],[some (whO w)]⟩) ⟨0,?_⟩ ⟨rfl,rfl⟩
    rw [show usT 0 = [] from rfl,List.append_nil]
    simp (maxSteps:=2000000) -implicitDefEqProofs [-getElem?_pos,go_sem,eqV,plen,whO,Wh.pay,hz]
  · have hz:((u:Int) != 0) = true:=by simp;omega
    refine Tells.of (o:=⟨.ret,[(2,.str (K ++ usT u))],[some (whO w)]⟩) ⟨0,?_⟩ ⟨rfl,rfl⟩
    rw [show usT u = 46 :: padB u 6 by unfold usT;rw [if_neg h0]]
    simp only [Int.cast_ofNat_Int] at e3
    generalize padB u 6 = A at *
    have c1:strOp .add K [46] = some (.str (K ++ [46])):=catS (by simp;omega) rfl
    have c2:strOp .add (K ++ [46]) A = some (.str (K ++ 46 :: A)):=catS (by simp;omega) (by simp)
    simp only [whO,Wh.pay,hu] at e3 ⊢
    simp (maxSteps:=2000000) -implicitDefEqProofs [-getElem?_pos,go_sem,eqV,plen,hz,h0,e3,w3,c1,c2]
end
theorem ct_ev {H:AM.Heap} {w:Wh} (hw:WOk w):evT X 52 [.agg w.pay] H = some (.str (ckT w),H):=by
  obtain ⟨code,hcode,o,⟨he,h4⟩,hr⟩:=ct_code w hw
  exact evT_eq (Ev1.toldP (l:=[.str (ckT w)]) (evT_below X) Tryz.func52 hcode (args_wh (args_nil 1)) rfl (by simp [gtag]) rfl rfl rfl ⟨o,⟨he,by show some [getF o.fr 2] = _;rw [h4]⟩,hr⟩)
section
variable (v:Va) (t:Ty)
theorem rt_r11 (k:AV) (hw:WOk v.w):∃ code,((Tryz.f32.body).bind (codeAt [1,1,0,1,0,1,1,1,1,1,0,0])) = some code∧Run X (evT X) 32 0 code [(2,.ptr 0 0 0 0),(3,.ptr 1 0 0 0),(13,k),(36,.bool true)] [some (vaO v),some (tyO t)] ⟨.normal,[(2,.ptr 0 0 0 0),(3,.ptr 1 0 0 0),(6,.str (dyT v.w))],[some (vaO v),some (tyO t)]⟩:=by
  refine ⟨_,rfl,?_⟩
  obtain ⟨y,hy⟩:∃ m:Nat,v.w.y = (m:Int):=⟨v.w.y.toNat,by have:=hw.y;omega⟩
  obtain ⟨mo,hmo⟩:∃ m:Nat,v.w.mo = (m:Int):=⟨v.w.mo.toNat,by have:=hw.mo;omega⟩
  obtain ⟨d,hd⟩:∃ m:Nat,v.w.d = (m:Int):=⟨v.w.d.toNat,by have:=hw.d;omega⟩
  have b1:=hw.y;have b2:=hw.mo;have b3:=hw.d
  rw [hy] at b1;rw [hmo] at b2;rw [hd] at b3
  have e1:=rdig_ev (H:=[some (vaO v),some (tyO t)]) (x:=y) (n:=4) (by omega) (by omega) (by omega)
  have e2:=rdig_ev (H:=[some (vaO v),some (tyO t)]) (x:=mo) (n:=2) (by omega) (by omega) (by omega)
  have e3:=rdig_ev (H:=[some (vaO v),some (tyO t)]) (x:=d) (n:=2) (by omega) (by omega) (by omega)
  have w1:IntKind.u64.wrap (y:Int) = (y:Int):=wu64 (by omega)
  have w2:IntKind.u64.wrap (mo:Int) = (mo:Int):=wu64 (by omega)
  have w3:IntKind.u64.wrap (d:Int) = (d:Int):=wu64 (by omega)
  have l1:=padB_len (x:=y) (n:=4) (by omega) (by omega)
  have l2:=padB_len (x:=mo) (n:=2) (by omega) (by omega)
  have l3:=padB_len (x:=d) (n:=2) (by omega) (by omega)
  unfold dyT
  rw [hy,hmo,hd]
  simp only [Int.toNat_natCast,Int.cast_ofNat_Int] at e1 e2 e3 ⊢
  generalize padB y 4 = A at *
  generalize padB mo 2 = B at *
  generalize padB d 2 = D at *
  have c1:strOp .add A [45] = some (.str (A ++ [45])):=catS (by simp;omega) rfl
  have c2:strOp .add (A ++ [45]) B = some (.str (A ++ 45 :: B)):=catS (by simp;omega) (by simp)
  have c3:strOp .add (A ++ 45 :: B) [45] = some (.str (A ++ 45 :: (B ++ [45]))):=catS (by simp;omega) (by simp)
  have c4:strOp .add (A ++ 45 :: (B ++ [45])) D = some (.str (A ++ 45 :: (B ++ 45 :: D))):=catS (by simp;omega) (by simp)
  apply Run.dy (by simp) keep32_11 (by simp)
  · simp only [vaO,tyO,Va.pay,Ty.pay,hy,hmo,hd] at e1 e2 e3 ⊢
    (conv=>lhs;simp (maxSteps:=2000000) -implicitDefEqProofs [-getElem?_pos,go_sem,eqV,plen,runD,out1,markOf,freeO,quietO,pushes,isAssign,calledV,touched,mentioned,opVals,touchCall,mentionCall,idsAt,Op.operands,ids,idsL,lendArgs,lendV,lend1,lendL,eqH_self,e1,e2,e3,w1,w2,w3,c1,c2,c3,c4,reach_none])
  · kernel_rfl
  · rfl
theorem rt_r13 (D:List UInt8) (tl:AM.Frame) (hD:D.length≤100) (hw:WOk v.w):∃ code,((Tryz.f32.body).bind (codeAt [1,1,0,1,0,1,1,1,1,1,0,1,0,1,0])) = some code∧Run X (evT X) 32 0 code ([(2,.ptr 0 0 0 0),(6,.str D)] ++ tl) [some (vaO v),some (tyO t)] ⟨.normal,[(6,.str (D ++ 32 :: (padB v.w.h.toNat 2 ++ ckT v.w)))],[some (vaO v),some (tyO t)]⟩:=by
  refine ⟨_,rfl,?_⟩
  obtain ⟨h,hh⟩:∃ m:Nat,v.w.h = (m:Int):=⟨v.w.h.toNat,by have:=hw.h;omega⟩
  have b1:=hw.h
  rw [hh] at b1
  have e1:=rdig_ev (H:=[some (vaO v),some (tyO t)]) (x:=h) (n:=2) (by omega) (by omega) (by omega)
  have e2:=ct_ev (H:=[some (vaO v),some (tyO t)]) hw
  have w1:IntKind.u64.wrap (h:Int) = (h:Int):=wu64 (by omega)
  have l1:=padB_len (x:=h) (n:=2) (by omega) (by omega)
  have l2:(ckT v.w).length≤100:=by
    unfold ckT
    have h1:=hw.mi;have h2:=hw.s;have h3:=hw.us
    have q1:=padB_len (x:=v.w.mi.toNat) (n:=2) (by omega) (by omega)
    have q2:=padB_len (x:=v.w.s.toNat) (n:=2) (by omega) (by omega)
    have q3:=usT_len (x:=v.w.us.toNat) (by omega)
    simp only [List.length_cons,List.length_append]
    omega
  rw [show v.w.h.toNat = h by omega]
  simp only [Int.cast_ofNat_Int] at e1
  generalize padB h 2 = A at *
  generalize ckT v.w = K at *
  have c1:strOp .add D [32] = some (.str (D ++ [32])):=catS (by simp;omega) rfl
  have c2:strOp .add (D ++ [32]) A = some (.str (D ++ 32 :: A)):=catS (by simp;omega) (by simp)
  have c3:strOp .add (D ++ 32 :: A) K = some (.str (D ++ 32 :: (A ++ K))):=catS (by simp;omega) (by simp)
  apply Run.dy (by simp) keep32_13 (by simp)
  · simp only [vaO,tyO,Va.pay,Ty.pay,Wh.pay,hh] at e1 e2 ⊢
    (conv=>lhs;simp (maxSteps:=2000000) -implicitDefEqProofs [-getElem?_pos,go_sem,eqV,plen,runD,out1,markOf,freeO,quietO,pushes,isAssign,calledV,touched,mentioned,opVals,touchCall,mentionCall,idsAt,Op.operands,ids,idsL,lendArgs,lendV,lend1,lendL,eqH_self,e1,e2,w1,c1,c2,c3,mkWh,reach_none])
  · kernel_rfl
  · rfl
theorem rt_r16 (k:AV) (hw:WOk v.w):∃ code,((Tryz.f32.body).bind (codeAt [1,1,0,1,0,1,1,1,1,1,1,1,0,0])) = some code∧Run X (evT X) 32 0 code [(2,.ptr 0 0 0 0),(13,k),(73,.bool true)] [some (vaO v),some (tyO t)] ⟨.normal,[(2,.ptr 0 0 0 0),(7,.str (padB (24 * v.w.d.toNat + v.w.h.toNat) 2 ++ ckT v.w))],[some (vaO v),some (tyO t)]⟩:=by
  refine ⟨_,rfl,?_⟩
  obtain ⟨h,hh⟩:∃ m:Nat,v.w.h = (m:Int):=⟨v.w.h.toNat,by have:=hw.h;omega⟩
  obtain ⟨d,hd⟩:∃ m:Nat,v.w.d = (m:Int):=⟨v.w.d.toNat,by have:=hw.d;omega⟩
  have b1:=hw.h;have b2:=hw.d
  rw [hh] at b1;rw [hd] at b2
  have e1:=rdig_ev (H:=[some (vaO v),some (tyO t)]) (x:=24 * d + h) (n:=2) (by omega) (by omega) (by omega)
  have e2:=ct_ev (H:=[some (vaO v),some (tyO t)]) hw
  have w1:IntKind.i64.wrap (24 * (d:Int)) = 24 * (d:Int):=wrap_i64 (by omega) (by omega)
  have w2:IntKind.i64.wrap (24 * (d:Int) + (h:Int)) = ((24 * d + h:Nat):Int):=by rw [wrap_i64 (by omega) (by omega)];omega
  have w3:IntKind.u64.wrap ((24 * d + h:Nat):Int) = ((24 * d + h:Nat):Int):=wu64 (by omega)
  have l1:=padB_len (x:=24 * d + h) (n:=2) (by omega) (by omega)
  have l2:(ckT v.w).length≤100:=by
    unfold ckT
    have h1:=hw.mi;have h2:=hw.s;have h3:=hw.us
    have q1:=padB_len (x:=v.w.mi.toNat) (n:=2) (by omega) (by omega)
    have q2:=padB_len (x:=v.w.s.toNat) (n:=2) (by omega) (by omega)
    have q3:=usT_len (x:=v.w.us.toNat) (by omega)
    simp only [List.length_cons,List.length_append]
    omega
  rw [show 24 * v.w.d.toNat + v.w.h.toNat = 24 * d + h by omega]
  simp only [Int.cast_ofNat_Int] at e1
  generalize hz:24 * d + h = z at *
  generalize padB z 2 = A at *
  generalize ckT v.w = K at *
  have c1:strOp .add A K = some (.str (A ++ K)):=catS (by omega) rfl
  apply Run.dy (by simp) keep32_16 (by simp)
  · simp only [vaO,tyO,Va.pay,Ty.pay,Wh.pay,hh,hd] at e1 e2 ⊢
    (conv=>lhs;simp (maxSteps:=2000000) -implicitDefEqProofs [-getElem?_pos,go_sem,eqV,plen,runD,out1,markOf,freeO,quietO,pushes,isAssign,calledV,touched,mentioned,opVals,touchCall,mentionCall,idsAt,Op.operands,ids,idsL,lendArgs,lendV,lend1,lendL,eqH_self,e1,e2,w1,w2,w3,c1,mkWh,reach_none])
  · kernel_rfl
  · rfl
end
end Go.Proofs.YtafdnpcamepbmaaGreatDoor
namespace Go.Proofs.YtafdnpcamepbmaaGreatDoor
open Go.AM
section
variable (v:Va) (t:Ty)
theorem rtext_code (ht:t.t < 256) (hb:v.b < 18446744073709551616) (hi:-9223372036854775808≤v.i∧v.i < 9223372036854775808):∃ code,Tryz.f32.body = some code ∧
    Tells (Rets fun fr H=>getF fr 4 = .str (vtX v t).1∧getF fr 5 = .int .i64 (vtX v t).2) X (evT X) 32 0 code [(0,.agg v.pay),(1,.agg t.pay)] []:=by
  refine ⟨_,rfl,?_⟩
  have hC:=fun H=>rcheck_ev (v:=v) (t:=t) ht H
  apply Tells.seq (fr':=[(2,.ptr 0 0 0 0),(3,.ptr 1 0 0 0)]) (H':=[some (vaO v),some (tyO t)])
  · unfold vaO tyO
    simp only [Va.pay,Ty.pay]
    (refine ⟨0,?_⟩;simp (maxSteps:=2000000) -implicitDefEqProofs [-getElem?_pos,go_sem,eqV,plen])
  apply Tells.assoc
  by_cases hc:chkV v t ≠ 0
  · rw [show vtX v t = ([],2) by unfold vtX;rw [if_pos hc]]
    have hc2:=chk_two hc
    rw [hc2] at hC
    refine Tells.of (o:=⟨.ret,[(4,.str []),(5,.int .i64 2)],[some (vaO v),some (tyO t)]⟩) ⟨0,?_⟩ ⟨rfl,rfl,rfl⟩
    simp only [Va.pay,Ty.pay] at hC
    simp (maxSteps:=2000000) -implicitDefEqProofs [-getElem?_pos,go_sem,eqV,plen,vaO,tyO,Va.pay,Ty.pay,mkVa,mkTy,hC]
  have hc0:chkV v t = 0:=by simpa using hc
  have htx:vtX v t = if v.k = 1 then (intB v.i,0) else if v.k = 2 then (decB v.b,0) else if v.k = 5∨v.k = 6 then (wtB v.w t.t,0) else if v.k = 7 then (v.t,0) else ([],2):=by unfold vtX;rw [if_neg hc]
  obtain ⟨_,ff,_,fk⟩:=ok_facts hc0
  have hkd:=fun h=>ok_kd hc0 h
  rw [hc0] at hC
  rw [htx]
  apply Tells.seq (fr':=[(2,.ptr 0 0 0 0),(3,.ptr 1 0 0 0),(11,.bool false)]) (H':=[some (vaO v),some (tyO t)])
  · simp only [Va.pay,Ty.pay] at hC
    (refine ⟨0,?_⟩;simp (maxSteps:=2000000) -implicitDefEqProofs [-getElem?_pos,go_sem,eqV,plen,vaO,tyO,Va.pay,Ty.pay,mkVa,mkTy,hC])
  apply Tells.seq (fr':=[(2,.ptr 0 0 0 0),(3,.ptr 1 0 0 0),(11,.bool false)]) (H':=[some (vaO v),some (tyO t)])
  · exact Run.cond (d:=false) rfl ⟨0,rfl⟩
  clear hC
  by_cases k1:v.k = 1
  · rw [if_pos k1]
    by_cases hn:v.i < 0
    · obtain ⟨u,hu⟩:∃ u:Nat,u = (-v.i).toNat:=⟨_,rfl⟩
      have hib:intB v.i = 45 :: decB u:=by unfold intB;rw [if_pos hn,hu]
      have hF:=fun H=>rdig_ev (H:=H) (x:=u) (n:=1) (by omega) (by omega) (by omega)
      simp only [padB_one,Int.cast_ofNat_Int] at hF
      have w1:IntKind.i64.wrap (v.i + 1) = v.i + 1:=wrap_i64 (by omega) (by omega)
      have w2:IntKind.i64.wrap (0 - (v.i + 1)) = -(v.i + 1):=by rw [wrap_i64 (by omega) (by omega)];omega
      have w2':IntKind.i64.wrap (-(v.i + 1)) = -(v.i + 1):=by rw [wrap_i64 (by omega) (by omega)]
      have w3:IntKind.u64.wrap (-(v.i + 1)) = -(v.i + 1):=by
        have:=wu64 (n:=(-(v.i + 1)).toNat) (by omega)
        rw [show (((-(v.i + 1)).toNat:Nat):Int) = -(v.i + 1) by omega] at this
        exact this
      have w4:IntKind.u64.wrap (-(v.i + 1) + 1) = (u:Int):=by
        rw [show -(v.i + 1) + 1 = (u:Int) by omega];exact wu64 (by omega)
      have hl:(decB u).length≤30:=by rw [← padB_one];have:=padB_len_big (x:=u) (by omega);omega
      have c1:strOp .add [45] (decB u) = some (.str (45 :: decB u)):=catS (by simp;omega) rfl
      rw [hib]
      refine Tells.of (o:=⟨.ret,[(4,.str (45 :: decB u)),(5,.int .i64 0)],[some (vaO v),some (tyO t)]⟩) ⟨0,?_⟩ ⟨rfl,rfl,rfl⟩
      generalize decB u = D at *
      generalize hz:-(v.i + 1) = z at *
      generalize hz1:v.i + 1 = z1 at *
      simp (maxSteps:=2000000) -implicitDefEqProofs [-getElem?_pos,go_sem,eqV,plen,vaO,tyO,Va.pay,Ty.pay,k1,hn,hz,hz1,w1,w2,w2',w3,w4,hF,c1,unV]
    · obtain ⟨u,hu⟩:∃ u:Nat,v.i = (u:Int):=⟨v.i.toNat,by omega⟩
      have hib:intB v.i = decB u:=by unfold intB;rw [if_neg hn,hu];rfl
      have hF:=fun H=>rdig_ev (H:=H) (x:=u) (n:=1) (by omega) (by omega) (by omega)
      simp only [padB_one,Int.cast_ofNat_Int] at hF
      have w1:IntKind.u64.wrap (u:Int) = (u:Int):=wu64 (by omega)
      rw [hib]
      refine Tells.of (o:=⟨.ret,[(4,.str (decB u)),(5,.int .i64 0)],[some (vaO v),some (tyO t)]⟩) ⟨0,?_⟩ ⟨rfl,rfl,rfl⟩
      generalize decB u = D at *
      have hnu:¬ (u:Int) < 0:=by omega
      simp (maxSteps:=2000000) -implicitDefEqProofs [-getElem?_pos,go_sem,eqV,plen,vaO,tyO,Va.pay,Ty.pay,k1,hu,hnu,w1,hF]
  rw [if_neg k1]
  by_cases k2:v.k = 2
  · rw [if_pos k2]
    have hF:=fun H=>rdig_ev (H:=H) (x:=v.b) (n:=1) hb (by omega) (by omega)
    simp only [padB_one,Int.cast_ofNat_Int] at hF
    refine Tells.of (o:=⟨.ret,[(4,.str (decB v.b)),(5,.int .i64 0)],[some (vaO v),some (tyO t)]⟩) ⟨0,?_⟩ ⟨rfl,rfl,rfl⟩
    simp (maxSteps:=2000000) -implicitDefEqProofs [-getElem?_pos,go_sem,eqV,plen,vaO,tyO,Va.pay,Ty.pay,k2,hF]
  rw [if_neg k2]
  by_cases k5:v.k = 5
  · rw [if_pos (.inl k5)]
    have hw:=fin_wok (ff (.inl k5))
    have h11:t.t ≠ 11:=kd_date (by rw [← hkd (by omega),k5])
    apply Tells.assoc
    apply Tells.seq (fr':=[(2,.ptr 0 0 0 0),(3,.ptr 1 0 0 0),(13,.int .i64 5)]) (H':=[some (vaO v),some (tyO t)])
    · (refine ⟨0,?_⟩;simp (maxSteps:=2000000) -implicitDefEqProofs [-getElem?_pos,go_sem,eqV,plen,vaO,tyO,Va.pay,Ty.pay,k5])
    refine Tells.seqOut (Tells.blk ?_ (fun o h=>by rw [h.1];simp)) (fun o h=>by rw [h.1];simp)
    apply Tells.seq (fr':=[(2,.ptr 0 0 0 0),(3,.ptr 1 0 0 0),(13,.int .i64 5),(14,.bool false)]) (H':=[some (vaO v),some (tyO t)])
    · generalize [some (vaO v),some (tyO t)] = HH at *
      (refine ⟨0,?_⟩;simp (maxSteps:=2000000) -implicitDefEqProofs [-getElem?_pos,go_sem,eqV,plen])
    refine Tells.condF rfl ?_
    apply Tells.seq (fr':=[(2,.ptr 0 0 0 0),(3,.ptr 1 0 0 0),(13,.int .i64 5),(31,.bool false)]) (H':=[some (vaO v),some (tyO t)])
    · generalize [some (vaO v),some (tyO t)] = HH at *
      (refine ⟨0,?_⟩;simp (maxSteps:=2000000) -implicitDefEqProofs [-getElem?_pos,go_sem,eqV,plen])
    refine Tells.condF rfl ?_
    apply Tells.seq (fr':=[(2,.ptr 0 0 0 0),(3,.ptr 1 0 0 0),(13,.int .i64 5),(36,.bool true)]) (H':=[some (vaO v),some (tyO t)])
    · generalize [some (vaO v),some (tyO t)] = HH at *
      (refine ⟨0,?_⟩;simp (maxSteps:=2000000) -implicitDefEqProofs [-getElem?_pos,go_sem,eqV,plen])
    refine Tells.condT rfl ?_
    apply Tells.seq (piece (rt_r11 v t (.int .i64 5) hw) _ rfl)
    apply Tells.assoc
    by_cases h10:t.t = 10
    · refine Tells.of (o:=⟨.ret,[(4,.str (wtB v.w t.t)),(5,.int .i64 0)],[some (vaO v),some (tyO t)]⟩) ⟨0,?_⟩ ⟨rfl,rfl,rfl⟩
      rw [h10,show wtB v.w 10 = dyT v.w from rfl]
      simp (maxSteps:=2000000) -implicitDefEqProofs [-getElem?_pos,go_sem,eqV,plen,vaO,tyO,Va.pay,Ty.pay,h10]
    · have t10:((t.t:Int) != 10) = true:=by simp;omega
      have l3:(dyT v.w).length≤100:=by
        unfold dyT
        have h1:=hw.y;have h2:=hw.mo;have h3:=hw.d
        have q1:=padB_len (x:=v.w.y.toNat) (n:=4) (by omega) (by omega)
        have q2:=padB_len (x:=v.w.mo.toNat) (n:=2) (by omega) (by omega)
        have q3:=padB_len (x:=v.w.d.toNat) (n:=2) (by omega) (by omega)
        simp only [List.length_cons,List.length_append]
        omega
      have hwt:wtB v.w t.t = dyT v.w ++ 32 :: (padB v.w.h.toNat 2 ++ ckT v.w):=by unfold wtB;rw [if_neg h11,if_neg h10]
      rw [hwt]
      apply Tells.seq (fr':=[(2,.ptr 0 0 0 0),(6,.str (dyT v.w)),(59,.bool true)]) (H':=[some (vaO v),some (tyO t)])
      · generalize dyT v.w = D at *
        (refine ⟨0,?_⟩;simp (maxSteps:=2000000) -implicitDefEqProofs [-getElem?_pos,go_sem,eqV,plen,vaO,tyO,Va.pay,Ty.pay,t10,h10])
      apply Tells.seq (fr':=[(6,.str (dyT v.w ++ 32 :: (padB v.w.h.toNat 2 ++ ckT v.w)))]) (H':=[some (vaO v),some (tyO t)])
      · exact Run.cond (d:=true) rfl (piece (rt_r13 v t (dyT v.w) [(59,.bool true)] l3 hw) _ rfl)
      refine Tells.of (o:=⟨.ret,[(4,.str (dyT v.w ++ 32 :: (padB v.w.h.toNat 2 ++ ckT v.w))),(5,.int .i64 0)],[some (vaO v),some (tyO t)]⟩) ⟨0,?_⟩ ⟨rfl,rfl,rfl⟩
      generalize dyT v.w ++ 32 :: (padB v.w.h.toNat 2 ++ ckT v.w) = D at *
      simp (maxSteps:=2000000) -implicitDefEqProofs [-getElem?_pos,go_sem,eqV,plen]
  by_cases k6:v.k = 6
  · rw [if_pos (.inr k6)]
    have hw:=fin_wok (ff (.inr k6))
    have h11:t.t = 11:=kd_time (by rw [← hkd (by omega),k6])
    apply Tells.assoc
    apply Tells.seq (fr':=[(2,.ptr 0 0 0 0),(3,.ptr 1 0 0 0),(13,.int .i64 6)]) (H':=[some (vaO v),some (tyO t)])
    · (refine ⟨0,?_⟩;simp (maxSteps:=2000000) -implicitDefEqProofs [-getElem?_pos,go_sem,eqV,plen,vaO,tyO,Va.pay,Ty.pay,k6])
    refine Tells.seqOut (Tells.blk ?_ (fun o h=>by rw [h.1];simp)) (fun o h=>by rw [h.1];simp)
    apply Tells.seq (fr':=[(2,.ptr 0 0 0 0),(3,.ptr 1 0 0 0),(13,.int .i64 6),(14,.bool false)]) (H':=[some (vaO v),some (tyO t)])
    · generalize [some (vaO v),some (tyO t)] = HH at *
      (refine ⟨0,?_⟩;simp (maxSteps:=2000000) -implicitDefEqProofs [-getElem?_pos,go_sem,eqV,plen])
    refine Tells.condF rfl ?_
    apply Tells.seq (fr':=[(2,.ptr 0 0 0 0),(3,.ptr 1 0 0 0),(13,.int .i64 6),(31,.bool false)]) (H':=[some (vaO v),some (tyO t)])
    · generalize [some (vaO v),some (tyO t)] = HH at *
      (refine ⟨0,?_⟩;simp (maxSteps:=2000000) -implicitDefEqProofs [-getElem?_pos,go_sem,eqV,plen])
    refine Tells.condF rfl ?_
    apply Tells.seq (fr':=[(2,.ptr 0 0 0 0),(3,.ptr 1 0 0 0),(13,.int .i64 6),(36,.bool false)]) (H':=[some (vaO v),some (tyO t)])
    · generalize [some (vaO v),some (tyO t)] = HH at *
      (refine ⟨0,?_⟩;simp (maxSteps:=2000000) -implicitDefEqProofs [-getElem?_pos,go_sem,eqV,plen])
    refine Tells.condF rfl ?_
    apply Tells.seq (fr':=[(2,.ptr 0 0 0 0),(13,.int .i64 6),(73,.bool true)]) (H':=[some (vaO v),some (tyO t)])
    · generalize [some (vaO v),some (tyO t)] = HH at *
      (refine ⟨0,?_⟩;simp (maxSteps:=2000000) -implicitDefEqProofs [-getElem?_pos,go_sem,eqV,plen])
    refine Tells.condT rfl ?_
    apply Tells.seq (piece (rt_r16 v t (.int .i64 6) hw) _ rfl)
    have hwt:wtB v.w t.t = (if v.w.neg then [45] else []) ++ (padB (24 * v.w.d.toNat + v.w.h.toNat) 2 ++ ckT v.w):=by unfold wtB;rw [if_pos h11]
    rw [hwt]
    have l2:(padB (24 * v.w.d.toNat + v.w.h.toNat) 2 ++ ckT v.w).length≤200:=by
      unfold ckT
      have h1:=hw.mi;have h2:=hw.s;have h3:=hw.us;have h4:=hw.d;have h5:=hw.h
      have q1:=padB_len (x:=v.w.mi.toNat) (n:=2) (by omega) (by omega)
      have q2:=padB_len (x:=v.w.s.toNat) (n:=2) (by omega) (by omega)
      have q3:=usT_len (x:=v.w.us.toNat) (by omega)
      have q4:=padB_len (x:=24 * v.w.d.toNat + v.w.h.toNat) (n:=2) (by omega) (by omega)
      simp only [List.length_cons,List.length_append]
      omega
    generalize padB (24 * v.w.d.toNat + v.w.h.toNat) 2 ++ ckT v.w = K at *
    cases hn:v.w.neg
    · refine Tells.of (o:=⟨.ret,[(4,.str K),(5,.int .i64 0)],[some (vaO v),some (tyO t)]⟩) ⟨0,?_⟩ ⟨rfl,by simp [getF],rfl⟩
      simp (maxSteps:=2000000) -implicitDefEqProofs [-getElem?_pos,go_sem,eqV,plen,vaO,tyO,Va.pay,Ty.pay,hn]
    · have c1:strOp .add [45] K = some (.str (45 :: K)):=catS (by simp;omega) rfl
      refine Tells.of (o:=⟨.ret,[(4,.str (45 :: K)),(5,.int .i64 0)],[some (vaO v),some (tyO t)]⟩) ⟨0,?_⟩ ⟨rfl,by simp [getF],rfl⟩
      simp (maxSteps:=2000000) -implicitDefEqProofs [-getElem?_pos,go_sem,eqV,plen,vaO,tyO,Va.pay,Ty.pay,hn,c1]
  rw [if_neg (by omega)]
  have b1:(v.k == 1) = false:=by simpa using k1
  have b2:(v.k == 2) = false:=by simpa using k2
  have b5:(v.k == 5) = false:=by simpa using k5
  have b6:(v.k == 6) = false:=by simpa using k6
  by_cases k7:v.k = 7
  · rw [if_pos k7]
    refine Tells.of (o:=⟨.ret,[(4,.str v.t),(5,.int .i64 0)],[some (vaO v),some (tyO t)]⟩) ⟨0,?_⟩ ⟨rfl,rfl,rfl⟩
    simp (maxSteps:=2000000) -implicitDefEqProofs [-getElem?_pos,go_sem,eqV,plen,vaO,tyO,Va.pay,Ty.pay,k7]
  rw [if_neg k7]
  have b7:(v.k == 7) = false:=by simpa using k7
  refine Tells.of (o:=⟨.ret,[(4,.str []),(5,.int .i64 2)],[some (vaO v),some (tyO t)]⟩) ⟨0,?_⟩ ⟨rfl,rfl,rfl⟩
  simp (maxSteps:=2000000) -implicitDefEqProofs [-getElem?_pos,go_sem,eqV,plen,vaO,tyO,Va.pay,Ty.pay,k1,k2,k5,k6,k7,b1,b2,b5,b6,b7]
end
theorem rtext_ev {H:AM.Heap} {v:Va} {t:Ty} (ht:t.t < 256) (hb:v.b < 18446744073709551616) (hi:-9223372036854775808≤v.i∧v.i < 9223372036854775808) :
    evT X 32 [.agg v.pay,.agg t.pay] H = some (.tup [.str (vtX v t).1,.int .i64 (vtX v t).2],H):=by
  obtain ⟨code,hcode,o,⟨he,h4,h5⟩,hr⟩:=rtext_code v t ht hb hi
  exact evT_eq (Ev1.toldP (l:=[.str (vtX v t).1,.int .i64 (vtX v t).2]) (evT_below X) Tryz.func32 hcode (args_va (i:=0) (args_ty (i:=1) (args_nil 2))) (by simp [Va.pay,Ty.pay,idsL,ids]) (by simp [gtag]) rfl rfl rfl ⟨o,⟨he,by show some [getF o.fr 4,getF o.fr 5] = _;rw [h4,h5]⟩,hr⟩)
end Go.Proofs.YtafdnpcamepbmaaGreatDoor
namespace Go.Proofs.YtafdnpcamepbmaaGreatDoor
open Go.AM
structure DnHp (l a:List Va) (H:AM.Heap):Prop where
  h1:∃ ob,H[1]? = some (some ob)∧Rw (.pr 12 (l.map Va.pay)) 0 ob
  h2:∃ ob,H[2]? = some (some ob)∧Rw (.pr 12 (a.map Va.pay)) a.length ob
theorem DnHp.put {l a a':List Va} {H:AM.Heap} {ob':AM.Obj} (h:DnHp l a H) (hw:Rw (.pr 12 (a'.map Va.pay)) a'.length ob'):DnHp l a' (upd H 2 (some ob')):=by
  obtain ⟨⟨ob,h1,w1⟩,⟨ob2,h2,w2⟩⟩:=h
  exact ⟨⟨ob,at_ne h1 (by omega),w1⟩,⟨ob',at_set h2,hw⟩⟩
section
variable (e:Nat) (ts:List Ty) (l:List Va)
def dnFr (i m:Nat) (tl:AM.Frame):AM.Frame:=[(1,tyA e ts),(6,.sl 1 0 l.length 0),(8,.sl 2 0 m m),(9,.int .i64 (i:Nat))] ++ tl
theorem dn8 (i m:Nat) (t:Ty) (H:AM.Heap) (ht:ts[i]? = some t) :
    ∃ code,((Tryz.f12.body).bind (codeAt [1,1,1,1,0,1,0,0,1,0,0,0,0])) = some code∧Run X (evT X) 12 0 code (dnFr e ts l i m [(24,.bool true)]) H ⟨.normal,dnFr e ts l i m [(40,.bool (bad45 t))],H⟩:=by
  refine ⟨_,rfl,?_⟩
  have hTl:(ts.map Ty.pay).length = ts.length:=List.length_map _
  have hrow:(ts.map Ty.pay)[i]? = some t.pay:=by rw [List.getElem?_map,ht];rfl
  have hlt:=at_lt ht
  have hiI:(i:Int) < (ts.length:Int):=by omega
  unfold dnFr tyA bad45
  generalize ts.map Ty.pay = T at *
  generalize l.length = n at *
  simp only [Ty.pay] at hrow
  by_cases h4:t.t = 4
  · (refine ⟨0,?_⟩;simp (maxSteps:=2000000) -implicitDefEqProofs [-getElem?_pos,go_sem,eqV,plen,hiI,hlt,hTl,hrow,h4])
  have b4:((t.t:Int) == 4) = false:=by simp;omega
  by_cases h5:t.t = 5
  · (refine ⟨0,?_⟩;simp (maxSteps:=2000000) -implicitDefEqProofs [-getElem?_pos,go_sem,eqV,plen,hiI,hlt,hTl,hrow,h4,h5,b4])
  have b5:((t.t:Int) == 5) = false:=by simp;omega
  (refine ⟨0,?_⟩;simp (maxSteps:=2000000) -implicitDefEqProofs [-getElem?_pos,go_sem,eqV,plen,hiI,hlt,hTl,hrow,h4,h5,b4,b5])
theorem dn10 (i m:Nat) (v:Va) (a:List Va) (H:AM.Heap) (hv:l[i]? = some v) (hH:DnHp l a H) :
    ∃ code,((Tryz.f12.body).bind (codeAt [1,1,1,1,0,1,0,0,1,0,0,1,0,0])) = some code∧Run X (evT X) 12 0 code (dnFr e ts l i m [(40,.bool false)]) H ⟨.normal,dnFr e ts l i m [(46,.bool (decide (v.k = 0)))],H⟩:=by
  refine ⟨_,rfl,?_⟩
  obtain ⟨⟨⟨p,g,cap,z,row,ids,tg⟩,h1,q1,q2,q3,q4,q5⟩,_⟩:=hH
  simp only at q1 q2 q3 q4 q5
  subst q1 q2 q3 q4 q5
  have hlt:=at_lt hv
  have hiI:(i:Int) < (l.length:Int):=by omega
  have hrow:(l.map Va.pay)[i]? = some v.pay:=by rw [List.getElem?_map,hv];rfl
  unfold dnFr tyA
  generalize ts.map Ty.pay = T at *
  generalize l.map Va.pay = L at *
  generalize l.length = n at *
  simp only [Va.pay] at hrow
  by_cases hk:v.k = 0
  · (refine ⟨0,?_⟩;simp (maxSteps:=2000000) -implicitDefEqProofs [-getElem?_pos,go_sem,eqV,plen,h1,hiI,hlt,hrow,hk,retagL,retag,retagP,flatCells,splice,scalars,scalar])
  have hkb:(v.k == 0) = false:=by simpa using hk
  (refine ⟨0,?_⟩;simp (maxSteps:=2000000) -implicitDefEqProofs [-getElem?_pos,go_sem,eqV,plen,h1,hiI,hlt,hrow,hk,hkb,retagL,retag,retagP,flatCells,splice,scalars,scalar])
theorem dn11 (i:Nat) (v:Va) (a:List Va) (H:AM.Heap) (ha:a.length≤9000000) (hv:l[i]? = some v) (hH:DnHp l a H) :
    ∃ H',DnHp l (a ++ [v]) H'∧∃ code,((Tryz.f12.body).bind (codeAt [1,1,1,1,0,1,0,0,1,0,0,1,0,1,0,0])) = some code∧Run X (evT X) 12 0 code (dnFr e ts l i a.length [(46,.bool true)]) H ⟨.normal,dnFr e ts l i (a.length + 1) [],H'⟩:=by
  obtain ⟨ob,h2,hw⟩:=hH.h2
  obtain ⟨ob',hw',hA⟩:=app_va v rfl ha h2 hw
  refine ⟨upd H 2 (some ob'),hH.put (by simpa using hw'),_,rfl,?_⟩
  have hbs:=fun H=>bsVa H v
  obtain ⟨⟨⟨p,g,cap,z,row,ids,tg⟩,h1,q1,q2,q3,q4,q5⟩,_⟩:=hH
  simp only at q1 q2 q3 q4 q5
  subst q1 q2 q3 q4 q5
  have hlt:=at_lt hv
  have hiI:(i:Int) < (l.length:Int):=by omega
  have hrow:(l.map Va.pay)[i]? = some v.pay:=by rw [List.getElem?_map,hv];rfl
  simp only [Va.pay] at hA hbs hrow
  unfold dnFr tyA
  generalize ts.map Ty.pay = T at *
  generalize upd H 2 (some ob') = H2 at *
  generalize a.length = m at *
  generalize l.map Va.pay = L at *
  generalize l.length = n at *
  (refine ⟨0,?_⟩;simp (maxSteps:=2000000) -implicitDefEqProofs [-getElem?_pos,go_sem,eqV,plen,h1,hiI,hlt,hrow,hbs,hA,mkVa,assignV,retagL,retag,retagP,flatCells,splice,scalars,scalar])
theorem dn12 (i m:Nat) (v:Va) (t:Ty) (a:List Va) (H:AM.Heap) (hv:l[i]? = some v) (ht:ts[i]? = some t) (hok:v.okR) (h256:t.t < 256) (hH:DnHp l a H) :
    ∃ code,((Tryz.f12.body).bind (codeAt [1,1,1,1,0,1,0,0,1,0,0,1,1,0])) = some code∧Run X (evT X) 12 0 code (dnFr e ts l i m [(46,.bool false)]) H ⟨.normal,dnFr e ts l i m [(10,.str (vtX v t).1)],H⟩:=by
  refine ⟨_,rfl,?_⟩
  have hT:=rtext_ev (H:=H) (v:=v) (t:=t) h256 hok.1 hok.2
  obtain ⟨⟨⟨p,g,cap,z,row,ids,tg⟩,h1,q1,q2,q3,q4,q5⟩,_⟩:=hH
  simp only at q1 q2 q3 q4 q5
  subst q1 q2 q3 q4 q5
  have hlt:=at_lt hv
  have hiI:(i:Int) < (l.length:Int):=by omega
  have hrow:(l.map Va.pay)[i]? = some v.pay:=by rw [List.getElem?_map,hv];rfl
  have hTl:(ts.map Ty.pay).length = ts.length:=List.length_map _
  have hrow2:(ts.map Ty.pay)[i]? = some t.pay:=by rw [List.getElem?_map,ht];rfl
  have hlt2:=at_lt ht
  have hiI2:(i:Int) < (ts.length:Int):=by omega
  generalize vtX v t = x at *
  unfold dnFr tyA
  generalize ts.map Ty.pay = T at *
  generalize l.map Va.pay = L at *
  generalize l.length = n at *
  simp only [Va.pay,Ty.pay] at hrow hrow2 hT
  (refine ⟨0,?_⟩;simp (maxSteps:=2000000) -implicitDefEqProofs [-getElem?_pos,go_sem,eqV,plen,h1,hiI,hlt,hTl,hiI2,hlt2,hrow,hrow2,hT,mkVa,mkTy,retagL,retag,retagP,flatCells,splice,scalars,scalar])
theorem dn13 (i:Nat) (x:List UInt8) (a:List Va) (H:AM.Heap) (ha:a.length≤9000000) (hH:DnHp l a H) :
    ∃ H',DnHp l (a ++ [({ k:=7,t:=x }:Va)]) H'∧∃ code,((Tryz.f12.body).bind (codeAt [1,1,1,1,0,1,0,0,1,0,0,1,1,1])) = some code∧Run X (evT X) 12 0 code (dnFr e ts l i a.length [(10,.str x)]) H ⟨.normal,dnFr e ts l i (a.length + 1) [],H'⟩:=by
  obtain ⟨ob,h2,hw⟩:=hH.h2
  obtain ⟨ob',hw',hA⟩:=app_va ({ k:=7,t:=x }:Va) rfl ha h2 hw
  refine ⟨upd H 2 (some ob'),hH.put (by simpa using hw'),_,rfl,?_⟩
  have hbs:=fun H=>bsVa H ({ k:=7,t:=x }:Va)
  have hbv:=bvVt 7 x
  simp only [Va.pay,Int.cast_ofNat_Int] at hA hbs hbv
  unfold dnFr tyA
  generalize ts.map Ty.pay = T at *
  generalize upd H 2 (some ob') = H2 at *
  generalize a.length = m at *
  generalize l.length = n at *
  (refine ⟨0,?_⟩;simp (maxSteps:=2000000) -implicitDefEqProofs [-getElem?_pos,go_sem,eqV,plen,hbv,hbs,hA,assignV])
theorem dn_round (v:Va) (t:Ty) (a:List Va) (H:AM.Heap) (ha:a.length≤4096) (hv:l[a.length]? = some v) (ht:ts[a.length]? = some t) (hok:v.okR) (h256:t.t < 256) (hH:DnHp l a H) :
    ∃ code,((Tryz.f12.body).bind (codeAt [1,1,1,1,0,1,0,0,1,0])) = some code ∧
      Tells (Or2 (fun fr H'=>bad45 t = false∧fr = dnFr e ts l a.length (a.length + 1) []∧DnHp l (a ++ [trnV v t]) H') (fun out=>out.ex = .ret∧bad45 t = true∧tnQ ([],2) out.fr out.H))
       X (evT X) 12 0 code (dnFr e ts l a.length a.length [(24,.bool true)]) H:=by
  refine ⟨_,rfl,?_⟩
  have h8:=dn8 e ts l a.length a.length t H ht
  cases hb:bad45 t with
  | true =>
    rw [hb] at h8
    refine Tells.of (o:=⟨.ret,[(4,.sl H.length 0 0 0),(5,.int .i64 2)],H ++ [some nilB]⟩) ?_ (.inr ⟨by simp,rfl,rfl,H.length,0,nilB,rfl,rfl,by simp,nilB_rw⟩)
    apply Run.block (hne:=by simp)
    apply Run.seq_out (hne:=by simp)
    apply Run.seq (piece (P:=fun cd=>Run X (evT X) _ 0 cd _ _ _) h8 _ rfl)
    refine condT (by simp [evalO,getF,dnFr]) ?_
    refine ⟨0,?_⟩
    unfold dnFr tyA
    generalize ts.map Ty.pay = T at *
    generalize l.length = n at *
    generalize a.length = m at *
    simp (maxSteps:=2000000) -implicitDefEqProofs [-getElem?_pos,go_sem,eqV,plen,assignV,emB]
  | false =>
  rw [hb] at h8
  have h10:=dn10 e ts l a.length a.length v a H hv hH
  by_cases hk:v.k = 0
  · rw [decide_eq_true hk] at h10
    obtain ⟨H3,hH3,h11⟩:=dn11 e ts l a.length v a H (by omega) hv hH
    refine Tells.of (o:=⟨.normal,dnFr e ts l a.length (a.length + 1) [],H3⟩) ?_ (.inl ⟨rfl,rfl,rfl,by rw [show trnV v t = v by unfold trnV;rw [if_pos hk]];exact hH3⟩)
    apply Run.block_exit (id:=1)
    apply Run.seq (fr':=dnFr e ts l a.length a.length [(40,.bool false)]) (H':=H)
    · apply Run.seq (piece (P:=fun cd=>Run X (evT X) _ 0 cd _ _ _) h8 _ rfl)
      exact condF (by simp [evalO,getF,dnFr]) ⟨0,rfl⟩
    apply Run.seq_out (hne:=by simp)
    apply Run.seq (piece (P:=fun cd=>Run X (evT X) _ 0 cd _ _ _) h10 _ rfl)
    refine condT (by simp [evalO,getF,dnFr]) ?_
    apply Run.seq (piece (P:=fun cd=>Run X (evT X) _ 0 cd _ _ _) h11 _ rfl)
    exact ⟨0,rfl⟩
  · rw [decide_eq_false hk] at h10
    have h12:=dn12 e ts l a.length a.length v t a H hv ht hok h256 hH
    obtain ⟨H3,hH3,h13⟩:=dn13 e ts l a.length (vtX v t).1 a H (by omega) hH
    refine Tells.of (o:=⟨.normal,dnFr e ts l a.length (a.length + 1) [],H3⟩) ?_ (.inl ⟨rfl,rfl,rfl,by rw [show trnV v t = { k:=7,t:=(vtX v t).1 } by unfold trnV;rw [if_neg hk]];exact hH3⟩)
    apply Run.block (hne:=by simp)
    apply Run.seq (fr':=dnFr e ts l a.length a.length [(40,.bool false)]) (H':=H)
    · apply Run.seq (piece (P:=fun cd=>Run X (evT X) _ 0 cd _ _ _) h8 _ rfl)
      exact condF (by simp [evalO,getF,dnFr]) ⟨0,rfl⟩
    apply Run.seq (fr':=dnFr e ts l a.length a.length [(46,.bool false)]) (H':=H)
    · apply Run.seq (piece (P:=fun cd=>Run X (evT X) _ 0 cd _ _ _) h10 _ rfl)
      exact condF (by simp [evalO,getF,dnFr]) ⟨0,rfl⟩
    apply Run.seq (piece (P:=fun cd=>Run X (evT X) _ 0 cd _ _ _) h12 _ rfl)
    exact piece (P:=fun cd=>Run X (evT X) _ 0 cd _ _ _) h13 _ rfl
end
end Go.Proofs.YtafdnpcamepbmaaGreatDoor
namespace Go.Proofs.YtafdnpcamepbmaaGreatDoor
open Go.AM
section
variable (c e:Nat) (ts:List Ty) (l:List Va)
theorem dn_loop (H:AM.Heap) (obl:AM.Obj) (hol:H[1]? = some (some obl)) (hwl:Rw (.pr 12 (l.map Va.pay)) 0 obl) (hl:l.length = ts.length) (hn:ts.length≤4096) (hok:∀ v ∈ l,v.okR) (h256:∀ t ∈ ts,t.t < 256) (hH:DnHp l [] H) :
    ∃ code,((Tryz.f12.body).bind (codeAt [1,1,1,1,0,1])) = some code ∧
      Tells (Or2 (fun fr H'=>ts.any bad45 = false∧fr = dnFr e ts l l.length l.length [(24,.bool false)]∧DnHp l (List.zipWith trnV l ts) H') (fun out=>out.ex = .ret∧ts.any bad45 = true∧tnQ ([],2) out.fr out.H))
       X (evT X) 12 0 code (dnFr e ts l 0 0 []) H:=by
  refine ⟨_,rfl,?_⟩
  apply Tells.blockOr
  refine Tells.loopP (fun k fr H=>∃ a:List Va,k = l.length - a.length∧a.length≤l.length∧fr = dnFr e ts l a.length a.length []∧(∀ (j:Nat) t,j < a.length→ts[j]? = some t→bad45 t = false)∧a = (List.zipWith trnV l ts).take a.length∧DnHp l a H) ?_ (k:=l.length) ⟨[],by simp,by simp,rfl,by intro j t h;simp at h,by simp,hH⟩
  rintro k fr H ⟨a,rfl,hi,rfl,hall,hz,hH⟩
  have hlive:∃ obx:AM.Obj,H[1]? = some (some obx)∧obx.g = 0:=by
    obtain ⟨⟨ob,q1,q2⟩,_⟩:=hH
    exact ⟨ob,q1,q2.g⟩
  obtain ⟨obx,g1,g2⟩:=hlive
  by_cases hin:a.length = l.length
  · have hza:List.zipWith trnV l ts = a:=by
      rw [hz,hin,List.take_of_length_le (by rw [List.length_zipWith];omega)]
    rw [hza]
    refine Tells.of (o:=⟨.exit 0,dnFr e ts l l.length l.length [(24,.bool false)],H⟩) ⟨0,?_⟩ (.inr ⟨by simp,.inl ⟨rfl,?_,rfl,hH⟩⟩)
    · rw [hin]
      unfold dnFr tyA
      generalize ts.map Ty.pay = T at *
      generalize l.length = n at *
      simp (maxSteps:=2000000) -implicitDefEqProofs [-getElem?_pos,go_sem,eqV,plen,g1,g2]
    · rw [List.any_eq_false]
      intro t ht
      obtain ⟨j,hj⟩:=List.mem_iff_getElem?.1 ht
      rw [hall j t (by have:=at_lt hj;omega) hj];simp
  have hiI:(a.length:Int) < (l.length:Int):=by omega
  obtain ⟨t,ht⟩:∃ t,ts[a.length]? = some t:=⟨_,List.getElem?_eq_getElem (show a.length < ts.length by omega)⟩
  obtain ⟨v,hv⟩:∃ v,l[a.length]? = some v:=⟨_,List.getElem?_eq_getElem (show a.length < l.length by omega)⟩
  apply Tells.seq (fr':=dnFr e ts l a.length a.length [(24,.bool true)]) (H':=H)
  · apply Run.seq (fr':=dnFr e ts l a.length a.length [(24,.bool true)]) (H':=H)
    · unfold dnFr tyA
      generalize ts.map Ty.pay = T at *
      generalize a.length = m at *
      generalize l.length = n at *
      (refine ⟨0,?_⟩;simp (maxSteps:=2000000) -implicitDefEqProofs [-getElem?_pos,go_sem,eqV,plen,hiI,g1,g2])
    · exact condT (by simp [evalO,getF,dnFr]) ⟨0,rfl⟩
  apply Tells.or (P:=fun fr H'=>bad45 t = false∧fr = dnFr e ts l a.length (a.length + 1) []∧DnHp l (a ++ [trnV v t]) H')
  · refine (piece (dn_round e ts l v t a H (by omega) hv ht (hok v (List.mem_of_getElem? hv)) (h256 t (List.mem_of_getElem? ht)) hH) _ rfl).mono ?_
    rintro o (h | ⟨h1,h2,h3,h4⟩)
    · exact .inl h
    · exact .inr ⟨h1,.inr ⟨h1,.inr ⟨h2,h2,List.any_eq_true.2 ⟨t,List.mem_of_getElem? ht,h3⟩,h4⟩⟩⟩
  rintro fr H' ⟨hb,rfl,h3⟩
  have w1:IntKind.i64.wrap ((a.length:Int) + 1) = ((a.length + 1:Nat):Int):=by rw [wrap_i64 (by omega) (by omega)];omega
  have hal:(a ++ [trnV v t]).length = a.length + 1:=by simp
  refine Tells.of (o:=⟨.normal,dnFr e ts l (a.length + 1) (a.length + 1) [],H'⟩) ⟨0,?_⟩ (.inl ⟨rfl,l.length - (a.length + 1),by omega,a ++ [trnV v t],by rw [hal],by rw [hal];omega,by rw [hal],?_,?_,h3⟩)
  · unfold dnFr tyA
    generalize ts.map Ty.pay = T at *
    generalize a.length = m at *
    generalize l.length = n at *
    simp (maxSteps:=2000000) -implicitDefEqProofs [-getElem?_pos,go_sem,eqV,plen,w1]
  · intro j t' hj ht'
    rw [hal] at hj
    by_cases hji:j = a.length
    · subst hji;rw [ht] at ht';cases ht';exact hb
    · exact hall j t' (by omega) ht'
  · rw [hal,List.take_add_one,List.getElem?_zipWith,hv,ht,← hz];rfl
theorem dtrn_code (b:List UInt8) (hc:c = 0→b = []) (he:e = 0→ts = []) (hb:b.length≤90000000) (h256:∀ t ∈ ts,t.t < 256) (hok:∀ v ∈ (rdBin b ts).1,v.okR) (hn:ts.length≤4096) (hT:(txR (List.zipWith trnV (rdBin b ts).1 ts)).length≤1000000) :
    ∃ code,Tryz.f12.body = some code ∧
    Tells (Rets (tnQ (trdB b ts))) X (evT X) 12 0 code [(0,.ro c (.pb b) 1),(1,tyA e ts)] []:=by
  refine ⟨_,rfl,?_⟩
  apply Tells.seq (fr':=[(0,.ro c (.pb b) 1),(1,tyA e ts)]) (H':=[some nilB])
  · unfold tyA
    generalize ts.map Ty.pay = T at *
    (refine ⟨0,?_⟩;simp (maxSteps:=2000000) -implicitDefEqProofs [-getElem?_pos,go_sem,eqV,plen,assignV,emB])
  have hA:RoT [some nilB] (tyA e ts) ts:=RoRow.ro fun h=>by rw [he h];rfl
  obtain ⟨ob,hw,hB⟩:=drb_ev (H:=[some nilB]) (a:=.ro c (.pb b) 1) (A:=tyA e ts) (b:=b) (ts:=ts) (Byt.ro (.inl rfl) hc) hA hb h256
  rw [drBin_eq] at hw hB
  have hlen:=rdBin_len (b:=b) (ts:=ts)
  have hX:trdB b ts = if (rdBin b ts).2 ≠ 0 then ([],(rdBin b ts).2) else if ts.any bad45 then ([],2) else txApp [] (List.zipWith trnV (rdBin b ts).1 ts):=rfl
  obtain ⟨l,er,hr⟩:∃ l er,rdBin b ts = (l,er):=⟨_,_,rfl⟩
  rw [hr] at hX hB hw hok hT hlen
  rw [hX]
  clear hX
  simp only at hok hT hw hlen ⊢
  simp only [List.length_cons,List.length_nil,List.cons_append,List.nil_append] at hB
  apply Tells.seq (fr':=[(1,tyA e ts),(6,.sl 1 0 l.length 0),(7,.int .i64 er)]) (H':=[some nilB,some ob])
  · generalize tyA e ts = A at *
    (refine ⟨0,?_⟩;simp (maxSteps:=2000000) -implicitDefEqProofs [-getElem?_pos,go_sem,eqV,plen,hB,assignV])
  by_cases he0:er ≠ 0
  · rw [if_pos he0]
    have heb:(er != 0) = true:=by simpa using he0
    refine Tells.of (o:=⟨.ret,[(4,.sl 2 0 0 0),(5,.int .i64 er)],[some nilB,some ob,some nilB]⟩) ?_ ⟨rfl,2,0,nilB,rfl,rfl,rfl,nilB_rw⟩
    apply Run.seq_out (hne:=by simp)
    generalize tyA e ts = A at *
    refine ⟨0,?_⟩
    simp (maxSteps:=2000000) -implicitDefEqProofs [-getElem?_pos,go_sem,eqV,plen,heb,assignV,emB]
  rw [if_neg he0]
  have he1:er = 0:=by simpa using he0
  subst he1
  have hl:l.length = ts.length:=hlen rfl
  apply Tells.seq (fr':=[(1,tyA e ts),(6,.sl 1 0 l.length 0),(7,.int .i64 0),(19,.bool false)]) (H':=[some nilB,some ob])
  · apply Run.seq (fr':=[(1,tyA e ts),(6,.sl 1 0 l.length 0),(7,.int .i64 0),(19,.bool false)]) (H':=[some nilB,some ob])
    · generalize tyA e ts = A at *
      (refine ⟨0,?_⟩;simp (maxSteps:=2000000) -implicitDefEqProofs [-getElem?_pos,go_sem,eqV,plen])
    · exact condF (by simp [evalO,getF]) ⟨0,rfl⟩
  apply Tells.seq (fr':=[(1,tyA e ts),(6,.sl 1 0 l.length 0),(8,.sl 2 0 0 0)]) (H':=[some nilB,some ob,some nilV])
  · generalize tyA e ts = A at *
    (refine ⟨0,?_⟩;simp (maxSteps:=2000000) -implicitDefEqProofs [-getElem?_pos,go_sem,eqV,plen,assignV,emV])
  apply Tells.assoc
  apply Tells.seq (fr':=dnFr e ts l 0 0 []) (H':=[some nilB,some ob,some nilV])
  · unfold dnFr
    generalize tyA e ts = A at *
    (refine ⟨0,?_⟩;simp (maxSteps:=2000000) -implicitDefEqProofs [-getElem?_pos,go_sem,eqV,plen])
  apply Tells.or (P:=fun fr H'=>ts.any bad45 = false∧fr = dnFr e ts l l.length l.length [(24,.bool false)]∧DnHp l (List.zipWith trnV l ts) H')
  · refine (piece (dn_loop e ts l [some nilB,some ob,some nilV] ob rfl hw hl hn hok h256 ⟨⟨ob,rfl,hw⟩,⟨nilV,rfl,nilV_rw⟩⟩) _ rfl).mono ?_
    rintro out (h | ⟨q1,q2,q3,q4⟩)
    · exact .inl h
    · refine .inr ⟨q1,q2,?_⟩
      rw [if_pos q3]
      exact q4
  rintro fr H ⟨hnb,rfl,_,ob2,h1,hw2⟩
  rw [if_neg (by rw [hnb];simp)]
  have hzl:(List.zipWith trnV l ts).length = l.length:=by rw [List.length_zipWith];omega
  rw [hzl] at hw2
  have hRV:RoV H (.sl 2 0 l.length l.length) (List.zipWith trnV l ts):=by
    have:=RoRow.whole h1 hw2
    rwa [List.length_map,hzl] at this
  generalize List.zipWith trnV l ts = z at *
  obtain ⟨ob3,hw3,hA3⟩:=rtapp_ev (H:=H) (a:=.ro 0 .pn 0) (A:=.sl 2 0 l.length l.length) (b:=[]) Byt.nil hRV (by simp) hT
  refine Tells.of (o:=⟨.ret,[(4,.sl H.length 0 (txApp [] z).1.length 0),(5,.int .i64 (txApp [] z).2)],H ++ [some ob3]⟩) ⟨0,?_⟩ ⟨rfl,H.length,0,ob3,rfl,rfl,by simp,hw3⟩
  unfold dnFr
  generalize tyA e ts = A at *
  generalize (txApp [] z) = x at *
  generalize l.length = n at *
  simp (maxSteps:=2000000) -implicitDefEqProofs [-getElem?_pos,go_sem,eqV,plen,hA3,assignV]
end
theorem dtrn_ev {H:AM.Heap} {a A:AV} {b:List UInt8} {ts:List Ty} (h:Byt H a b) (hA:RoT H A ts) (hb:b.length≤90000000) (h256:∀ t ∈ ts,t.t < 256) (hok:∀ v ∈ (rdBin b ts).1,v.okR) (hn:ts.length≤4096) (hT:(txR (List.zipWith trnV (rdBin b ts).1 ts)).length≤1000000) :
    ∃ ob,Rw (.pb (trdB b ts).1) 0 ob∧evT X 12 [a,A] H = some (.tup [.sl H.length 0 (trdB b ts).1.length 0,.int .i64 (trdB b ts).2],H ++ [some ob]):=by
  obtain ⟨e,pt,xt,hpt,he,hxt⟩:=args_t (f:=12) (i:=1) rfl hA (args_nil 2)
  obtain ⟨c,p,xl,hp,hc,hx'⟩:=args_byt (C:=X) (f:=12) (i:=0) rfl h hxt
  obtain ⟨code,hcode,hr⟩:=dtrn_code c e ts b hc he hb h256 hok hn hT
  obtain ⟨ob,q1,q2⟩:=Ev1.newB (H:=H) (n:=(trdB b ts).1.length) (l:=(trdB b ts).1) (rest:=[.int .i64 (trdB b ts).2]) (evT_below X) Tryz.func12 hcode hx' (by simp [idsL,ids,hp.ids,hpt.ids]) (by simp [gtag]) rfl rfl rfl (by
    obtain ⟨o,⟨he,o1,g1,ob,q1,q2,q3,q4⟩,hrun⟩:=hr
    exact ⟨o,⟨he,o1,g1,ob,by show some [getF o.fr 4,getF o.fr 5] = _;rw [q1,q2],q3,q4⟩,by rw [par12,coB hp,coT hpt,coerce_nil];exact hrun⟩)
  exact ⟨ob,q1,evT_eq q2⟩
end Go.Proofs.YtafdnpcamepbmaaGreatDoor
namespace Go.Proofs.YtafdnpcamepbmaaGreatDoor
open Go.AM
theorem wrap_rng (x:Int):-9223372036854775808≤IntKind.i64.wrap x∧IntKind.i64.wrap x < 9223372036854775808:=by
  unfold IntKind.wrap
  simp only [IntKind.bits,IntKind.signed]
  have h:(2:Int) ^ 64 = 18446744073709551616:=by decide
  have h2:(2:Int) ^ (64 - 1) = 9223372036854775808:=by decide
  simp only [h,h2,Bool.true_and]
  split
  · rename_i h3
    simp only [ge_iff_le,decide_eq_true_eq] at h3
    omega
  · rename_i h3
    simp only [ge_iff_le,decide_eq_true_eq] at h3
    omega
theorem sgV_rng (x:Int) (n:Nat):-9223372036854775808≤sgV x n∧sgV x n < 9223372036854775808:=by
  unfold sgV
  have h:=wrap_rng (IntKind.u64.wrap (x * 2 ^ (64 - 8 * n)))
  generalize IntKind.i64.wrap (IntKind.u64.wrap (x * 2 ^ (64 - 8 * n))) = y at *
  have hd:((2:Int) ^ (64 - 8 * n)) = ((2 ^ (64 - 8 * n):Nat):Int):=by simp
  rw [hd]
  have hp:0 < 2 ^ (64 - 8 * n):=Nat.pow_pos (by omega)
  generalize 2 ^ (64 - 8 * n) = d at *
  rw [Int.fdiv_eq_ediv_of_nonneg _ (Int.natCast_nonneg _)]
  have hd1:(1:Int)≤(d:Int):=by omega
  constructor
  · apply Int.le_ediv_of_mul_le (by omega)
    have:(-9223372036854775808:Int) * (d:Int)≤-9223372036854775808:=by
      have h9:=Int.mul_le_mul_of_nonneg_left hd1 (show (0:Int)≤9223372036854775808 by decide)
      omega
    omega
  · apply Int.ediv_lt_of_lt_mul (by omega)
    have h9:=Int.mul_le_mul_of_nonneg_left hd1 (show (0:Int)≤9223372036854775808 by decide)
    omega
theorem rfR_rng (b:List UInt8) {n:Nat} (h8:n≤8):0≤(rfR b (n:Nat)).1∧(rfR b (n:Nat)).1 < 18446744073709551616:=by
  unfold rfR
  split
  · simp
  · split
    · simp
    · have h1:=leV_lt (b.take (n:Int).toNat)
      have h2:256 ^ (b.take (n:Int).toNat).length≤256 ^ 8:=Nat.pow_le_pow_right (by omega) (by rw [List.length_take];omega)
      have h3:256 ^ 8 = 18446744073709551616:=by decide
      simp only
      omega
theorem rdT_len (b:List UInt8):(rdT b).1.length≤b.length:=by
  by_cases h:(rdT b).2.2 = 0
  · exact (rdT_le h).2
  · rw [(rdT_bad h).1];simp
theorem rdV_ok (b:List UInt8) (t:Ty):(rdV b t).1.okR∧(rdV b t).1.t.length≤b.length:=by
  have h0:({}:Va).okR∧({}:Va).t.length≤b.length:=by unfold Va.okR;simp
  have hs:=sizeN_le t.t
  have hr:=rfR_rng b hs
  have hg:=sgV_rng (rfR b (sizeN t.t)).1 (sizeN t.t)
  have hl:=rdT_len b
  unfold rdV
  split
  · exact h0
  split
  · exact h0
  split
  · split
    · exact h0
    · unfold Va.okR;simp
  split
  · split
    · exact h0
    split
    · exact h0
    · unfold Va.okR;exact ⟨by simp,hl⟩
  split
  · exact h0
  split
  · unfold Va.okR;simp only [List.length_nil];omega
  · unfold Va.okR;simp only [List.length_nil];omega
def okBn (m:Nat) (v:Va):Prop:=v.okR∧v.t.length≤m
theorem rbF_ok {f:Nat→Bool} {ts:List Ty} {m:Nat}:∀ (k i:Nat) (a:List Va) (r:List UInt8),r.length≤m→(∀ v ∈ a,okBn m v)→∀ v ∈ (rbF f ts k i a r).1,okBn m v
  | 0,i,a,r,hr,ha=>by rw [rbF];exact ha
  | k + 1,i,a,r,hr,ha=>by
    have h0:okBn m ({}:Va):=by unfold okBn Va.okR;simp
    rw [rbF]
    split
    · refine rbF_ok k _ _ _ hr ?_
      intro v hv
      rcases List.mem_append.1 hv with h | h
      · exact ha v h
      · rw [List.mem_singleton.1 h];exact h0
    split
    · intro v hv;simp at hv
    · refine rbF_ok k _ _ _ (by rw [List.length_drop];omega) ?_
      intro v hv
      rcases List.mem_append.1 hv with h | h
      · exact ha v h
      · rw [List.mem_singleton.1 h]
        have:=rdV_ok r (tyI ts i)
        exact ⟨this.1,by omega⟩
theorem rwZ_ok {x:List Va × List UInt8 × Int} {m:Nat} (h:∀ v ∈ x.1,okBn m v):∀ v ∈ (rwZ x).1,okBn m v:=by
  unfold rwZ
  split
  · intro v hv;simp at hv
  split
  · intro v hv;simp at hv
  · exact h
theorem rdBin_ok (b:List UInt8) (ts:List Ty):∀ v ∈ (rdBin b ts).1,okBn b.length v:=by
  unfold rdBin
  split
  · intro v hv;simp at hv
  split
  · intro v hv;simp at hv
  split
  · intro v hv;simp at hv
  split
  · intro v hv;simp at hv
  split
  · intro v hv;simp at hv
  unfold rdBm
  split
  · intro v hv;simp at hv
  split
  · intro v hv;simp at hv
  · refine rwZ_ok (rbF_ok _ _ _ _ ?_ (by intro v hv;simp at hv))
    simp only [List.length_drop,List.length_cons];omega
theorem rdBin_le (b:List UInt8) (ts:List Ty):(rdBin b ts).1.length≤ts.length:=by
  by_cases h:(rdBin b ts).2 = 0
  · exact Nat.le_of_eq (rdBin_len h)
  · have:(rdBin b ts).1 = []:=by
      revert h
      unfold rdBin
      split
      · intro _;rfl
      split
      · intro _;rfl
      split
      · intro _;rfl
      split
      · intro _;rfl
      split
      · intro _;rfl
      unfold rdBm
      split
      · intro _;rfl
      split
      · intro _;rfl
      · unfold rwZ
        split
        · intro _;rfl
        split
        · intro _;rfl
        · intro h;exact absurd rfl h
    rw [this];simp
theorem sumV_bd {m:Nat}:∀ (l:List Va),(∀ v ∈ l,okBn m v)→sumV l≤m * l.length
  | [],_=>by simp [sumV]
  | v :: l,h=>by
    have ih:=sumV_bd l (fun p hp=>h p (List.mem_cons_of_mem _ hp))
    have hv:=(h v (List.mem_cons_self ..)).2
    have e2:sumV (v :: l) = v.t.length + sumV l:=by simp [sumV]
    rw [e2,List.length_cons,Nat.mul_add]
    omega
theorem trn_fine {b:List UInt8} {ts:List Ty} (hb:b.length≤3000) (hn:ts.length≤60):(∀ v ∈ (rdBin b ts).1,v.okR)∧(txR (List.zipWith trnV (rdBin b ts).1 ts)).length≤1000000:=by
  have h1:=rdBin_ok b ts
  have h2:∀ v ∈ (rdBin b ts).1,v.okR:=fun v hv=>(h1 v hv).1
  refine ⟨h2,?_⟩
  have h3:=trn_sum (rdBin b ts).1 ts h2
  have h4:=sumV_bd _ h1
  have h5:=rdBin_le b ts
  have h6:b.length * (rdBin b ts).1.length≤3000 * 60:=Nat.mul_le_mul hb (by omega)
  omega
theorem rdTx_le:∀ (k:Nat) (a:List Va) (r:List UInt8),(rdTx k a r).1.length≤a.length + k
  | 0,a,r=>by rw [rdTx];simp
  | k + 1,a,r=>by
    rw [rdTx]
    split
    · have:=rdTx_le k (a ++ [({}:Va)]) (r.drop 1)
      rw [List.length_append] at this
      simp only [List.length_cons,List.length_nil] at this
      omega
    split
    · simp
    split
    · simp
    · have:=rdTx_le k (a ++ [({ k:=7,t:=(rdT r).1 }:Va)]) (r.drop (rdT r).2.1)
      rw [List.length_append] at this
      simp only [List.length_cons,List.length_nil] at this
      omega
theorem txt_le (b:List UInt8) (n:Int):(rdTxt b n).1.length≤4096:=by
  unfold rdTxt
  split
  · simp
  · have:=rdTx_le n.toNat [] b
    rw [List.length_nil] at this
    unfold rwZ
    split
    · simp
    split
    · simp
    · simp only;omega
end Go.Proofs.YtafdnpcamepbmaaGreatDoor
