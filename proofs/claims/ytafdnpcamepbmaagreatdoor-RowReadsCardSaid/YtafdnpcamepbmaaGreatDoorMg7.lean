/- Y7 to X7: texts of this claim, one behind the other; what each shows stands at its head. -/
import Derived.Test.YtafdnpcamepbmaaGreatDoorMg6
set_option linter.unusedSimpArgs false
set_option linter.unusedVariables false
set_option maxRecDepth 100000
set_option maxHeartbeats 8000000
namespace Go.Proofs.YtafdnpcamepbmaaGreatDoor
open Go.AM
section
variable (c e:Nat) (ts:List Ty) (L K:Nat) (b:List UInt8) (cb tb:Nat)
theorem bv_round (a:List Va) (r:List UInt8) (t:Ty) (H:AM.Heap) (hn:ts.length≤4096) (hb:b.length≤1000) (hm:ts.length + 2≤8 * b.length) (ht:ts[a.length]? = some t) (h256:t.t < 256) (hc:c = 0→r = []) (hr:r.length≤90000000) (hH:BvHp c L K b cb tb H a r) :
    ∃ code,((Tryz.f9.body).bind (codeAt [1,1,1,1,1,1,1,1,1,1,1,1,0,1,0,0,1,1,0])) = some code ∧
      Tells (Or2 (fun fr H'=>∃ r' v,fr = bvFz e ts L K a.length∧r'.length≤r.length∧(∀ k,rbF (fun i=>bitB b (i + 2)) ts (k + 1) a.length a r = rbF (fun i=>bitB b (i + 2)) ts k (a.length + 1) (a ++ [v]) r')∧BvHp c L K b cb tb H' (a ++ [v]) r') (fun out=>out.ex = .ret∧∃ er,er ≠ 0∧(∀ k,rbF (fun i=>bitB b (i + 2)) ts (k + 1) a.length a r = ([],[],er))∧ytQ ([],er) out.fr out.H))
       X (evT X) 9 0 code (bvFr e ts L K a.length ++ [(105,.bool true)]) H:=by
  refine ⟨_,rfl,?_⟩
  have hlt:=at_lt ht
  have hH1:BvHp c L K b cb tb (H ++ [some (tyO t)]) a r:=hH.push _
  obtain ⟨tg,hL⟩:=hH1.hl
  have hH2:=hH1.look
  have hLl:=at_lt hL
  have hLH:L < H.length:=by obtain ⟨tg,h⟩:=hH.hl;exact at_lt h
  have hk2:(upd (H ++ [some (tyO t)]) L (some (roB cb (.pb b) tb tb)))[H.length]? = some (some (tyO t)):=at_ne (by simp) (by omega)
  have r34:=bv34 e ts L K a.length t H ht
  have r35:=bv35 e ts L K b cb tb a.length H.length tg (H ++ [some (tyO t)]) (by omega) (by omega) hL
  have hHl:(upd (H ++ [some (tyO t)]) L (some (roB cb (.pb b) tb tb))).length = H.length + 1:=by simp [upd]
  generalize upd (H ++ [some (tyO t)]) L (some (roB cb (.pb b) tb tb)) = H2 at *
  cases hbit:bitB b (a.length + 2) with
  | true =>
    rw [hbit] at r35
    obtain ⟨H3,hH3,r36⟩:=bv36 c e ts L K b cb tb H.length a r H2 (by omega) hH2
    refine Tells.of (o:=⟨.normal,bvFz e ts L K a.length,H3⟩) ?_ (.inl ⟨rfl,r,{},rfl,by simp,fun k=>by rw [rbF,if_pos hbit],hH3⟩)
    apply Run.block_exit (id:=8)
    apply Run.seq (piece r34 _ rfl)
    apply Run.seq_out (hne:=by simp)
    apply Run.seq (piece r35 _ rfl)
    refine condT (by simp [evalO,getF,bvFm]) ?_
    apply Run.seq (piece r36 _ rfl)
    exact ⟨0,rfl⟩
  | false =>
    rw [hbit] at r35
    have hX:∀ k,rbF (fun i=>bitB b (i + 2)) ts (k + 1) a.length a r = if (rdV r t).2.2 ≠ 0 then ([],[],(rdV r t).2.2) else rbF (fun i=>bitB b (i + 2)) ts k (a.length + 1) (a ++ [(rdV r t).1]) (r.drop (rdV r t).2.1):=fun k=>by rw [rbF,if_neg (by rw [hbit];simp),tyI_at ht]
    have r37:=bv37 c e ts L K a.length H.length 1 t r H2 hc h256 hr hH2.h0 hk2
    have hle:=rdV_le r t hr
    have hH3:BvHp c L K b cb tb (H2 ++ [some (vaO (rdV r t).1)]) a r:=hH2.push _
    have hk3:(H2 ++ [some (vaO (rdV r t).1)])[H2.length]? = some (some (vaO (rdV r t).1)):=by simp
    generalize rdV r t = x at *
    obtain ⟨v,n,er⟩:=x
    simp only at *
    refine Tells.blkOr ?_ ?_
    · apply Tells.seq (piece r34 _ rfl)
      apply Tells.seq (fr':=bvFm e ts L K a.length [(18,.ptr H.length 0 0 0)] [(112,.bool false)]) (H':=H2)
      · apply Run.seq (piece r35 _ rfl)
        exact condF (by simp [evalO,getF,bvFm]) ⟨0,rfl⟩
      apply Tells.seq (piece r37 _ rfl)
      by_cases he:er = 0
      · subst he
        have hKl:K < H2.length:=by obtain ⟨ob,h,_⟩:=hH2.hk;exact at_lt h
        apply Tells.seq (fr':=bvFm e ts L K a.length [(19,.ptr H2.length 0 0 0),(20,.int .i64 (n:Nat)),(21,.int .i64 0)] [(125,.bool false)]) (H':=H2 ++ [some (vaO v)])
        · apply Run.seq (fr':=bvFm e ts L K a.length [(19,.ptr H2.length 0 0 0),(20,.int .i64 (n:Nat)),(21,.int .i64 0)] [(125,.bool false)]) (H':=H2 ++ [some (vaO v)])
          · unfold bvFm tyA t12
            generalize ts.map Ty.pay = T at *
            (refine ⟨0,?_⟩;simp (maxSteps:=2000000) -implicitDefEqProofs [-getElem?_pos,go_sem,eqV,plen])
          · exact condF (by simp [evalO,getF,bvFm]) ⟨0,rfl⟩
        obtain ⟨H4,hH4,r40⟩:=bv40 c e ts L K b cb tb H2.length n v a r (H2 ++ [some (vaO v)]) hc hle (by omega) hk3 (by omega) (by omega) hH3
        exact Tells.of (piece r40 _ rfl) (.inl ⟨rfl,r.drop n,v,rfl,by simp,fun k=>by rw [hX,if_neg (by simp)],hH4⟩)
      · have heb:(er != 0) = true:=by simpa using he
        refine Tells.of (o:=⟨.ret,[(4,.sl (H2.length + 1) 0 0 0),(5,.int .i64 er)],H2 ++ [some (vaO v)] ++ [some nilV]⟩) ?_ (.inr ⟨by simp,rfl,er,he,fun k=>by rw [hX,if_pos he],H2.length + 1,0,nilV,rfl,rfl,by simp,nilV_rw⟩)
        apply Run.seq_out (hne:=by simp)
        unfold bvFm tyA t12
        generalize ts.map Ty.pay = T at *
        refine ⟨0,?_⟩
        simp (maxSteps:=2000000) -implicitDefEqProofs [-getElem?_pos,go_sem,eqV,plen,heb,assignV,emV]
    · rintro o ⟨h1,_⟩
      rw [h1];simp
theorem bv_loop (r:List UInt8) (H:AM.Heap) (hn:ts.length≤4096) (hb:b.length≤1000) (hm:ts.length + 2≤8 * b.length) (h256:∀ t ∈ ts,t.t < 256) (hc:c = 0→r = []) (hr:r.length≤90000000) (hH:BvHp c L K b cb tb H [] r) :
    ∃ code,((Tryz.f9.body).bind (codeAt [1,1,1,1,1,1,1,1,1,1,1,1,0,1])) = some code ∧
      Tells (Or2 (fun fr H=>∃ a r',a.length = ts.length∧fr = bvFr e ts L K ts.length ++ [(105,.bool false)]∧rbF (fun i=>bitB b (i + 2)) ts ts.length 0 [] r = (a,r',0)∧BvHp c L K b cb tb H a r') (fun out=>out.ex = .ret∧∃ er,er ≠ 0∧rbF (fun i=>bitB b (i + 2)) ts ts.length 0 [] r = ([],[],er)∧ytQ ([],er) out.fr out.H))
       X (evT X) 9 0 code (bvFr e ts L K 0) H:=by
  refine ⟨_,rfl,?_⟩
  apply Tells.blockOr
  refine Tells.loopP (fun k fr H=>∃ a r',k = ts.length - a.length∧a.length≤ts.length∧fr = bvFr e ts L K a.length∧r'.length≤r.length∧rbF (fun i=>bitB b (i + 2)) ts ts.length 0 [] r = rbF (fun i=>bitB b (i + 2)) ts (ts.length - a.length) a.length a r'∧BvHp c L K b cb tb H a r') ?_ (k:=ts.length) ⟨[],r,by simp,by simp,rfl,by simp,by simp,hH⟩
  rintro k fr H ⟨a,r',rfl,ha,rfl,hr',hX,hH⟩
  by_cases hin:a.length = ts.length
  · refine Tells.of (o:=⟨.exit 7,bvFr e ts L K ts.length ++ [(105,.bool false)],H⟩) ⟨0,?_⟩ (.inr ⟨by simp,.inl ⟨rfl,a,r',hin,rfl,by rw [hX,hin,Nat.sub_self];rfl,hH⟩⟩)
    rw [hin]
    unfold bvFr tyA t12
    generalize ts.map Ty.pay = T at *
    simp (maxSteps:=2000000) -implicitDefEqProofs [-getElem?_pos,go_sem,eqV,plen]
  have hlt:a.length < ts.length:=by omega
  have hiI:((a.length:Nat):Int) < (ts.length:Int):=by omega
  obtain ⟨t,htt⟩:∃ p,ts[a.length]? = some p:=⟨_,List.getElem?_eq_getElem hlt⟩
  apply Tells.seq (fr':=bvFr e ts L K a.length ++ [(105,.bool true)]) (H':=H)
  · unfold bvFr tyA t12
    generalize ts.map Ty.pay = T at *
    generalize a.length = i at *
    (refine ⟨0,?_⟩;simp (maxSteps:=2000000) -implicitDefEqProofs [-getElem?_pos,go_sem,eqV,plen,hiI])
  apply Tells.seq (fr':=bvFr e ts L K a.length ++ [(105,.bool true)]) (H':=H)
  · refine condT (by simp [evalO,getF,bvFr]) ?_
    exact ⟨0,rfl⟩
  have hs:ts.length - a.length = (ts.length - (a.length + 1)) + 1:=by omega
  apply Tells.or (P:=fun fr H'=>∃ r2 v,fr = bvFz e ts L K a.length∧r2.length≤r'.length∧(∀ k,rbF (fun i=>bitB b (i + 2)) ts (k + 1) a.length a r' = rbF (fun i=>bitB b (i + 2)) ts k (a.length + 1) (a ++ [v]) r2)∧BvHp c L K b cb tb H' (a ++ [v]) r2)
  · refine (piece (bv_round c e ts L K b cb tb a r' t H hn hb hm htt (h256 t (List.mem_of_getElem? htt)) (fun h=>List.eq_nil_of_length_eq_zero (by have:=hc h;subst this;simpa using hr')) (by omega) hH) _ rfl).mono ?_
    rintro o (h | ⟨h1,h2,er,he,h3,h4⟩)
    · exact .inl h
    · exact .inr ⟨h1,.inr ⟨h1,.inr ⟨h2,h2,er,he,by rw [hX,hs,h3],h4⟩⟩⟩
  rintro fr H' ⟨r2,v,rfl,h1,h2,h3⟩
  have w1:IntKind.i64.wrap (((a.length:Nat):Int) + 1) = ((a.length + 1:Nat):Int):=by rw [wrap_i64 (by omega) (by omega)];omega
  refine Tells.of (o:=⟨.normal,bvFr e ts L K (a.length + 1),H'⟩) ⟨0,?_⟩ (.inl ⟨rfl,ts.length - (a.length + 1),by omega,a ++ [v],r2,by simp,by simp;omega,by simp,by omega,by rw [hX,hs,h2];simp,h3⟩)
  unfold bvFr bvFz tyA t12
  generalize ts.map Ty.pay = T at *
  generalize a.length = i at *
  simp (maxSteps:=2000000) -implicitDefEqProofs [-getElem?_pos,go_sem,eqV,plen,w1]
end
end Go.Proofs.YtafdnpcamepbmaaGreatDoor
namespace Go.Proofs.YtafdnpcamepbmaaGreatDoor
open Go.AM
section
variable (c e:Nat) (ts:List Ty)
theorem br_tail (b r:List UInt8) (L cb tb:Nat) (H:AM.Heap) (hn:ts.length≤4096) (hb:b.length = (ts.length + 9) / 8) (h256:∀ t ∈ ts,t.t < 256) (hc:c = 0→r = []) (hr:r.length≤90000000) (h0:H[0]? = some (some (roB c (.pb r) 1 1))) (hL:∃ tg,H[L]? = some (some (roB cb (.pb b) tb tg))) (l0:0 < L) :
    ∃ code,((Tryz.f9.body).bind (codeAt [1,1,1,1,1,1,1,1])) = some code ∧
      Tells (Rets (ytQ (rdBm b r ts))) X (evT X) 9 0 code [(1,tyA e ts),(2,.ptr 0 0 0 0),(10,.int .i64 0),(11,.ptr L 0 0 0),(60,.bool false)] H:=by
  refine ⟨_,rfl,?_⟩
  obtain ⟨tg,hL⟩:=hL
  have hTl:(ts.map Ty.pay).length = ts.length:=List.length_map _
  apply Tells.seq (fr':=[(1,tyA e ts),(2,.ptr 0 0 0 0),(11,.ptr L 0 0 0),(12,t12 L)]) (H':=H)
  · unfold tyA t12
    generalize ts.map Ty.pay = T at *
    (refine ⟨0,?_⟩;simp (maxSteps:=2000000) -implicitDefEqProofs [-getElem?_pos,go_sem,eqV,plen,assignV,scalars,scalar])
  have w8:IntKind.i64.wrap (8 * (b.length:Int)) = ((8 * b.length:Nat):Int):=by rw [wrap_i64 (by omega) (by omega)];omega
  apply Tells.assoc
  apply Tells.seq (fr':=zbFr e ts L b 0) (H':=H)
  · unfold zbFr tyA t12
    generalize ts.map Ty.pay = T at *
    generalize 8 * b.length = m8 at *
    (refine ⟨0,?_⟩;simp (maxSteps:=2000000) -implicitDefEqProofs [-getElem?_pos,go_sem,eqV,plen,hL,roB,w8])
  apply Tells.or (P:=fun fr H=>(List.range (8 * b.length)).any (bzB b ts.length) = false∧fr = zbFr e ts L b (8 * b.length) ++ [(67,.bool false)]∧zbHp L b cb tb (roB c (.pb r) 1 1) H)
  · refine (piece (zb_loop e ts L b cb tb _ H hn (by omega) ⟨h0,l0,tg,hL⟩) _ rfl).mono ?_
    rintro out (h | ⟨q1,q2,q3,q4⟩)
    · exact .inl h
    · refine .inr ⟨q1,q2,?_⟩
      rw [show rdBm b r ts = ([],5) by unfold rdBm;rw [if_pos q3]]
      exact q4
  rintro fr H ⟨hz,rfl,hH⟩
  apply Tells.assoc
  apply Tells.seq (fr':=nzFr e ts L 0) (H':=H)
  · unfold zbFr nzFr tyA t12
    generalize ts.map Ty.pay = T at *
    generalize 8 * b.length = m8 at *
    (refine ⟨0,?_⟩;simp (maxSteps:=2000000) -implicitDefEqProofs [-getElem?_pos,go_sem,eqV,plen,hTl])
  apply Tells.or (P:=fun fr H=>(List.range ts.length).any (nzB b ts) = false∧fr = nzFr e ts L ts.length ++ [(87,.bool false)]∧zbHp L b cb tb (roB c (.pb r) 1 1) H)
  · refine (piece (nz_loop e ts L b cb tb _ H hn (by omega) (by omega) h256 hH) _ rfl).mono ?_
    rintro out (h | ⟨q1,q2,q3,q4⟩)
    · exact .inl h
    · refine .inr ⟨q1,q2,?_⟩
      rw [show rdBm b r ts = ([],5) by unfold rdBm;rw [if_neg (by rw [hz];simp),if_pos q3]]
      exact q4
  rintro fr H ⟨hz2,rfl,g0,_,tg2,gL⟩
  have hrb:rdBm b r ts = rwZ (rbF (fun i=>bitB b (i + 2)) ts ts.length 0 [] r):=by unfold rdBm;rw [if_neg (by rw [hz];simp),if_neg (by rw [hz2];simp)]
  rw [hrb]
  have gLl:=at_lt gL
  apply Tells.seq (fr':=[(1,tyA e ts),(2,.ptr 0 0 0 0),(12,t12 L),(16,.sl H.length 0 0 0)]) (H':=H ++ [some nilV])
  · unfold nzFr tyA t12
    generalize ts.map Ty.pay = T at *
    (refine ⟨0,?_⟩;simp (maxSteps:=2000000) -implicitDefEqProofs [-getElem?_pos,go_sem,eqV,plen,assignV,emV])
  apply Tells.assoc
  apply Tells.seq (fr':=bvFr e ts L H.length 0) (H':=H ++ [some nilV])
  · unfold bvFr tyA t12
    generalize ts.map Ty.pay = T at *
    (refine ⟨0,?_⟩;simp (maxSteps:=2000000) -implicitDefEqProofs [-getElem?_pos,go_sem,eqV,plen,hTl])
  have hB:BvHp c L H.length b cb tb (H ++ [some nilV]) [] r:=⟨at_cat g0,⟨tg2,at_cat gL⟩,⟨nilV,by simp,nilV_rw⟩,l0,by omega,by omega⟩
  apply Tells.or (P:=fun fr H'=>∃ a r',a.length = ts.length∧fr = bvFr e ts L H.length ts.length ++ [(105,.bool false)]∧rbF (fun i=>bitB b (i + 2)) ts ts.length 0 [] r = (a,r',0)∧BvHp c L H.length b cb tb H' a r')
  · refine (piece (bv_loop c e ts L H.length b cb tb r _ hn (by omega) (by omega) h256 hc hr hB) _ rfl).mono ?_
    rintro out (h | ⟨q1,q2,er,he,q3,q4⟩)
    · exact .inl h
    · refine .inr ⟨q1,q2,?_⟩
      rw [q3,show rwZ ([],[],er) = ([],er) by unfold rwZ;rw [if_pos he]]
      exact q4
  rintro fr H' ⟨a,r',ha,rfl,hX,hH'⟩
  rw [hX]
  have k0:=hH'.h0
  obtain ⟨ob,k1,hw⟩:=hH'.hk
  generalize H.length = K at *
  cases r' with
  | cons y r' =>
    have hp:(0:Int) < ((r'.length + 1:Nat):Int):=by omega
    have hp2:(0:Int) < (r'.length:Int) + 1:=by omega
    rw [show rwZ (a,y :: r',0) = ([],5) by unfold rwZ;simp]
    refine Tells.of (o:=⟨.ret,[(4,.sl H'.length 0 0 0),(5,.int .i64 5)],H' ++ [some nilV]⟩) ?_ ⟨rfl,H'.length,0,nilV,rfl,rfl,by simp,nilV_rw⟩
    apply Run.seq_out (hne:=by simp)
    unfold bvFr tyA t12
    generalize ts.map Ty.pay = T at *
    refine ⟨0,?_⟩
    simp (maxSteps:=2000000) -implicitDefEqProofs [-getElem?_pos,go_sem,eqV,plen,k0,roB,hp,hp2,assignV,emV]
  | nil =>
    rw [show rwZ (a,[],0) = (a,0) by unfold rwZ;simp]
    refine Tells.of (o:=⟨.ret,[(4,.sl K 0 ts.length ts.length),(5,.int .i64 0)],H'⟩) ⟨0,?_⟩ ⟨rfl,K,ts.length,ob,by simp [getF,ha],rfl,k1,by rw [← ha];exact hw⟩
    unfold bvFr tyA t12
    generalize ts.map Ty.pay = T at *
    simp (maxSteps:=2000000) -implicitDefEqProofs [-getElem?_pos,go_sem,eqV,plen,k0,roB,assignV]
def brF1 (v:AV) (er:Int) (tl:AM.Frame):AM.Frame:=[(1,tyA e ts),(2,.ptr 0 0 0 0),(8,.fn 23 [.ptr 0 0 0 0]),(9,v),(10,.int .i64 er)] ++ tl
theorem br_head (b:List UInt8) (H:AM.Heap) (hn:ts.length≤4096) (h256:∀ t ∈ ts,t.t < 256) (hc:c = 0→b = []) (hr:b.length≤90000000) (h0:H[0]? = some (some (roB c (.pb b) 1 0))) (hk:ts.any noK = false) :
    ∃ code,((Tryz.f9.body).bind (codeAt [1,1,1])) = some code ∧
      Tells (Rets (ytQ (rdBin b ts))) X (evT X) 9 0 code (kdFr e ts ts.length ++ [(28,.bool false)]) H:=by
  refine ⟨_,rfl,?_⟩
  have hTl:(ts.map Ty.pay).length = ts.length:=List.length_map _
  apply Tells.seq (fr':=[(1,tyA e ts),(2,.ptr 0 0 0 0),(8,.fn 23 [.ptr 0 0 0 0])]) (H':=H)
  · unfold kdFr tyA
    generalize ts.map Ty.pay = T at *
    (refine ⟨0,?_⟩;simp (maxSteps:=2000000) -implicitDefEqProofs [-getElem?_pos,go_sem,eqV,plen,assignV,scalars,scalar])
  have hkk:¬ (ts.any fun t=>decide (kindN t.t t.u < 0)) = true:=by
    have:(ts.any fun t=>decide (kindN t.t t.u < 0)) = false:=hk
    rw [this];simp
  have hrd0:rdBin [] ts = ([],4):=by unfold rdBin;rw [if_neg (by omega),if_neg hkk]
  have hrd1:∀ y r,rdBin (y :: r) ts = if y ≠ 0 then ([],5) else if r.length < (ts.length + 9) / 8 then ([],4) else rdBm (r.take ((ts.length + 9) / 8)) (r.drop ((ts.length + 9) / 8)) ts:=by
    intro y r;unfold rdBin;rw [if_neg (by omega),if_neg hkk]
  match b,hc,hr,h0 with
  | [],hc,hr,h0 =>
    rw [hrd0]
    obtain ⟨ob,hA⟩:=take_ev' (N:=1) (n:=1) rfl h0 (by simp)
    refine Tells.of (o:=⟨.ret,[(4,.sl (H.length + 1) 0 0 0),(5,.int .i64 4)],upd H 0 (some (roB c (.pb []) 1 1)) ++ [some ob] ++ [some nilV]⟩) ?_ ⟨rfl,H.length + 1,0,nilV,rfl,rfl,by rw [show H.length + 1 = (upd H 0 (some (roB c (.pb []) 1 1)) ++ [some ob]).length by simp [upd]];simp,nilV_rw⟩
    have hul:(upd H 0 (some (roB c (.pb []) 1 1))).length = H.length:=by simp [upd]
    generalize upd H 0 (some (roB c (.pb []) 1 1)) = HU at *
    apply Run.seq (fr':=brF1 e ts (.sl H.length 0 0 0) 4 []) (H':=HU ++ [some ob])
    · unfold brF1 tyA
      generalize ts.map Ty.pay = T at *
      (refine ⟨0,?_⟩;simp (maxSteps:=2000000) -implicitDefEqProofs [-getElem?_pos,go_sem,eqV,plen,hA,assignV])
    apply Run.seq_out (hne:=by simp)
    unfold brF1 tyA
    generalize ts.map Ty.pay = T at *
    refine ⟨0,?_⟩
    simp (maxSteps:=2000000) -implicitDefEqProofs [-getElem?_pos,go_sem,eqV,plen,hul,assignV,emV]
  | y :: r,hc,hr,h0 =>
    rw [hrd1]
    have hA:=take_ev (N:=1) (n:=1) rfl h0 hc (by simp) hr
    have c0:c ≠ 0:=fun h=>by have:=hc h;simp at this
    rw [show c2 c = 2 by unfold c2;rw [if_neg c0]] at hA
    simp only [List.take_succ_cons,List.take_zero,List.drop_succ_cons,List.drop_zero] at hA
    have g0:(upd H 0 (some (roB c (.pb r) 1 1)))[0]? = some (some (roB c (.pb r) 1 1)):=at_set h0
    generalize upd H 0 (some (roB c (.pb r) 1 1)) = HU at *
    apply Tells.seq (fr':=brF1 e ts (.ro 2 (.pb [y]) 1) 0 []) (H':=HU)
    · unfold brF1 tyA
      generalize ts.map Ty.pay = T at *
      (refine ⟨0,?_⟩;simp (maxSteps:=2000000) -implicitDefEqProofs [-getElem?_pos,go_sem,eqV,plen,hA,assignV])
    by_cases hy:y = 0
    · subst hy
      simp only [ne_eq,not_true_eq_false,if_false]
      apply Tells.seq (fr':=[(1,tyA e ts),(2,.ptr 0 0 0 0),(8,.fn 23 [.ptr 0 0 0 0]),(45,.bool false)]) (H':=HU)
      · unfold brF1 tyA
        generalize ts.map Ty.pay = T at *
        (refine ⟨0,?_⟩;simp (maxSteps:=2000000) -implicitDefEqProofs [-getElem?_pos,go_sem,eqV,plen,assignV])
      have w7:IntKind.i64.wrap ((ts.length:Int) + 9) = ((ts.length + 9:Nat):Int):=by rw [wrap_i64 (by omega) (by omega)];omega
      have w8:IntKind.i64.wrap (((ts.length + 9:Nat):Int) / 8) = (((ts.length + 9) / 8:Nat):Int):=by
        rw [wrap_i64 (by omega) (by omega)];omega
      have hm:(ts.length + 9) / 8≤1000:=by omega
      generalize hn7:ts.length + 9 = n7 at *
      generalize hm8:n7 / 8 = m8 at *
      by_cases hl:r.length < m8
      · rw [if_pos hl]
        obtain ⟨ob,hB⟩:=take_ev' (N:=(m8:Nat)) (n:=m8) rfl g0 hl
        refine Tells.of (o:=⟨.ret,[(4,.sl (HU.length + 2) 0 0 0),(5,.int .i64 4)],upd HU 0 (some (roB c (.pb r) 1 1)) ++ [some ob] ++ [some ⟨.pc [.sl HU.length 0 0 0],0,some 1,1,false,true,0⟩] ++ [some nilV]⟩) ?_ ⟨rfl,HU.length + 2,0,nilV,rfl,rfl,by rw [show HU.length + 2 = (upd HU 0 (some (roB c (.pb r) 1 1)) ++ [some ob] ++ [some (⟨.pc [.sl HU.length 0 0 0],0,some 1,1,false,true,0⟩:AM.Obj)]).length by simp [upd]];simp,nilV_rw⟩
        have hul:(upd HU 0 (some (roB c (.pb r) 1 1))).length = HU.length:=by simp [upd]
        have hnew:∀ x:Option AM.Obj,(upd HU 0 (some (roB c (.pb r) 1 1)) ++ [some ob,x])[HU.length + 1]? = some x:=fun x=>by rw [← hul,List.getElem?_append_right (by omega)];simp
        have hset:∀ x y:Option AM.Obj,(upd HU 0 (some (roB c (.pb r) 1 1)) ++ [some ob,x]).set (HU.length + 1) y = upd HU 0 (some (roB c (.pb r) 1 1)) ++ [some ob,y]:=fun x y=>by rw [← hul,List.set_append_right _ _ (by omega)];simp
        generalize upd HU 0 (some (roB c (.pb r) 1 1)) = HV at *
        apply Run.seq (fr':=[(1,tyA e ts),(2,.ptr 0 0 0 0),(10,.int .i64 4),(11,.ptr (HU.length + 1) 0 0 0)]) (H':=HV ++ [some ob] ++ [some ⟨.pc [.sl HU.length 0 0 0],0,some 1,1,false,true,0⟩])
        · unfold tyA
          generalize ts.map Ty.pay = T at *
          (refine ⟨0,?_⟩;simp (maxSteps:=2000000) -implicitDefEqProofs [-getElem?_pos,go_sem,eqV,plen,hTl,w7,w8,hB,hul,hnew,hset,splice,scalars,scalar,flatCells,assignV])
        apply Run.seq_out (hne:=by simp)
        unfold tyA
        generalize ts.map Ty.pay = T at *
        refine ⟨0,?_⟩
        simp (maxSteps:=2000000) -implicitDefEqProofs [-getElem?_pos,go_sem,eqV,plen,hul,assignV,emV]
      · rw [if_neg hl]
        have hB:=take_ev (N:=(m8:Nat)) (n:=m8) rfl g0 (fun h=>absurd h c0) (by omega) (by rw [List.length_cons] at hr;omega)
        rw [show c2 c = 2 by unfold c2;rw [if_neg c0]] at hB
        have k0:(upd HU 0 (some (roB c (.pb (r.drop m8)) 1 1)))[0]? = some (some (roB c (.pb (r.drop m8)) 1 1)):=at_set g0
        have hul:(upd HU 0 (some (roB c (.pb (r.drop m8)) 1 1))).length = HU.length:=by simp [upd]
        have hnew:∀ x:Option AM.Obj,(upd HU 0 (some (roB c (.pb (r.drop m8)) 1 1)) ++ [x])[HU.length]? = some x:=fun x=>by rw [← hul];simp
        have hpos:=at_lt g0
        generalize upd HU 0 (some (roB c (.pb (r.drop m8)) 1 1)) = HV at *
        apply Tells.seq (fr':=[(1,tyA e ts),(2,.ptr 0 0 0 0),(10,.int .i64 0),(11,.ptr HU.length 0 0 0)]) (H':=HV ++ [some (roB 2 (.pb (r.take m8)) 1 0)])
        · unfold tyA
          generalize ts.map Ty.pay = T at *
          (refine ⟨0,?_⟩;simp (maxSteps:=2000000) -implicitDefEqProofs [-getElem?_pos,go_sem,eqV,plen,hTl,w7,w8,hB,hul,hnew,roB,splice,scalars,scalar,flatCells,assignV])
        apply Tells.seq (fr':=[(1,tyA e ts),(2,.ptr 0 0 0 0),(10,.int .i64 0),(11,.ptr HU.length 0 0 0),(60,.bool false)]) (H':=HV ++ [some (roB 2 (.pb (r.take m8)) 1 0)])
        · apply Run.seq (fr':=[(1,tyA e ts),(2,.ptr 0 0 0 0),(10,.int .i64 0),(11,.ptr HU.length 0 0 0),(60,.bool false)]) (H':=HV ++ [some (roB 2 (.pb (r.take m8)) 1 0)])
          · unfold tyA
            generalize ts.map Ty.pay = T at *
            (refine ⟨0,?_⟩;simp (maxSteps:=2000000) -implicitDefEqProofs [-getElem?_pos,go_sem,eqV,plen])
          · exact condF (by simp [evalO,getF]) ⟨0,rfl⟩
        exact piece (br_tail c e ts (r.take m8) (r.drop m8) HU.length 2 1 (HV ++ [some (roB 2 (.pb (r.take m8)) 1 0)]) hn (by rw [List.length_take];omega) h256 (fun h=>absurd h c0) (by rw [List.length_drop];rw [List.length_cons] at hr;omega) (at_cat k0) ⟨0,hnew _⟩ hpos) _ rfl
    · have hyb:((y.toNat:Int) != 0) = true:=by
        have:y.toNat ≠ 0:=fun h=>hy (UInt8.toNat.inj (by rw [h];rfl))
        simp;omega
      rw [if_pos hy]
      refine Tells.of (o:=⟨.ret,[(4,.sl HU.length 0 0 0),(5,.int .i64 5)],HU ++ [some nilV]⟩) ?_ ⟨rfl,HU.length,0,nilV,rfl,rfl,by simp,nilV_rw⟩
      apply Run.seq_out (hne:=by simp)
      unfold brF1 tyA
      generalize ts.map Ty.pay = T at *
      refine ⟨0,?_⟩
      simp (maxSteps:=2000000) -implicitDefEqProofs [-getElem?_pos,go_sem,eqV,plen,hyb,assignV,emV]
end
end Go.Proofs.YtafdnpcamepbmaaGreatDoor
namespace Go.Proofs.YtafdnpcamepbmaaGreatDoor
open Go.AM
section
variable (c e:Nat) (ts:List Ty)
theorem brd_code (b:List UInt8) (hc:c = 0→b = []) (hb:b.length≤90000000) (h256:∀ t ∈ ts,t.t < 256):∃ code,Tryz.f9.body = some code ∧
    Tells (Rets (ytQ (rdBin b ts))) X (evT X) 9 0 code [(0,.ro c (.pb b) 1),(1,.ro e (.pr 2 (ts.map Ty.pay)) 2)] []:=by
  refine ⟨_,rfl,?_⟩
  have hTl:(ts.map Ty.pay).length = ts.length:=List.length_map _
  apply Tells.seq (fr':=[(1,tyA e ts),(2,.ptr 0 0 0 0)]) (H':=[some (roB c (.pb b) 1 0),some nilV])
  · unfold tyA
    generalize ts.map Ty.pay = T at *
    (refine ⟨0,?_⟩;simp (maxSteps:=2000000) -implicitDefEqProofs [-getElem?_pos,go_sem,eqV,plen,assignV,emV,roB])
  by_cases h5:4096 < ts.length
  · rw [show rdBin b ts = ([],3) by unfold rdBin;rw [if_pos h5]]
    refine Tells.of (o:=⟨.ret,[(4,.sl 2 0 0 0),(5,.int .i64 3)],[some (roB c (.pb b) 1 0),some nilV,some nilV]⟩) ?_ ⟨rfl,2,0,nilV,rfl,rfl,rfl,nilV_rw⟩
    apply Run.seq_out (hne:=by simp)
    have h5i:(4096:Int) < (ts.length:Int):=by omega
    unfold tyA
    generalize ts.map Ty.pay = T at *
    refine ⟨0,?_⟩
    simp (maxSteps:=2000000) -implicitDefEqProofs [-getElem?_pos,go_sem,eqV,plen,assignV,emV,h5i,hTl]
  have h5i:¬ (4096:Int) < (ts.length:Int):=by omega
  apply Tells.seq (fr':=[(1,tyA e ts),(2,.ptr 0 0 0 0),(24,.bool false)]) (H':=[some (roB c (.pb b) 1 0),some nilV])
  · unfold tyA
    generalize ts.map Ty.pay = T at *
    (refine ⟨0,?_⟩;simp (maxSteps:=2000000) -implicitDefEqProofs [-getElem?_pos,go_sem,eqV,plen,h5i,hTl])
  apply Tells.assoc
  apply Tells.seq (fr':=kdFr e ts 0) (H':=[some (roB c (.pb b) 1 0),some nilV])
  · unfold kdFr tyA
    generalize ts.map Ty.pay = T at *
    (refine ⟨0,?_⟩;simp (maxSteps:=2000000) -implicitDefEqProofs [-getElem?_pos,go_sem,eqV,plen,hTl])
  apply Tells.or (P:=fun fr H=>ts.any noK = false∧fr = kdFr e ts ts.length ++ [(28,.bool false)]∧H[0]? = some (some (roB c (.pb b) 1 0)))
  · refine (piece (kd_loop e ts (roB c (.pb b) 1 0) [some (roB c (.pb b) 1 0),some nilV] rfl (by omega) h256) _ rfl).mono ?_
    rintro out (h | ⟨q1,q2,q3,q4⟩)
    · exact .inl h
    · refine .inr ⟨q1,q2,?_⟩
      rw [show rdBin b ts = ([],2) by
        unfold rdBin
        rw [if_neg h5,if_pos (show (ts.any fun t=>decide (kindN t.t t.u < 0)) = true from q3)]]
      exact q4
  rintro fr H ⟨hk,rfl,h0⟩
  exact piece (br_head c e ts b H (by omega) h256 hc hb h0 hk) _ rfl
end
theorem brd_ev {H:AM.Heap} {a A:AV} {b:List UInt8} {ts:List Ty} (h:Byt H a b) (hA:RoT H A ts) (hb:b.length≤90000000) (h256:∀ t ∈ ts,t.t < 256) :
    ∃ ob,Rw (.pr 12 ((rdBin b ts).1.map Va.pay)) 0 ob∧evT X 9 [a,A] H = some (.tup [.sl H.length 0 (rdBin b ts).1.length 0,.int .i64 (rdBin b ts).2],H ++ [some ob]):=by
  obtain ⟨e,pt,xt,hpt,he,hxt⟩:=args_t (f:=9) (i:=1) rfl hA (args_nil 2)
  obtain ⟨c,p,xl,hp,hc,hx'⟩:=args_byt (C:=X) (f:=9) (i:=0) rfl h hxt
  obtain ⟨code,hcode,hr⟩:=brd_code c e ts b hc hb h256
  have hid:=va_tags (rdBin b ts).1
  obtain ⟨ob,q1,q2⟩:=Ev1.newR (H:=H) (n:=(rdBin b ts).1.length) (es:=12) (l:=(rdBin b ts).1.map Va.pay) (rest:=[.int .i64 (rdBin b ts).2]) (evT_below X) Tryz.func9 hcode hx' (by simp [idsL,ids,hp.ids,hpt.ids]) (by simp [gtag]) rfl rfl rfl hid.1 hid.2 (by
    obtain ⟨o,⟨he,o1,g1,ob,q1,q2,q4,q5⟩,hrun⟩:=hr
    exact ⟨o,⟨he,o1,g1,ob,by show some [getF o.fr 4,getF o.fr 5] = _;rw [q1,q2],q4,q5⟩,by rw [par9,coB hp,coT hpt,coerce_nil];exact hrun⟩)
  exact ⟨ob,q1,evT_eq q2⟩
end Go.Proofs.YtafdnpcamepbmaaGreatDoor
namespace Go.Proofs.YtafdnpcamepbmaaGreatDoor
open Go.AM
theorem wr_wr (x y:Bool) (e:Int):wr x (wr y e) = wr (y || x) e:=by
  unfold wr
  by_cases he:e = 0
  · subst he
    cases x <;> cases y <;> simp
  · simp [he]
theorem wr_no (e:Int):wr false e = e:=by unfold wr;simp
def rvF (d:List UInt8) (ts:List Ty):Nat→Nat→List Va→St→List Va × St
  | 0,_,a,s=>(a,s)
  | k + 1,i,a,s=>if s.2 ≠ 0 then (a,s) else if bitB d (i + 2) = true then rvF d ts k (i + 1) (a ++ [{}]) s
    else rvF d ts k (i + 1) (a ++ [(vlF s (tyI ts i)).1]) (vlF s (tyI ts i)).2
structure DbHp (c:Nat) (d:List UInt8) (H:AM.Heap) (s:St):Prop where
  h1:∃ tg,(tg = 0∨tg = 1)∧H[1]? = some (some (rdO c 1 tg s))
  h2:∃ ob,H[2]? = some (some ob)∧Rw (.pb d) 0 ob
  hc:c = 0→s.1 = []
theorem DbHp.to {c:Nat} {d:List UInt8} {H:AM.Heap} {s s':St} (h:DbHp c d H s) (hc:c = 0→s'.1 = []):DbHp c d (upd H 1 (some (rdO c 1 1 s'))) s':=by
  obtain ⟨⟨tg,_,h1⟩,⟨ob,h2,h3⟩,_⟩:=h
  exact ⟨⟨1,.inr rfl,at_set h1⟩,⟨ob,at_ne h2 (by omega),h3⟩,hc⟩
section
variable (c:Nat) (e:Nat) (ts:List Ty) (d:List UInt8)
def dkFr (i:Nat) (b:List UInt8):AM.Frame:=[(0,.ro c (.pb b) 1),(1,tyA e ts),(6,.int .i64 (i:Nat))]
theorem dk_loop (b:List UInt8) (H:AM.Heap) (hn:ts.length≤4096) (ht:∀ t ∈ ts,t.t < 256) :
    ∃ code,((Tryz.f10.body).bind (codeAt [1,1,0,1])) = some code ∧
      Tells (Or2 (fun fr H'=>ts.any noK = false∧fr = dkFr c e ts ts.length b ++ [(18,.bool false)]∧H' = H) (fun out=>out.ex = .ret∧ts.any noK = true∧ytQ ([],2) out.fr out.H))
       X (evT X) 10 0 code (dkFr c e ts 0 b) H:=by
  refine ⟨_,rfl,?_⟩
  have hTl:(ts.map Ty.pay).length = ts.length:=List.length_map _
  have hTat:∀ (i:Nat) (v:Ty),ts[i]? = some v→(ts.map Ty.pay)[i]? = some v.pay:=fun i p h=>(by rw [List.getElem?_map,h];rfl)
  unfold dkFr tyA
  generalize ts.map Ty.pay = T at *
  apply Tells.blockOr
  refine Tells.loopP (fun k fr H'=>∃ i,k = ts.length - i∧i≤ts.length∧fr = [(0,.ro c (.pb b) 1),(1,.ro e (.pr 2 T) 2),(6,.int .i64 (i:Nat))]∧H' = H∧∀ (j:Nat) (t:Ty),j < i→ts[j]? = some t→noK t = false) ?_ (k:=ts.length) ⟨0,rfl,by omega,rfl,rfl,by omega⟩
  rintro k fr H' ⟨i,rfl,hi,rfl,rfl,hall⟩
  by_cases hin:i = ts.length
  · subst hin
    refine Tells.of (o:=⟨.exit 0,[(0,.ro c (.pb b) 1),(1,.ro e (.pr 2 T) 2),(6,.int .i64 (ts.length:Nat))] ++ [(18,.bool false)],H'⟩) ⟨0,?_⟩ (.inr ⟨by simp,.inl ⟨rfl,?_,rfl,rfl⟩⟩)
    · simp (maxSteps:=2000000) -implicitDefEqProofs [-getElem?_pos,go_sem,eqV,plen,hTl]
    · rw [List.any_eq_false]
      intro t ht
      obtain ⟨j,hj⟩:=List.mem_iff_getElem?.1 ht
      rw [hall j t (at_lt hj) hj];simp
  have hlt:i < ts.length:=by omega
  have hiI:(i:Int) < (ts.length:Int):=by omega
  obtain ⟨t,htt⟩:∃ p,ts[i]? = some p:=⟨_,List.getElem?_eq_getElem hlt⟩
  have hm:=List.mem_of_getElem? htt
  have hrow:=hTat i t htt
  have hK:=rkind_ev (ht t hm) H'
  have w1:IntKind.i64.wrap ((i:Int) + 1) = ((i + 1:Nat):Int):=by rw [wrap_i64 (by omega) (by omega)];omega
  simp only [Ty.pay] at hK hrow
  by_cases hk:kindN t.t t.u < 0
  · have hnk:noK t = true:=decide_eq_true hk
    refine Tells.of (o:=⟨.ret,[(4,.sl H'.length 0 0 0),(5,.int .i64 2)],H' ++ [some nilV]⟩) ⟨0,?_⟩ (.inr ⟨by simp,.inr ⟨rfl,rfl,List.any_eq_true.2 ⟨t,hm,hnk⟩,H'.length,0,nilV,rfl,rfl,by simp,nilV_rw⟩⟩)
    generalize kindN t.t t.u = kk at *
    simp (maxSteps:=2000000) -implicitDefEqProofs [-getElem?_pos,go_sem,eqV,plen,hiI,hlt,hTl,hrow,Ty.pay,retagL,retag,retagP,flatCells,splice,scalars,scalar,mkTy,hK,hk,assignV,emV]
  · have hnk:noK t = false:=decide_eq_false hk
    refine Tells.of (o:=⟨.normal,[(0,.ro c (.pb b) 1),(1,.ro e (.pr 2 T) 2),(6,.int .i64 ((i + 1:Nat):Int))],H'⟩) ⟨0,?_⟩ (.inl ⟨rfl,ts.length - (i + 1),by omega,i + 1,rfl,by omega,rfl,rfl,fun j q hj hq=>?_⟩)
    · generalize kindN t.t t.u = kk at *
      simp (maxSteps:=2000000) -implicitDefEqProofs [-getElem?_pos,go_sem,eqV,plen,hiI,hlt,hTl,hrow,Ty.pay,retagL,retag,retagP,flatCells,splice,scalars,scalar,mkTy,hK,hk,w1]
    · by_cases hji:j = i
      · subst hji;rw [htt] at hq;obtain rfl:=Option.some.inj hq;exact hnk
      · exact hall j q (by omega) hq
def dzFr (i:Nat) (tl:AM.Frame):AM.Frame:=[(1,tyA e ts),(7,.ptr 1 0 0 0),(8,.sl 2 0 d.length 0),(9,.int .i64 (i:Nat))] ++ tl
theorem dz15 (i:Nat) (t:Ty) (s:St) (H:AM.Heap) (hi:i + 2 < 8 * d.length) (hd:d.length≤1000) (ht:ts[i]? = some t) (hH:DbHp c d H s) :
    ∃ code,((Tryz.f10.body).bind (codeAt [1,1,1,1,1,1,1,0,1,0,0,1,0,0])) = some code∧Run X (evT X) 10 0 code (dzFr e ts d i [(47,.bool true)]) H ⟨.normal,dzFr e ts d i [],upd H 1 (some (rdO c 1 1 (s.1,wr (nzB d ts i) s.2)))⟩:=by
  refine ⟨_,rfl,?_⟩
  have hnz:nzB d ts i = (decide (t.t = 6) && !bitB d (i + 2)):=by unfold nzB;rw [tyI_at ht]
  obtain ⟨⟨tg,htg,h1⟩,⟨ob,h2,hw⟩,hc⟩:=hH
  have hW:=fun bad=>wrong_ev (p:=.pb s.1) (l:=s.1) (e:=s.2) (bad:=bad) h1 (.inl rfl) (jtt htg)
  have hlt:=at_lt ht
  have hiI:(i:Int) < (ts.length:Int):=by omega
  have hrow:(ts.map Ty.pay)[i]? = some t.pay:=by rw [List.getElem?_map,ht];rfl
  have hTl:(ts.map Ty.pay).length = ts.length:=List.length_map _
  have hul:∀ x,upd H 1 (some (bxO (.pb s.1) c 1 1 x)) = upd H 1 (some (rdO c 1 1 (s.1,x))):=fun _=>rfl
  simp only [hul] at hW
  have w2:IntKind.i64.wrap ((i:Int) + 2) = ((i + 2:Nat):Int):=by rw [wrap_i64 (by omega) (by omega)];omega
  rw [hnz]
  clear hnz hul
  generalize i + 2 = j at *
  obtain ⟨y,hy⟩:∃ y,d[j / 8]? = some y:=⟨_,List.getElem?_eq_getElem (by omega)⟩
  have hbit:bitB d j = ((y.toNat / 2 ^ (j % 8)) % 2 == 1):=by unfold bitB;rw [List.getD,hy];rfl
  have e1:Int.tdiv (j:Int) 8 = ((j / 8:Nat):Int):=by rw [Int.tdiv_eq_ediv_of_nonneg (by omega)];omega
  have e2:Int.tmod (j:Int) 8 = ((j % 8:Nat):Int):=by rw [Int.tmod_eq_emod_of_nonneg (by omega)];omega
  have e3:(j:Int) / 8 = ((j / 8:Nat):Int):=by omega
  have e4:(j:Int) % 8 = ((j % 8:Nat):Int):=by omega
  have wq:IntKind.i64.wrap ((j / 8:Nat):Int) = ((j / 8:Nat):Int):=wrap_i64 (by omega) (by omega)
  have wr8:IntKind.i64.wrap ((j % 8:Nat):Int) = ((j % 8:Nat):Int):=wrap_i64 (by omega) (by omega)
  have wu8:IntKind.u64.wrap ((j % 8:Nat):Int) = ((j % 8:Nat):Int):=wrap_u64 (by omega) (by omega)
  have hii:((j / 8:Nat):Int) < (d.length:Int):=by omega
  have hin:j / 8 < d.length:=by omega
  have hr0:¬ ((j % 8:Nat):Int) < 0:=by omega
  have hsh:=shr8 (y:=y.toNat) (j:=j % 8) (Nat.mod_lt _ (by omega))
  have han:=and1 (y:=y.toNat) (j:=j % 8) y.toNat_lt
  obtain ⟨p,gg,cap,zz,row,ids,tgg⟩:=ob
  obtain ⟨q1,q2,q3,q4,q5⟩:=hw
  simp only at q1 q2 q3 q4 q5
  subst q1 q2 q3 q4 q5
  have h0:(((y.toNat / 2 ^ (j % 8)) % 2:Nat):Int) = 0∨(((y.toNat / 2 ^ (j % 8)) % 2:Nat):Int) = 1:=by omega
  have hb0:bitB d j = false ↔ (((y.toNat / 2 ^ (j % 8)) % 2:Nat):Int) = 0:=by
    rw [hbit,beq_eq_false_iff_ne];omega
  clear hbit
  unfold dzFr tyA
  generalize ts.map Ty.pay = T at *
  simp only [Ty.pay] at hrow
  generalize j / 8 = q at *
  generalize j % 8 = r at *
  generalize y.toNat / 2 ^ r = dd at *
  have han2:=han
  simp only [go_sem] at han2
  simp only [BitVec.toNat_and] at han
  generalize (((dd % 2:Nat)):Int) = d2 at *
  generalize hbb:bitB d j = bt at *
  generalize hGG:(fun x=>upd H 1 (some (rdO c 1 1 (s.1,wr x s.2)))) = G at *
  have hG:∀ x,upd H 1 (some (rdO c 1 1 (s.1,wr x s.2))) = G x:=fun x=>by rw [← hGG]
  simp only [hG] at hW ⊢
  clear hG hGG
  by_cases h6:t.t = 6
  · rw [decide_eq_true h6,Bool.true_and]
    cases bt with
    | true =>
      have hd2:¬ d2 = 0:=fun h=>by simpa using hb0.2 h
      have hd2b:(d2 == 0) = false:=by simpa using hd2
      have hW1:=hW false
      (refine ⟨0,?_⟩;simp (maxSteps:=2000000) -implicitDefEqProofs [-getElem?_pos,go_sem,eqV,plen,h2,hiI,hlt,hTl,hrow,h6,w2,e1,e2,e3,e4,wq,wr8,wu8,hii,hin,hy,hr0,hsh,han,han2,hd2,hd2b,hW1,show IntKind.u8.bits = 8 from rfl])
    | false =>
      have hd2:d2 = 0:=hb0.1 rfl
      have hW1:=hW true
      rw [hd2] at han han2
      (refine ⟨0,?_⟩;simp (maxSteps:=2000000) -implicitDefEqProofs [-getElem?_pos,go_sem,eqV,plen,h2,hiI,hlt,hTl,hrow,h6,w2,e1,e2,e3,e4,wq,wr8,wu8,hii,hin,hy,hr0,hsh,han,han2,hW1,show IntKind.u8.bits = 8 from rfl])
  · have h6b:((t.t:Int) == 6) = false:=by simp;omega
    rw [decide_eq_false h6,Bool.false_and]
    have hW1:=hW false
    (refine ⟨0,?_⟩;simp (maxSteps:=2000000) -implicitDefEqProofs [-getElem?_pos,go_sem,eqV,plen,h2,hiI,hlt,hTl,hrow,h6,h6b,hW1])
end
end Go.Proofs.YtafdnpcamepbmaaGreatDoor
namespace Go.Proofs.YtafdnpcamepbmaaGreatDoor
open Go.AM
structure DvHp (c:Nat) (d:List UInt8) (H:AM.Heap) (s:St) (a:List Va):Prop extends DbHp c d H s where
  h3:∃ ob,H[3]? = some (some ob)∧Rw (.pr 12 (a.map Va.pay)) a.length ob
theorem DvHp.to {c:Nat} {d:List UInt8} {H:AM.Heap} {s s':St} {a:List Va} (h:DvHp c d H s a) (hc:c = 0→s'.1 = []):DvHp c d (upd H 1 (some (rdO c 1 1 s'))) s' a:=by
  obtain ⟨ob,h3,hw⟩:=h.h3
  exact ⟨h.toDbHp.to hc,ob,at_ne h3 (by omega),hw⟩
theorem DvHp.put {c:Nat} {d:List UInt8} {H:AM.Heap} {s:St} {a a':List Va} {ob':AM.Obj} (h:DvHp c d H s a) (hw:Rw (.pr 12 (a'.map Va.pay)) a'.length ob'):DvHp c d (upd H 3 (some ob')) s a':=by
  obtain ⟨⟨⟨tg,ht,h1⟩,⟨ob2,h2,w2⟩,hc⟩,ob,h3,_⟩:=h
  exact ⟨⟨⟨tg,ht,at_ne h1 (by omega)⟩,⟨ob2,at_ne h2 (by omega),w2⟩,hc⟩,ob',at_set h3,hw⟩
section
variable (c:Nat) (e:Nat) (ts:List Ty) (d:List UInt8)
theorem dz_loop (s:St) (H:AM.Heap) (hn:ts.length≤4096) (hd:d.length≤1000) (hdl:ts.length + 2≤8 * d.length) (hH:DbHp c d H s) :
    ∃ code,((Tryz.f10.body).bind (codeAt [1,1,1,1,1,1,1,0,1])) = some code∧Tells (Goes fun fr H'=>fr = dzFr e ts d ts.length [(47,.bool false)]∧H'.length = H.length∧DbHp c d H' (s.1,wr ((List.range ts.length).any (nzB d ts)) s.2)) X (evT X) 10 0 code (dzFr e ts d 0 []) H:=by
  refine ⟨_,rfl,?_⟩
  have hTl:(ts.map Ty.pay).length = ts.length:=List.length_map _
  apply Tells.block
  refine Tells.loopP (fun k fr H'=>∃ i,k = ts.length - i∧i≤ts.length∧fr = dzFr e ts d i []∧H'.length = H.length∧DbHp c d H' (s.1,wr ((List.range i).any (nzB d ts)) s.2)) ?_ (k:=ts.length) ⟨0,rfl,by omega,rfl,rfl,by simpa [wr_no] using hH⟩
  rintro k fr H' ⟨i,rfl,hi,rfl,hlen,hH⟩
  by_cases hin:i = ts.length
  · rw [hin] at hH ⊢
    refine Tells.of (o:=⟨.exit 2,dzFr e ts d ts.length [(47,.bool false)],H'⟩) ⟨0,?_⟩ (.inr ⟨by simp,rfl,rfl,hlen,hH⟩)
    unfold dzFr tyA
    generalize ts.map Ty.pay = T at *
    generalize d.length = dl at *
    simp (maxSteps:=2000000) -implicitDefEqProofs [-getElem?_pos,go_sem,eqV,plen,hTl]
  have hiI:(i:Int) < (ts.length:Int):=by omega
  have w1:IntKind.i64.wrap ((i:Int) + 1) = ((i + 1:Nat):Int):=by rw [wrap_i64 (by omega) (by omega)];omega
  obtain ⟨t,ht⟩:∃ t,ts[i]? = some t:=⟨_,List.getElem?_eq_getElem (by omega)⟩
  have h15:=dz15 c e ts d i t _ H' (by omega) hd ht hH
  have hH2:=hH.to (s':=(s.1,wr (nzB d ts i) (wr ((List.range i).any (nzB d ts)) s.2))) hH.hc
  have hq:wr (nzB d ts i) (wr ((List.range i).any (nzB d ts)) s.2) = wr ((List.range (i + 1)).any (nzB d ts)) s.2:=by
    rw [wr_wr,List.range_succ,List.any_append];simp
  simp only [hq] at h15 hH2
  have hl2:(upd H' 1 (some (rdO c 1 1 (s.1,wr ((List.range (i + 1)).any (nzB d ts)) s.2)))).length = H.length:=by simp [upd,hlen]
  generalize upd H' 1 (some (rdO c 1 1 (s.1,wr ((List.range (i + 1)).any (nzB d ts)) s.2))) = H2 at *
  refine Tells.of (o:=⟨.normal,dzFr e ts d (i + 1) [],H2⟩) ?_ (.inl ⟨rfl,ts.length - (i + 1),by omega,i + 1,rfl,by omega,rfl,hl2,hH2⟩)
  apply Run.seq (fr':=dzFr e ts d i [(47,.bool true)]) (H':=H')
  · apply Run.seq (fr':=dzFr e ts d i [(47,.bool true)]) (H':=H')
    · unfold dzFr tyA
      generalize ts.map Ty.pay = T at *
      generalize d.length = dl at *
      (refine ⟨0,?_⟩;simp (maxSteps:=2000000) -implicitDefEqProofs [-getElem?_pos,go_sem,eqV,plen,hiI,hTl])
    · exact condT (by simp [evalO,getF,dzFr]) ⟨0,rfl⟩
  apply Run.seq (fr':=dzFr e ts d i []) (H':=H2)
  · apply Run.block (hne:=by simp)
    exact piece (P:=fun cd=>Run X (evT X) _ 0 cd _ _ _) h15 _ rfl
  · unfold dzFr tyA
    generalize ts.map Ty.pay = T at *
    generalize d.length = dl at *
    refine ⟨0,?_⟩
    simp (maxSteps:=2000000) -implicitDefEqProofs [-getElem?_pos,go_sem,eqV,plen,w1]
def dvFr (i m:Nat) (tl:AM.Frame):AM.Frame:=[(1,tyA e ts),(7,.ptr 1 0 0 0),(8,.sl 2 0 d.length 0),(10,.sl 3 0 m m),(11,.int .i64 (i:Nat))] ++ tl
theorem dv18 (i m:Nat) (s:St) (H:AM.Heap) (hH:DbHp c d H s) :
    ∃ code,((Tryz.f10.body).bind (codeAt [1,1,1,1,1,1,1,1,1,0,1,0,0,0,0])) = some code∧Run X (evT X) 10 0 code (dvFr e ts d i m []) H ⟨.normal,dvFr e ts d i m [(83,.bool (decide (i < ts.length) && decide (s.2 = 0)))],H⟩:=by
  refine ⟨_,rfl,?_⟩
  obtain ⟨⟨tg,ht,h1⟩,_,_⟩:=hH
  obtain ⟨b,er⟩:=s
  have hTl:(ts.map Ty.pay).length = ts.length:=List.length_map _
  unfold rdO at h1
  unfold dvFr tyA
  generalize ts.map Ty.pay = T at *
  generalize ts.length = n at *
  generalize d.length = dl at *
  by_cases hi:i < n
  · have hiI:(i:Int) < (n:Int):=by omega
    by_cases he:er = 0
    · subst he
      rcases ht with rfl | rfl
      · (refine ⟨0,?_⟩;simp (maxSteps:=2000000) -implicitDefEqProofs [-getElem?_pos,go_sem,eqV,plen,hi,hiI,hTl,h1,retag])
      · (refine ⟨0,?_⟩;simp (maxSteps:=2000000) -implicitDefEqProofs [-getElem?_pos,go_sem,eqV,plen,hi,hiI,hTl,h1,retag])
    · have heb:(er == 0) = false:=by simpa using he
      rcases ht with rfl | rfl
      · (refine ⟨0,?_⟩;simp (maxSteps:=2000000) -implicitDefEqProofs [-getElem?_pos,go_sem,eqV,plen,hi,hiI,hTl,h1,he,heb,retag])
      · (refine ⟨0,?_⟩;simp (maxSteps:=2000000) -implicitDefEqProofs [-getElem?_pos,go_sem,eqV,plen,hi,hiI,hTl,h1,he,heb,retag])
  · have hiI:¬ (i:Int) < (n:Int):=by omega
    (refine ⟨0,?_⟩;simp (maxSteps:=2000000) -implicitDefEqProofs [-getElem?_pos,go_sem,eqV,plen,hi,hiI,hTl])
theorem dv20 (i m:Nat) (s:St) (H:AM.Heap) (hi:i + 2 < 8 * d.length) (hd:d.length≤1000) (hH:DbHp c d H s) :
    ∃ code,((Tryz.f10.body).bind (codeAt [1,1,1,1,1,1,1,1,1,0,1,0,0,1,0,0,0])) = some code∧Run X (evT X) 10 0 code (dvFr e ts d i m [(83,.bool true)]) H ⟨.normal,dvFr e ts d i m [(98,.bool (bitB d (i + 2)))],H⟩:=by
  refine ⟨_,rfl,?_⟩
  obtain ⟨_,⟨ob,h2,hw⟩,_⟩:=hH
  have w2:IntKind.i64.wrap ((i:Int) + 2) = ((i + 2:Nat):Int):=by rw [wrap_i64 (by omega) (by omega)];omega
  generalize i + 2 = j at *
  obtain ⟨y,hy⟩:∃ y,d[j / 8]? = some y:=⟨_,List.getElem?_eq_getElem (by omega)⟩
  have hbit:bitB d j = ((y.toNat / 2 ^ (j % 8)) % 2 == 1):=by unfold bitB;rw [List.getD,hy];rfl
  have e1:Int.tdiv (j:Int) 8 = ((j / 8:Nat):Int):=by rw [Int.tdiv_eq_ediv_of_nonneg (by omega)];omega
  have e2:Int.tmod (j:Int) 8 = ((j % 8:Nat):Int):=by rw [Int.tmod_eq_emod_of_nonneg (by omega)];omega
  have e3:(j:Int) / 8 = ((j / 8:Nat):Int):=by omega
  have e4:(j:Int) % 8 = ((j % 8:Nat):Int):=by omega
  have wq:IntKind.i64.wrap ((j / 8:Nat):Int) = ((j / 8:Nat):Int):=wrap_i64 (by omega) (by omega)
  have wr8:IntKind.i64.wrap ((j % 8:Nat):Int) = ((j % 8:Nat):Int):=wrap_i64 (by omega) (by omega)
  have wu8:IntKind.u64.wrap ((j % 8:Nat):Int) = ((j % 8:Nat):Int):=wrap_u64 (by omega) (by omega)
  have hii:((j / 8:Nat):Int) < (d.length:Int):=by omega
  have hin:j / 8 < d.length:=by omega
  have hr0:¬ ((j % 8:Nat):Int) < 0:=by omega
  have hsh:=shr8 (y:=y.toNat) (j:=j % 8) (Nat.mod_lt _ (by omega))
  have han:=and1 (y:=y.toNat) (j:=j % 8) y.toNat_lt
  have heq:∀ z:Nat,((z:Int) == 1) = (z == 1):=by
    intro z
    by_cases h:z = 1
    · subst h;rfl
    · have:(z == 1) = false:=by simpa using h
      rw [this];exact beq_eq_false_iff_ne.2 (by omega)
  obtain ⟨p,gg,cap,zz,row,ids,tgg⟩:=ob
  obtain ⟨q1,q2,q3,q4,q5⟩:=hw
  simp only at q1 q2 q3 q4 q5
  subst q1 q2 q3 q4 q5
  rw [hbit]
  unfold dvFr tyA
  generalize ts.map Ty.pay = T at *
  generalize j / 8 = q at *
  generalize j % 8 = r at *
  generalize y.toNat / 2 ^ r = dd at *
  have han2:=han
  simp only [go_sem] at han2
  simp only [BitVec.toNat_and] at han
  have hq:=heq (dd % 2)
  generalize hddd:(dd % 2 == 1) = z at *
  generalize dd % 2 = d2 at *
  (refine ⟨0,?_⟩;simp (maxSteps:=2000000) -implicitDefEqProofs [-getElem?_pos,go_sem,eqV,plen,h2,w2,e1,e2,e3,e4,wq,wr8,wu8,hii,hin,hy,hr0,hsh,han,han2,hq,show IntKind.u8.bits = 8 from rfl])
theorem dv21 (i:Nat) (s:St) (a:List Va) (H:AM.Heap) (ha:a.length≤9000000) (hH:DvHp c d H s a) :
    ∃ H',DvHp c d H' s (a ++ [({}:Va)])∧∃ code,((Tryz.f10.body).bind (codeAt [1,1,1,1,1,1,1,1,1,0,1,0,0,1,0,0,1,0])) = some code∧Run X (evT X) 10 0 code (dvFr e ts d i a.length [(98,.bool true)]) H ⟨.normal,dvFr e ts d i (a.length + 1) [],H'⟩:=by
  obtain ⟨ob,h2,hw⟩:=hH.h3
  obtain ⟨ob',hw',hA⟩:=app_va ({}:Va) rfl ha h2 hw
  refine ⟨upd H 3 (some ob'),hH.put (by simpa using hw'),_,rfl,?_⟩
  have hbs:=fun H=>bsVa H ({}:Va)
  have hbv:=bvV0
  simp only [Va.pay,Int.cast_ofNat_Int] at hA hbs hbv
  unfold dvFr tyA
  generalize ts.map Ty.pay = T at *
  generalize upd H 3 (some ob') = H2 at *
  generalize a.length = m at *
  generalize d.length = dl at *
  (refine ⟨0,?_⟩;simp (maxSteps:=2000000) -implicitDefEqProofs [-getElem?_pos,go_sem,eqV,plen,hbv,hbs,hA,assignV])
theorem dv22 (i:Nat) (t:Ty) (s:St) (a:List Va) (H:AM.Heap) (ha:a.length≤9000000) (ht:ts[i]? = some t) (h256:t.t < 256) (hb:s.1.length≤90000000) (hH:DvHp c d H s a) :
    ∃ H',DvHp c d H' (vlF s t).2 (a ++ [(vlF s t).1])∧∃ code,((Tryz.f10.body).bind (codeAt [1,1,1,1,1,1,1,1,1,0,1,0,0,1,0,0,1,1])) = some code∧Run X (evT X) 10 0 code (dvFr e ts d i a.length [(98,.bool false)]) H ⟨.normal,dvFr e ts d i (a.length + 1) [],H'⟩:=by
  have hH2:=hH.to (s':=(vlF s t).2) (vlF_nil hH.hc)
  obtain ⟨tg,htg,h1⟩:=hH.h1
  have hV:=vl_ev h1 (jtt htg) hH.hc h256 hb
  generalize upd H 1 (some (rdO c 1 1 (vlF s t).2)) = H2 at *
  obtain ⟨ob,h2,hw⟩:=hH2.h3
  obtain ⟨ob',hw',hA⟩:=app_va (vlF s t).1 rfl ha h2 hw
  refine ⟨upd H2 3 (some ob'),hH2.put (by simpa using hw'),_,rfl,?_⟩
  have hbs:=fun H=>bsVa H (vlF s t).1
  have hlt:=at_lt ht
  have hiI:(i:Int) < (ts.length:Int):=by omega
  have hrow:(ts.map Ty.pay)[i]? = some t.pay:=by rw [List.getElem?_map,ht];rfl
  have hTl:(ts.map Ty.pay).length = ts.length:=List.length_map _
  generalize upd H2 3 (some ob') = H3 at *
  generalize (vlF s t).1 = v at *
  simp only [Va.pay,Ty.pay] at hA hbs hV hrow
  unfold dvFr tyA
  generalize ts.map Ty.pay = T at *
  generalize a.length = m at *
  generalize d.length = dl at *
  (refine ⟨0,?_⟩;simp (maxSteps:=2000000) -implicitDefEqProofs [-getElem?_pos,go_sem,eqV,plen,hiI,hlt,hTl,hrow,hV,hbs,hA,mkTy,mkVa,assignV,retagL,retag,retagP,flatCells,splice,scalars,scalar])
theorem dv_round (s:St) (a:List Va) (H:AM.Heap) (hin:a.length < ts.length) (hn:ts.length≤4096) (hd:d.length≤1000) (hdl:ts.length + 2≤8 * d.length) (h256:∀ t ∈ ts,t.t < 256) (he:s.2 = 0) (hb:s.1.length≤90000000) (hH:DvHp c d H s a) :
    ∃ code,((Tryz.f10.body).bind (codeAt [1,1,1,1,1,1,1,1,1,0,1,0,0])) = some code∧Tells (Goes fun fr H'=>∃ a' s',(∀ k,rvF d ts (k + 1) a.length a s = rvF d ts k (a.length + 1) a' s')∧a'.length = a.length + 1∧s'.1.length≤90000000∧fr = dvFr e ts d (a.length + 1) (a.length + 1) []∧DvHp c d H' s' a') X (evT X) 10 0 code (dvFr e ts d a.length a.length []) H:=by
  refine ⟨_,rfl,?_⟩
  have h18:=dv18 c e ts d a.length a.length s H hH.toDbHp
  rw [decide_eq_true hin,decide_eq_true he] at h18
  have w1:IntKind.i64.wrap ((a.length:Int) + 1) = ((a.length + 1:Nat):Int):=by rw [wrap_i64 (by omega) (by omega)];omega
  apply Tells.assoc
  apply Tells.seq (piece (P:=fun cd=>Run X (evT X) _ 0 cd _ _ _) h18 _ rfl)
  apply Tells.seq (fr':=dvFr e ts d a.length a.length [(83,.bool true)]) (H':=H)
  · exact condT (by simp [evalO,getF,dvFr]) ⟨0,rfl⟩
  apply Tells.andThen (P:=fun fr H'=>∃ a' s',(∀ k,rvF d ts (k + 1) a.length a s = rvF d ts k (a.length + 1) a' s')∧a'.length = a.length + 1∧s'.1.length≤90000000∧fr = dvFr e ts d a.length (a.length + 1) []∧DvHp c d H' s' a')
  case h' =>
    rintro fr H' ⟨a',s',q1,q2,q3,rfl,q4⟩
    refine Tells.of (o:=⟨.normal,dvFr e ts d (a.length + 1) (a.length + 1) [],H'⟩) ⟨0,?_⟩ ⟨rfl,a',s',q1,q2,q3,rfl,q4⟩
    unfold dvFr tyA
    generalize ts.map Ty.pay = T at *
    generalize a.length = m at *
    generalize d.length = dl at *
    simp (maxSteps:=2000000) -implicitDefEqProofs [-getElem?_pos,go_sem,eqV,plen,w1]
  case h =>
  have h20:=dv20 c e ts d a.length a.length s H (by omega) hd hH.toDbHp
  obtain ⟨t,ht⟩:∃ t,ts[a.length]? = some t:=⟨_,List.getElem?_eq_getElem (by omega)⟩
  have hF:∀ k,rvF d ts (k + 1) a.length a s = if bitB d (a.length + 2) = true then rvF d ts k (a.length + 1) (a ++ [({}:Va)]) s else rvF d ts k (a.length + 1) (a ++ [(vlF s t).1]) (vlF s t).2:=by
    intro k
    rw [rvF,if_neg (by simpa using he),tyI_at ht]
  cases hbt:bitB d (a.length + 2) with
  | true =>
    rw [hbt] at h20 hF
    obtain ⟨H3,hH3,h21⟩:=dv21 c e ts d a.length s a H (by omega) hH
    refine Tells.of (o:=⟨.normal,dvFr e ts d a.length (a.length + 1) [],H3⟩) ?_ ⟨rfl,a ++ [({}:Va)],s,fun k=>by rw [hF,if_pos rfl],by simp,hb,rfl,hH3⟩
    apply Run.block (hne:=by simp)
    apply Run.seq (piece (P:=fun cd=>Run X (evT X) _ 0 cd _ _ _) h20 _ rfl)
    refine condT (by simp [evalO,getF,dvFr]) ?_
    exact piece (P:=fun cd=>Run X (evT X) _ 0 cd _ _ _) h21 _ rfl
  | false =>
    rw [hbt] at h20 hF
    have hl:=vlF_len s t
    obtain ⟨H3,hH3,h22⟩:=dv22 c e ts d a.length t s a H (by omega) ht (h256 t (List.mem_of_getElem? ht)) hb hH
    refine Tells.of (o:=⟨.normal,dvFr e ts d a.length (a.length + 1) [],H3⟩) ?_ ⟨rfl,a ++ [(vlF s t).1],(vlF s t).2,fun k=>by rw [hF,if_neg (by simp)],by simp,by omega,rfl,hH3⟩
    apply Run.block (hne:=by simp)
    apply Run.seq (piece (P:=fun cd=>Run X (evT X) _ 0 cd _ _ _) h20 _ rfl)
    refine condF (by simp [evalO,getF,dvFr]) ?_
    exact piece (P:=fun cd=>Run X (evT X) _ 0 cd _ _ _) h22 _ rfl
theorem dv_loop (s0:St) (H:AM.Heap) (hn:ts.length≤4096) (hd:d.length≤1000) (hdl:ts.length + 2≤8 * d.length) (h256:∀ t ∈ ts,t.t < 256) (hb:s0.1.length≤90000000) (hH:DvHp c d H s0 []) :
    ∃ code,((Tryz.f10.body).bind (codeAt [1,1,1,1,1,1,1,1,1,0,1])) = some code∧Tells (Goes fun fr H'=>∃ i m,m = (rvF d ts ts.length 0 [] s0).1.length∧(rvF d ts ts.length 0 [] s0).2.1.length≤90000000∧fr = dvFr e ts d i m [(83,.bool false)]∧DvHp c d H' (rvF d ts ts.length 0 [] s0).2 (rvF d ts ts.length 0 [] s0).1) X (evT X) 10 0 code (dvFr e ts d 0 0 []) H:=by
  refine ⟨_,rfl,?_⟩
  apply Tells.block
  refine Tells.loopP (fun k fr H=>∃ a s,k = ts.length - a.length∧a.length≤ts.length∧s.1.length≤90000000∧fr = dvFr e ts d a.length a.length []∧DvHp c d H s a∧rvF d ts ts.length 0 [] s0 = rvF d ts (ts.length - a.length) a.length a s) ?_ (k:=ts.length) ⟨[],s0,by simp,by simp,hb,rfl,hH,by simp⟩
  rintro k fr H ⟨a,s,rfl,hi,hb',rfl,hH,hF⟩
  by_cases hgo:a.length < ts.length∧s.2 = 0
  · obtain ⟨hin,he⟩:=hgo
    have hs:ts.length - a.length = (ts.length - (a.length + 1)) + 1:=by omega
    refine (piece (dv_round c e ts d s a H hin hn hd hdl h256 he hb' hH) _ rfl).mono ?_
    rintro o ⟨h1,a',s',q1,q2,q3,q4,q5⟩
    exact .inl ⟨h1,ts.length - (a.length + 1),by omega,a',s',by omega,by omega,q3,by rw [q4,q2],q5,by rw [hF,hs,q1,q2]⟩
  · have hstop:rvF d ts ts.length 0 [] s0 = (a,s):=by
      rw [hF]
      by_cases hin:a.length = ts.length
      · rw [hin,Nat.sub_self];rfl
      · have he:s.2 ≠ 0:=fun h=>hgo ⟨by omega,h⟩
        rw [show ts.length - a.length = (ts.length - (a.length + 1)) + 1 by omega,rvF,if_pos he]
    have h18:=dv18 c e ts d a.length a.length s H hH.toDbHp
    rw [show (decide (a.length < ts.length) && decide (s.2 = 0)) = false by
      rw [← Bool.not_eq_true];intro h;simp only [Bool.and_eq_true,decide_eq_true_eq] at h;exact hgo h] at h18
    rw [hstop]
    refine Tells.of (o:=⟨.exit 4,dvFr e ts d a.length a.length [(83,.bool false)],H⟩) ?_ (.inr ⟨by simp,rfl,a.length,a.length,rfl,hb',rfl,hH⟩)
    apply Run.seq_out (hne:=by simp)
    apply Run.seq (piece (P:=fun cd=>Run X (evT X) _ 0 cd _ _ _) h18 _ rfl)
    exact condF (by simp [evalO,getF,dvFr]) ⟨0,rfl⟩
end
end Go.Proofs.YtafdnpcamepbmaaGreatDoor
namespace Go.Proofs.YtafdnpcamepbmaaGreatDoor
open Go.AM
section
variable (c:Nat)
theorem dt_tail (n i:Nat) (x:List Va × St) (H:AM.Heap) (hH:DtHp c H x.2 x.1) :
    ∃ code,((Tryz.f7.body).bind (codeAt [1,1,1,1,1])) = some code∧Tells (Rets (ytQ (dtZ x))) X (evT X) 7 0 code (dtFm n i x.1.length [(28,.bool false)]) H:=by
  refine ⟨_,rfl,?_⟩
  obtain ⟨a,s⟩:=x
  obtain ⟨⟨tg,htg,h1⟩,⟨ob,h2,hw⟩,hc⟩:=hH
  have hl2:=at_lt h2
  have hD:=doneF_ev (p:=.pb s.1) (l:=s.1) (e:=s.2) h1 (.inl rfl) (jtt htg)
  unfold dtZ
  simp only at hw ⊢
  generalize wr (decide (0 < s.1.length)) s.2 = e at *
  generalize hH2:upd H 1 (some (bxO (.pb s.1) c 1 1 e)) = H2 at *
  have g2:H2[2]? = some (some ob):=by rw [← hH2];exact at_ne h2 (by omega)
  have g1:H2[1]? = some (some ⟨.pc [.ro c (.pb s.1) 1,.int .i64 e],0,some 2,1,false,true,1⟩):=by rw [← hH2];exact at_set h1
  have hl1:=at_lt g2
  apply Tells.assoc
  apply Tells.seq (fr':=[(6,.ptr 1 0 0 0),(7,.sl 2 0 a.length a.length),(66,.bool (e != 0))]) (H':=H2)
  · unfold dtFm
    generalize a.length = m at *
    (refine ⟨0,?_⟩;simp (maxSteps:=2000000) -implicitDefEqProofs [-getElem?_pos,go_sem,eqV,plen,hD])
  by_cases he:e = 0
  · subst he
    rw [if_neg (by simp)]
    refine Tells.of (o:=⟨.ret,[(4,.sl 2 0 a.length a.length),(5,.int .i64 0)],H2⟩) ⟨0,?_⟩ ⟨rfl,2,a.length,ob,rfl,rfl,g2,hw⟩
    generalize a.length = m at *
    simp (maxSteps:=2000000) -implicitDefEqProofs [-getElem?_pos,go_sem,eqV,plen,assignV]
  · rw [if_pos he]
    have heb:(e != 0) = true:=by simpa using he
    rw [heb]
    have hnew:∀ x:Option AM.Obj,(H2 ++ [x])[H2.length]? = some x:=fun x=>by simp
    refine Tells.of (o:=⟨.ret,[(4,.sl H2.length 0 0 0),(5,.int .i64 e)],H2 ++ [some nilV]⟩) ?_ ⟨rfl,H2.length,0,nilV,rfl,rfl,hnew _,nilV_rw⟩
    apply Run.seq_out (hne:=by simp)
    refine condT (by simp [evalO,getF]) ?_
    apply Run.seq (fr':=[(4,.sl H2.length 0 0 0),(5,.int .i64 e)]) (H':=H2 ++ [some nilV])
    · apply Run.dy (by simp) keep7_15 (by simp)
      · (conv=>lhs;simp (maxSteps:=2000000) -implicitDefEqProofs [-getElem?_pos,go_sem,eqV,plen,runD,out1,markOf,freeO,quietO,pushes,isAssign,calledV,touched,mentioned,opVals,touchCall,mentionCall,idsAt,Op.operands,ids,idsL,lendArgs,lendV,lend1,lendL,eqH_self,g1,assignV,emV,retag])
      · refine marksOk_of (ps:=[(0,4),(1,4),(2,4),(3,4)]) (by kernel_rfl) ?_
        simp [bearP,bear]
        omega
      · rfl
    · exact ⟨0,rfl⟩
theorem drt_code (b:List UInt8) (n:Int) (hc:c = 0→b = []) (hb:b.length≤90000000):∃ code,Tryz.f7.body = some code ∧
    Tells (Rets (ytQ (drTxt b n))) X (evT X) 7 0 code [(0,.ro c (.pb b) 1),(1,.int .i64 n)] []:=by
  refine ⟨_,rfl,?_⟩
  apply Tells.seq (fr':=[(0,.ro c (.pb b) 1),(1,.int .i64 n)]) (H':=[some nilV])
  · (refine ⟨0,?_⟩;simp (maxSteps:=2000000) -implicitDefEqProofs [-getElem?_pos,go_sem,eqV,plen,assignV,emV])
  apply Tells.assoc
  by_cases h1:n < 0∨4096 < n
  · rw [show drTxt b n = ([],2) from if_pos h1]
    refine Tells.of (o:=⟨.ret,[(4,.sl 1 0 0 0),(5,.int .i64 2)],[some nilV,some nilV]⟩) ⟨0,?_⟩ ⟨rfl,1,0,nilV,rfl,rfl,rfl,nilV_rw⟩
    by_cases h2:n < 0
    · simp (maxSteps:=2000000) -implicitDefEqProofs [-getElem?_pos,go_sem,eqV,plen,assignV,emV,h2]
    · have h3:4096 < n:=by omega
      simp (maxSteps:=2000000) -implicitDefEqProofs [-getElem?_pos,go_sem,eqV,plen,assignV,emV,h2,h3]
  have h2:¬ n < 0:=by omega
  have h3:¬ 4096 < n:=by omega
  obtain ⟨m,rfl⟩:∃ m:Nat,n = (m:Nat):=⟨n.toNat,by omega⟩
  apply Tells.seq (fr':=[(0,.ro c (.pb b) 1),(1,.int .i64 (m:Nat)),(15,.bool false)]) (H':=[some nilV])
  · (refine ⟨0,?_⟩;simp (maxSteps:=2000000) -implicitDefEqProofs [-getElem?_pos,go_sem,eqV,plen,h2,h3])
  apply Tells.seq (fr':=[(0,.ro c (.pb b) 1),(1,.int .i64 (m:Nat)),(15,.bool false)]) (H':=[some nilV])
  · exact condF (by simp [evalO,getF]) ⟨0,rfl⟩
  have hbd:=bdF c 1 b
  apply Tells.seq (fr':=[(1,.int .i64 (m:Nat)),(6,.ptr 1 0 0 0)]) (H':=[some nilV,some (rdO c 1 0 (b,0))])
  · (refine ⟨0,?_⟩;simp (maxSteps:=2000000) -implicitDefEqProofs [-getElem?_pos,go_sem,eqV,plen,hbd,rdO,assignV,flatCells,splice,scalars,scalar])
  apply Tells.seq (fr':=[(1,.int .i64 (m:Nat)),(6,.ptr 1 0 0 0),(7,.sl 2 0 0 0)]) (H':=[some nilV,some (rdO c 1 0 (b,0)),some nilV])
  · generalize rdO c 1 0 (b,0) = x1 at *
    (refine ⟨0,?_⟩;simp (maxSteps:=2000000) -implicitDefEqProofs [-getElem?_pos,go_sem,eqV,plen,assignV,emV])
  apply Tells.assoc
  apply Tells.seq (fr':=dtFm m 0 0 []) (H':=[some nilV,some (rdO c 1 0 (b,0)),some nilV])
  · generalize rdO c 1 0 (b,0) = x1 at *
    (refine ⟨0,?_⟩;simp (maxSteps:=2000000) -implicitDefEqProofs [-getElem?_pos,go_sem,eqV,plen,dtFm])
  have hrd:drTxt b (m:Nat) = dtZ (dtF m [] (b,0)):=by unfold drTxt;rw [if_neg h1];rfl
  rw [hrd]
  apply Tells.andThen (piece (dt_loop c m b [some nilV,some (rdO c 1 0 (b,0)),some nilV] (by omega) hb ⟨⟨0,.inl rfl,rfl⟩,⟨nilV,rfl,nilV_rw⟩,hc⟩) _ rfl)
  rintro fr H ⟨i,k,rfl,_,rfl,hH⟩
  exact piece (dt_tail c m i _ H hH) _ rfl
end
theorem drt_ev {H:AM.Heap} {a:AV} {b:List UInt8} {n:Int} (h:Byt H a b) (hb:b.length≤90000000) :
    ∃ ob,Rw (.pr 12 ((drTxt b n).1.map Va.pay)) 0 ob∧evT X 7 [a,.int .i64 n] H = some (.tup [.sl H.length 0 (drTxt b n).1.length 0,.int .i64 (drTxt b n).2],H ++ [some ob]):=by
  obtain ⟨c,p,xl,hp,hc,hx'⟩:=args_byt (C:=X) (f:=7) (i:=0) rfl h (args_flat (i:=1) (a:=.int .i64 n) rfl rfl (args_nil 2))
  obtain ⟨code,hcode,hr⟩:=drt_code c b n hc hb
  have hid:=va_tags (drTxt b n).1
  obtain ⟨ob,q1,q2⟩:=Ev1.newR (H:=H) (n:=(drTxt b n).1.length) (es:=12) (l:=(drTxt b n).1.map Va.pay) (rest:=[.int .i64 (drTxt b n).2]) (evT_below X) Tryz.func7 hcode hx' (by simp [idsL,ids,hp.ids]) (by simp [gtag]) rfl rfl rfl hid.1 hid.2 (by
    obtain ⟨o,⟨he,o1,g1,ob,q1,q2,q4,q5⟩,hrun⟩:=hr
    exact ⟨o,⟨he,o1,g1,ob,by show some [getF o.fr 4,getF o.fr 5] = _;rw [q1,q2],q4,q5⟩,by rw [par7,coB hp];exact hrun⟩)
  exact ⟨ob,q1,evT_eq q2⟩
end Go.Proofs.YtafdnpcamepbmaaGreatDoor
namespace Go.Proofs.YtafdnpcamepbmaaGreatDoor
open Go.AM
def dbD (b:List UInt8) (ts:List Ty):List UInt8:=bts ((ts.length + 9) / 8) (zrS 1 (b,0))
def dbS (b:List UInt8) (ts:List Ty):St :=
  ((fx ((ts.length + 9) / 8) (zrS 1 (b,0))).2.1,wr ((List.range ts.length).any (nzB (dbD b ts) ts)) (wr (btF (dbD b ts) 2 ts.length) (fx ((ts.length + 9) / 8) (zrS 1 (b,0))).2.2))
def drBin (b:List UInt8) (ts:List Ty):List Va × Int :=
  if 4096 < ts.length then ([],3) else if ts.any noK = true then ([],2) else dtZ (rvF (dbD b ts) ts ts.length 0 [] (dbS b ts))
section
variable (c e:Nat) (ts:List Ty)
theorem db_tail (d:List UInt8) (i:Nat) (x:List Va × St) (H:AM.Heap) (hH:DvHp c d H x.2 x.1) :
    ∃ code,((Tryz.f10.body).bind (codeAt [1,1,1,1,1,1,1,1,1,1])) = some code∧Tells (Rets (ytQ (dtZ x))) X (evT X) 10 0 code (dvFr e ts d i x.1.length [(83,.bool false)]) H:=by
  refine ⟨_,rfl,?_⟩
  obtain ⟨a,s⟩:=x
  obtain ⟨⟨⟨tg,htg,h1⟩,_,hc⟩,ob,h2,hw⟩:=hH
  have hl2:=at_lt h2
  have hD:=doneF_ev (p:=.pb s.1) (l:=s.1) (e:=s.2) h1 (.inl rfl) (jtt htg)
  unfold dtZ
  simp only at hw ⊢
  generalize wr (decide (0 < s.1.length)) s.2 = er at *
  generalize hH2:upd H 1 (some (bxO (.pb s.1) c 1 1 er)) = H2 at *
  have g2:H2[3]? = some (some ob):=by rw [← hH2];exact at_ne h2 (by omega)
  have g1:H2[1]? = some (some ⟨.pc [.ro c (.pb s.1) 1,.int .i64 er],0,some 2,1,false,true,1⟩):=by rw [← hH2];exact at_set h1
  have hl1:=at_lt g2
  apply Tells.assoc
  apply Tells.seq (fr':=[(7,.ptr 1 0 0 0),(10,.sl 3 0 a.length a.length),(114,.bool (er != 0))]) (H':=H2)
  · unfold dvFr tyA
    generalize ts.map Ty.pay = T at *
    generalize a.length = m at *
    generalize d.length = dl at *
    (refine ⟨0,?_⟩;simp (maxSteps:=2000000) -implicitDefEqProofs [-getElem?_pos,go_sem,eqV,plen,hD])
  by_cases he:er = 0
  · subst he
    rw [if_neg (by simp)]
    refine Tells.of (o:=⟨.ret,[(4,.sl 3 0 a.length a.length),(5,.int .i64 0)],H2⟩) ⟨0,?_⟩ ⟨rfl,3,a.length,ob,rfl,rfl,g2,hw⟩
    generalize a.length = m at *
    simp (maxSteps:=2000000) -implicitDefEqProofs [-getElem?_pos,go_sem,eqV,plen,assignV]
  · rw [if_pos he]
    have heb:(er != 0) = true:=by simpa using he
    rw [heb]
    have hnew:∀ x:Option AM.Obj,(H2 ++ [x])[H2.length]? = some x:=fun x=>by simp
    refine Tells.of (o:=⟨.ret,[(4,.sl H2.length 0 0 0),(5,.int .i64 er)],H2 ++ [some nilV]⟩) ?_ ⟨rfl,H2.length,0,nilV,rfl,rfl,hnew _,nilV_rw⟩
    apply Run.seq_out (hne:=by simp)
    refine condT (by simp [evalO,getF]) ?_
    apply Run.seq (fr':=[(4,.sl H2.length 0 0 0),(5,.int .i64 er)]) (H':=H2 ++ [some nilV])
    · apply Run.dy (by simp) keep10_24 (by simp)
      · (conv=>lhs;simp (maxSteps:=2000000) -implicitDefEqProofs [-getElem?_pos,go_sem,eqV,plen,runD,out1,markOf,freeO,quietO,pushes,isAssign,calledV,touched,mentioned,opVals,touchCall,mentionCall,idsAt,Op.operands,ids,idsL,lendArgs,lendV,lend1,lendL,eqH_self,g1,assignV,emV,retag])
      · refine marksOk_of (ps:=[(0,4),(1,4),(2,4),(3,4)]) (by kernel_rfl) ?_
        simp [bearP,bear]
        omega
      · rfl
    · exact ⟨0,rfl⟩
theorem db_head (b:List UInt8) (hn:ts.length≤4096) (hc:c = 0→b = []) (hb:b.length≤90000000) (h256:∀ t ∈ ts,t.t < 256) :
    ∃ code,((Tryz.f10.body).bind (codeAt [1,1,1])) = some code∧Tells (Rets (ytQ (dtZ (rvF (dbD b ts) ts ts.length 0 [] (dbS b ts))))) X (evT X) 10 0 code (dkFr c e ts ts.length b ++ [(18,.bool false)]) [some nilV]:=by
  refine ⟨_,rfl,?_⟩
  have hbd:=bdF c 1 b
  have hTl:(ts.map Ty.pay).length = ts.length:=List.length_map _
  apply Tells.seq (fr':=[(1,tyA e ts),(7,.ptr 1 0 0 0)]) (H':=[some nilV,some (rdO c 1 0 (b,0))])
  · unfold dkFr
    generalize tyA e ts = A at *
    (refine ⟨0,?_⟩;simp (maxSteps:=2000000) -implicitDefEqProofs [-getElem?_pos,go_sem,eqV,plen,hbd,rdO,assignV,flatCells,splice,scalars,scalar])
  have hZ:=zeros_ev (H:=[some nilV,some (rdO c 1 0 (b,0))]) (o:=1) (c:=c) (t:=1) (tg:=0) (n:=1) (N:=1) (s:=(b,0)) rfl rfl (jt0 c _) hc (by omega)
  have hz1:(zrS 1 (b,0)).1.length≤b.length:=fx_len 1 (b,0)
  have hzc:c = 0→(zrS 1 (b,0)).1 = []:=fx_nilS (n:=1) (s:=(b,0)) hc
  have hS:dbS b ts = ((fx ((ts.length + 9) / 8) (zrS 1 (b,0))).2.1,wr ((List.range ts.length).any (nzB (dbD b ts) ts)) (wr (btF (dbD b ts) 2 ts.length) (fx ((ts.length + 9) / 8) (zrS 1 (b,0))).2.2)):=rfl
  have hDD:dbD b ts = bts ((ts.length + 9) / 8) (zrS 1 (b,0)):=rfl
  generalize zrS 1 (b,0) = s0 at *
  simp only [upd,List.set_cons_succ,List.set_cons_zero] at hZ
  apply Tells.seq (fr':=[(1,tyA e ts),(7,.ptr 1 0 0 0)]) (H':=[some nilV,some (rdO c 1 1 s0)])
  · generalize tyA e ts = A at *
    generalize rdO c 1 0 (b,0) = x0 at *
    generalize rdO c 1 1 s0 = x1 at *
    (refine ⟨0,?_⟩;simp (maxSteps:=2000000) -implicitDefEqProofs [-getElem?_pos,go_sem,eqV,plen,hZ])
  clear hZ
  have w9:IntKind.i64.wrap ((ts.length:Int) + 9) = ((ts.length + 9:Nat):Int):=by rw [wrap_i64 (by omega) (by omega)];omega
  have w8:IntKind.i64.wrap (Int.tdiv ((ts.length + 9:Nat):Int) 8) = (((ts.length + 9) / 8:Nat):Int):=by
    rw [Int.tdiv_eq_ediv_of_nonneg (by omega),wrap_i64 (by omega) (by omega)];omega
  have w8':IntKind.i64.wrap (((ts.length + 9:Nat):Int) / 8) = (((ts.length + 9) / 8:Nat):Int):=by
    rw [wrap_i64 (by omega) (by omega)];omega
  obtain ⟨ob2,hw2,hB⟩:=bytes_ev (H:=[some nilV,some (rdO c 1 1 s0)]) (o:=1) (c:=c) (t:=1) (tg:=1) (n:=(ts.length + 9) / 8) (N:=(((ts.length + 9) / 8:Nat):Int)) (s:=s0) rfl rfl (jt c 1 _) hzc (by omega)
  rw [← hDD] at hw2
  have hdl:(dbD b ts).length = (ts.length + 9) / 8:=by rw [hDD];exact bts_len _ _
  have hn1:=fx_nilS (n:=(ts.length + 9) / 8) (s:=s0) hzc
  have hl1:=fx_len ((ts.length + 9) / 8) s0
  clear hDD
  generalize hs1:(fx ((ts.length + 9) / 8) s0).2 = s1 at *
  generalize dbS b ts = sS at *
  generalize dbD b ts = d at *
  rw [show (AV.sl [some nilV,some (rdO c 1 1 s0)].length 0 ((ts.length + 9) / 8) 0) = .sl 2 0 d.length 0 by rw [hdl];rfl] at hB
  simp only [upd,List.set_cons_succ,List.set_cons_zero,List.cons_append,List.nil_append] at hB
  have hd1:d.length≤1000:=by omega
  have hd8:ts.length + 2≤8 * d.length:=by omega
  apply Tells.seq (fr':=[(1,tyA e ts),(7,.ptr 1 0 0 0),(8,.sl 2 0 d.length 0)]) (H':=[some nilV,some (rdO c 1 1 s1),some ob2])
  · unfold tyA
    generalize ts.map Ty.pay = T at *
    generalize d.length = dl at *
    generalize (ts.length + 9) / 8 = q at *
    generalize ts.length + 9 = m9 at *
    generalize rdO c 1 1 s0 = x0 at *
    generalize rdO c 1 1 s1 = x1 at *
    (refine ⟨0,?_⟩;simp (maxSteps:=2000000) -implicitDefEqProofs [-getElem?_pos,go_sem,eqV,plen,hTl,w9,w8,w8',hB,assignV])
  clear hB
  have hT:=bt_ev (H:=[some nilV,some (rdO c 1 1 s1),some ob2]) (a:=.sl 2 0 d.length 0) (b:=d) (at':=2) (n:=ts.length) (Byt.whole rfl hw2) (by omega) (by omega) (by omega)
  have hW:=wrong_ev (H:=[some nilV,some (rdO c 1 1 s1),some ob2]) (o:=1) (c:=c) (t:=1) (tg:=1) (k:=1) (p:=.pb s1.1) (l:=s1.1) (e:=s1.2) (bad:=btF d 2 ts.length) rfl (.inl rfl) (jt c 1 s1)
  simp only [upd,List.set_cons_succ,List.set_cons_zero,Int.cast_ofNat_Int] at hT hW
  rw [show bxO (.pb s1.1) c 1 1 (wr (btF d 2 ts.length) s1.2) = rdO c 1 1 (s1.1,wr (btF d 2 ts.length) s1.2) from rfl] at hW
  have hH0:DbHp c d [some nilV,some (rdO c 1 1 (s1.1,wr (btF d 2 ts.length) s1.2)),some ob2] (s1.1,wr (btF d 2 ts.length) s1.2):=⟨⟨1,.inr rfl,rfl⟩,⟨ob2,rfl,hw2⟩,hn1⟩
  apply Tells.seq (fr':=[(1,tyA e ts),(7,.ptr 1 0 0 0),(8,.sl 2 0 d.length 0)]) (H':=[some nilV,some (rdO c 1 1 (s1.1,wr (btF d 2 ts.length) s1.2)),some ob2])
  · unfold tyA
    generalize ts.map Ty.pay = T at *
    generalize rdO c 1 1 (s1.1,wr (btF d 2 ts.length) s1.2) = x2 at *
    generalize rdO c 1 1 s1 = x1 at *
    generalize btF d 2 ts.length = bt at *
    generalize d.length = dl at *
    (refine ⟨0,?_⟩;simp (maxSteps:=2000000) -implicitDefEqProofs [-getElem?_pos,go_sem,eqV,plen,hTl,hT,hW])
  clear hT hW
  have hH0l:([some nilV,some (rdO c 1 1 (s1.1,wr (btF d 2 ts.length) s1.2)),some ob2]:AM.Heap).length = 3:=rfl
  generalize ([some nilV,some (rdO c 1 1 (s1.1,wr (btF d 2 ts.length) s1.2)),some ob2]:AM.Heap) = H0 at *
  apply Tells.assoc
  apply Tells.seq (fr':=dzFr e ts d 0 []) (H':=H0)
  · unfold dzFr
    generalize tyA e ts = A at *
    generalize d.length = dl at *
    (refine ⟨0,?_⟩;simp (maxSteps:=2000000) -implicitDefEqProofs [-getElem?_pos,go_sem,eqV,plen])
  apply Tells.andThen (piece (dz_loop c e ts d _ H0 hn hd1 hd8 hH0) _ rfl)
  rintro fr H1 ⟨rfl,hlen,hH1⟩
  simp only at hH1
  rw [← hS] at hH1
  have hb1:sS.1.length≤90000000:=by rw [hS];simp only;omega
  rw [hH0l] at hlen
  clear hS hH0
  obtain ⟨⟨tg,htg,g1⟩,⟨ob,g2,hw⟩,hcS⟩:=hH1
  have hHV:DvHp c d (H1 ++ [some nilV]) sS []:=⟨⟨⟨tg,htg,at_cat g1⟩,⟨ob,at_cat g2,hw⟩,hcS⟩,nilV,by rw [← hlen];simp,nilV_rw⟩
  apply Tells.seq (fr':=[(1,tyA e ts),(7,.ptr 1 0 0 0),(8,.sl 2 0 d.length 0),(10,.sl 3 0 0 0)]) (H':=H1 ++ [some nilV])
  · unfold dzFr
    generalize tyA e ts = A at *
    generalize d.length = dl at *
    (refine ⟨0,?_⟩;simp (maxSteps:=2000000) -implicitDefEqProofs [-getElem?_pos,go_sem,eqV,plen,assignV,emV,hlen])
  generalize H1 ++ [some nilV] = H2 at *
  apply Tells.assoc
  apply Tells.seq (fr':=dvFr e ts d 0 0 []) (H':=H2)
  · unfold dvFr
    generalize tyA e ts = A at *
    generalize d.length = dl at *
    (refine ⟨0,?_⟩;simp (maxSteps:=2000000) -implicitDefEqProofs [-getElem?_pos,go_sem,eqV,plen])
  apply Tells.andThen (piece (dv_loop c e ts d sS H2 hn hd1 hd8 h256 hb1 hHV) _ rfl)
  rintro fr H3 ⟨i,m,rfl,_,rfl,hH3⟩
  exact piece (db_tail c e ts d i _ H3 hH3) _ rfl
theorem drb_code (b:List UInt8) (hc:c = 0→b = []) (hb:b.length≤90000000) (h256:∀ t ∈ ts,t.t < 256):∃ code,Tryz.f10.body = some code ∧
    Tells (Rets (ytQ (drBin b ts))) X (evT X) 10 0 code [(0,.ro c (.pb b) 1),(1,.ro e (.pr 2 (ts.map Ty.pay)) 2)] []:=by
  refine ⟨_,rfl,?_⟩
  have hTl:(ts.map Ty.pay).length = ts.length:=List.length_map _
  apply Tells.seq (fr':=[(0,.ro c (.pb b) 1),(1,tyA e ts)]) (H':=[some nilV])
  · unfold tyA
    generalize ts.map Ty.pay = T at *
    (refine ⟨0,?_⟩;simp (maxSteps:=2000000) -implicitDefEqProofs [-getElem?_pos,go_sem,eqV,plen,assignV,emV])
  by_cases h5:4096 < ts.length
  · rw [show drBin b ts = ([],3) by unfold drBin;rw [if_pos h5]]
    refine Tells.of (o:=⟨.ret,[(4,.sl 1 0 0 0),(5,.int .i64 3)],[some nilV,some nilV]⟩) ?_ ⟨rfl,1,0,nilV,rfl,rfl,rfl,nilV_rw⟩
    apply Run.seq_out (hne:=by simp)
    have h5i:(4096:Int) < (ts.length:Int):=by omega
    unfold tyA
    generalize ts.map Ty.pay = T at *
    refine ⟨0,?_⟩
    simp (maxSteps:=2000000) -implicitDefEqProofs [-getElem?_pos,go_sem,eqV,plen,assignV,emV,h5i,hTl]
  have h5i:¬ (4096:Int) < (ts.length:Int):=by omega
  apply Tells.seq (fr':=[(0,.ro c (.pb b) 1),(1,tyA e ts),(14,.bool false)]) (H':=[some nilV])
  · unfold tyA
    generalize ts.map Ty.pay = T at *
    (refine ⟨0,?_⟩;simp (maxSteps:=2000000) -implicitDefEqProofs [-getElem?_pos,go_sem,eqV,plen,h5i,hTl])
  apply Tells.assoc
  apply Tells.seq (fr':=dkFr c e ts 0 b) (H':=[some nilV])
  · unfold dkFr
    generalize tyA e ts = A at *
    (refine ⟨0,?_⟩;simp (maxSteps:=2000000) -implicitDefEqProofs [-getElem?_pos,go_sem,eqV,plen])
  apply Tells.or (P:=fun fr H'=>ts.any noK = false∧fr = dkFr c e ts ts.length b ++ [(18,.bool false)]∧H' = [some nilV])
  · refine (piece (dk_loop c e ts b [some nilV] (by omega) h256) _ rfl).mono ?_
    rintro out (h | ⟨q1,q2,q3,q4⟩)
    · exact .inl h
    · refine .inr ⟨q1,q2,?_⟩
      rw [show drBin b ts = ([],2) by unfold drBin;rw [if_neg h5,if_pos q3]]
      exact q4
  rintro fr H ⟨hk,rfl,rfl⟩
  rw [show drBin b ts = dtZ (rvF (dbD b ts) ts ts.length 0 [] (dbS b ts)) by unfold drBin;rw [if_neg h5,if_neg (by rw [hk];simp)]]
  exact piece (db_head c e ts b (by omega) hc hb h256) _ rfl
end
theorem drb_ev {H:AM.Heap} {a A:AV} {b:List UInt8} {ts:List Ty} (h:Byt H a b) (hA:RoT H A ts) (hb:b.length≤90000000) (h256:∀ t ∈ ts,t.t < 256) :
    ∃ ob,Rw (.pr 12 ((drBin b ts).1.map Va.pay)) 0 ob∧evT X 10 [a,A] H = some (.tup [.sl H.length 0 (drBin b ts).1.length 0,.int .i64 (drBin b ts).2],H ++ [some ob]):=by
  obtain ⟨e,pt,xt,hpt,he,hxt⟩:=args_t (f:=10) (i:=1) rfl hA (args_nil 2)
  obtain ⟨c,p,xl,hp,hc,hx'⟩:=args_byt (C:=X) (f:=10) (i:=0) rfl h hxt
  obtain ⟨code,hcode,hr⟩:=drb_code c e ts b hc hb h256
  have hid:=va_tags (drBin b ts).1
  obtain ⟨ob,q1,q2⟩:=Ev1.newR (H:=H) (n:=(drBin b ts).1.length) (es:=12) (l:=(drBin b ts).1.map Va.pay) (rest:=[.int .i64 (drBin b ts).2]) (evT_below X) Tryz.func10 hcode hx' (by simp [idsL,ids,hp.ids,hpt.ids]) (by simp [gtag]) rfl rfl rfl hid.1 hid.2 (by
    obtain ⟨o,⟨he,o1,g1,ob,q1,q2,q4,q5⟩,hrun⟩:=hr
    exact ⟨o,⟨he,o1,g1,ob,by show some [getF o.fr 4,getF o.fr 5] = _;rw [q1,q2],q4,q5⟩,by rw [par10,coB hp,coT hpt,coerce_nil];exact hrun⟩)
  exact ⟨ob,q1,evT_eq q2⟩
end Go.Proofs.YtafdnpcamepbmaaGreatDoor
namespace Go.Proofs.YtafdnpcamepbmaaGreatDoor
open Go.AM
theorem wr_bad {x:Bool} {e:Int} (h:e ≠ 0):wr x e = e:=by unfold wr;rw [if_neg (by simp [h])]
theorem dtZ_bad {a:List Va} {r:List UInt8} {e:Int} (h:e ≠ 0):dtZ (a,(r,e)) = ([],e):=by
  unfold dtZ
  simp only
  rw [wr_bad h,if_pos h]
theorem dtZ_end (a:List Va) (r:List UInt8):dtZ (a,(r,0)) = rwZ (a,r,0):=by
  unfold dtZ rwZ wr
  cases r <;> simp
theorem rwZ_bad {a:List Va} {r:List UInt8} {e:Int} (h:e ≠ 0):rwZ (a,r,e) = ([],e):=by
  unfold rwZ;rw [if_pos h]
theorem dtF_bad {a:List Va} {r:List UInt8} {e:Int} (h:e ≠ 0):∀ k,dtF k a (r,e) = (a,(r,e))
  | 0=>rfl
  | k + 1=>by rw [dtF,if_pos h]
theorem rvF_bad {d:List UInt8} {ts:List Ty} {a:List Va} {r:List UInt8} {e:Int} {i:Nat} (h:e ≠ 0):∀ k,rvF d ts k i a (r,e) = (a,(r,e))
  | 0=>rfl
  | k + 1=>by rw [rvF,if_pos h]
theorem dt_eq:∀ (k:Nat) (a:List Va) (r:List UInt8),dtZ (dtF k a (r,0)) = rwZ (rdTx k a r)
  | 0,a,r=>by rw [dtF,rdTx];exact dtZ_end a r
  | k + 1,a,r=>by
    rw [dtF,rdTx,if_neg (by simp)]
    by_cases h:r.head? = some 251
    · rw [if_pos h,if_pos h]
      cases r with
      | nil=>simp at h
      | cons y r' =>
        have e:(fx 1 (y :: r',0)).2 = (r',0):=by unfold fx;simp
        rw [e]
        exact dt_eq k _ _
    · rw [if_neg h,if_neg h]
      have e:rtF (r,0) = ((rdT r).1,r.drop (rdT r).2.1,(rdT r).2.2):=if_neg (by simp)
      rw [e]
      simp only
      by_cases h1:(rdT r).2.2 ≠ 0
      · rw [if_pos h1,wr_bad h1,dtF_bad h1,dtZ_bad h1,rwZ_bad h1]
      · rw [if_neg h1]
        have h2:(rdT r).2.2 = 0:=by simpa using h1
        rw [h2]
        by_cases h3:16777216 < (rdT r).1.length
        · rw [if_pos h3,decide_eq_true h3,show wr true 0 = 5 from rfl,dtF_bad (by decide),dtZ_bad (by decide),rwZ_bad (by decide)]
        · rw [if_neg h3,decide_eq_false h3,show wr false 0 = 0 from rfl]
          exact dt_eq k _ _
theorem drTxt_eq (b:List UInt8) (n:Int):drTxt b n = rdTxt b n:=by
  unfold drTxt rdTxt
  split
  · rfl
  · exact dt_eq _ _ _
theorem rvz_eq {d:List UInt8} {ts:List Ty}:∀ (k i:Nat) (a:List Va) (r:List UInt8),dtZ (rvF d ts k i a (r,0)) = rwZ (rbF (fun i=>bitB d (i + 2)) ts k i a r)
  | 0,i,a,r=>by rw [rvF,rbF];exact dtZ_end a r
  | k + 1,i,a,r=>by
    rw [rvF,rbF,if_neg (by simp)]
    by_cases h:bitB d (i + 2) = true
    · rw [if_pos h,if_pos h]
      exact rvz_eq k _ _ _
    · rw [if_neg h,if_neg h]
      have e:vlF (r,0) (tyI ts i) = ((rdV r (tyI ts i)).1,r.drop (rdV r (tyI ts i)).2.1,(rdV r (tyI ts i)).2.2):=if_neg (by simp)
      rw [e]
      simp only
      by_cases h1:(rdV r (tyI ts i)).2.2 ≠ 0
      · rw [if_pos h1,rvF_bad h1,dtZ_bad h1,rwZ_bad h1]
      · rw [if_neg h1]
        have h2:(rdV r (tyI ts i)).2.2 = 0:=by simpa using h1
        rw [h2]
        exact rvz_eq k _ _ _
theorem bt_bz (d:List UInt8) (n:Nat):btF d 2 n = (List.range (8 * d.length)).any (bzB d n):=by
  unfold btF
  congr 1
  funext i
  unfold btX bzB
  rw [Bool.and_comm,Nat.add_comm 2 n]
theorem drBin_eq (b:List UInt8) (ts:List Ty):drBin b ts = rdBin b ts:=by
  unfold drBin rdBin
  split
  · rfl
  by_cases hk:ts.any noK = true
  · rw [if_pos hk,if_pos (show (ts.any fun t=>decide (kindN t.t t.u < 0)) = true from hk)]
  rw [if_neg hk,if_neg (show ¬ (ts.any fun t=>decide (kindN t.t t.u < 0)) = true from hk)]
  have hS:dbS b ts = ((fx ((ts.length + 9) / 8) (zrS 1 (b,0))).2.1,wr ((List.range ts.length).any (nzB (dbD b ts) ts)) (wr (btF (dbD b ts) 2 ts.length) (fx ((ts.length + 9) / 8) (zrS 1 (b,0))).2.2)):=rfl
  cases b with
  | nil =>
    have hz:zrS 1 ([],0) = ([],4):=by rfl
    have hf:fx ((ts.length + 9) / 8) (([],4):St) = (0,([],4)):=if_pos (by decide)
    rw [hz,hf] at hS
    simp only [wr_bad (show (4:Int) ≠ 0 by decide)] at hS
    rw [hS,rvF_bad (by decide),dtZ_bad (by decide)]
  | cons y r =>
    simp only
    have hb1:bts 1 (y :: r,0) = [y]:=by unfold bts;simp
    have hf1:(fx 1 (y :: r,0)).2 = (r,0):=by unfold fx;simp
    have hz:zrS 1 (y :: r,0) = (r,wr (y != 0) 0):=by unfold zrS;rw [hb1,hf1];simp
    by_cases hy:y ≠ 0
    · rw [if_pos hy]
      have hyb:(y != 0) = true:=by simpa using hy
      rw [hyb,show wr true 0 = 5 from rfl] at hz
      have hf:fx ((ts.length + 9) / 8) ((r,5):St) = (0,(r,5)):=if_pos (show (5:Int) ≠ 0 by decide)
      rw [hz,hf] at hS
      simp only [wr_bad (show (5:Int) ≠ 0 by decide)] at hS
      rw [hS,rvF_bad (by decide),dtZ_bad (by decide)]
    · rw [if_neg hy]
      have hy0:y = 0:=by simpa using hy
      have hyb:(y != 0) = false:=by rw [hy0];rfl
      rw [hyb,show wr false 0 = 0 from rfl] at hz
      have hD:dbD (y :: r) ts = bts ((ts.length + 9) / 8) (r,0):=by unfold dbD;rw [hz]
      rw [hz] at hS
      generalize (ts.length + 9) / 8 = q at *
      by_cases hq:r.length < q
      · rw [if_pos hq]
        have hf:fx q ((r,0):St) = (0,(r,4)):=by unfold fx;rw [if_neg (by simp),if_pos hq]
        rw [hf] at hS
        simp only [wr_bad (show (4:Int) ≠ 0 by decide)] at hS
        rw [hS,rvF_bad (by decide),dtZ_bad (by decide)]
      · rw [if_neg hq]
        have hf:(fx q ((r,0):St)).2 = (r.drop q,0):=by unfold fx;rw [if_neg (by simp),if_neg hq]
        have hdd:bts q (r,0) = r.take q:=by unfold bts;rw [if_neg (by simp;omega)]
        rw [hf] at hS
        rw [hdd] at hD
        rw [hD] at hS ⊢
        rw [hS]
        simp only
        rw [bt_bz]
        unfold rdBm
        by_cases h1:(List.range (8 * (r.take q).length)).any (bzB (r.take q) ts.length) = true
        · rw [if_pos h1,h1,show wr true 0 = 5 from rfl,wr_bad (by decide),rvF_bad (by decide),dtZ_bad (by decide)]
        · have h1f:(List.range (8 * (r.take q).length)).any (bzB (r.take q) ts.length) = false:=by simpa using h1
          rw [if_neg h1,h1f,show wr false 0 = 0 from rfl]
          by_cases h2:(List.range ts.length).any (nzB (r.take q) ts) = true
          · rw [if_pos h2,h2,show wr true 0 = 5 from rfl,rvF_bad (by decide),dtZ_bad (by decide)]
          · have h2f:(List.range ts.length).any (nzB (r.take q) ts) = false:=by simpa using h2
            rw [if_neg h2,h2f,show wr false 0 = 0 from rfl]
            exact rvz_eq _ _ _ _
end Go.Proofs.YtafdnpcamepbmaaGreatDoor
namespace Go.Proofs.YtafdnpcamepbmaaGreatDoor
open Go.AM
def sumV (l:List Va):Nat:=(l.map fun v=>v.t.length).sum
section
variable (d t:Nat) (l:List Va) (e u:Nat) (ts:List Ty)
end
theorem sizeN_le (t:Nat):sizeN t≤8:=by
  unfold sizeN
  repeat' split
  all_goals omega
theorem aT_le (s:List UInt8):(aT s).length≤s.length + 9:=by
  unfold aT
  rw [List.length_append,aI_len]
  unfold szI
  repeat' split
  all_goals omega
end Go.Proofs.YtafdnpcamepbmaaGreatDoor
