/- X0 to Y6: texts of this claim, one behind the other; what each shows stands at its head. -/
import Derived.Test.YtafdnpcamepbmaaGreatDoorAm3
import Derived.Test.YtafdnpcamepbmaaGreatDoorMg5
set_option linter.unusedSimpArgs false
set_option linter.unusedVariables false
set_option maxRecDepth 100000
set_option maxHeartbeats 8000000
namespace Go.Proofs.YtafdnpcamepbmaaGreatDoor
open Go.AM
theorem va_tags:∀ l:List Va,idsL (l.map Va.pay) = []∧tagsL (l.map Va.pay) = []
  | []=>⟨rfl,rfl⟩
  | p :: l=>by simp [idsL,tagsL,va_tags l,Va.pay,ids,tags]
theorem ty_tags:∀ l:List Ty,idsL (l.map Ty.pay) = []∧tagsL (l.map Ty.pay) = []
  | []=>⟨rfl,rfl⟩
  | p :: l=>by simp [idsL,tagsL,ty_tags l,Ty.pay,ids,tags]
theorem emVa0:emptyRow X 41 = .pr 12 []:=by kernel_rfl
theorem undVs:und X 26 = .slice 41:=by kernel_rfl
theorem emTy0:emptyRow X 44 = .pr 2 []:=by kernel_rfl
theorem undTs:und X 23 = .slice 44:=by kernel_rfl
def PV (p:AV) (l:List Va):Prop:=p = .pr 12 (l.map Va.pay)∨(p = .pn∧l = [])
def PT (p:AV) (l:List Ty):Prop:=p = .pr 2 (l.map Ty.pay)∨(p = .pn∧l = [])
theorem PV.ids {p:AV} {l:List Va} (h:PV p l):AM.ids p = []:=by rcases h with rfl | ⟨rfl,_⟩ <;> simp [AM.ids,va_tags l]
theorem PT.ids {p:AV} {l:List Ty} (h:PT p l):AM.ids p = []:=by rcases h with rfl | ⟨rfl,_⟩ <;> simp [AM.ids,ty_tags l]
theorem coV {p:AV} {l:List Va} {c t:Nat} {r:List AV} {ts:List TypeId} (h:PV p l):coerce X (.ro c p t :: r) (26 :: ts) = .ro c (.pr 12 (l.map Va.pay)) t :: coerce X r ts:=by
  rcases h with rfl | ⟨rfl,rfl⟩ <;> simp [coerce,undVs,emVa0]
theorem coT {p:AV} {l:List Ty} {c t:Nat} {r:List AV} {ts:List TypeId} (h:PT p l):coerce X (.ro c p t :: r) (23 :: ts) = .ro c (.pr 2 (l.map Ty.pay)) t :: coerce X r ts:=by
  rcases h with rfl | ⟨rfl,rfl⟩ <;> simp [coerce,undTs,emTy0]
theorem coerce_nil:coerce X [] [] = []:=rfl
abbrev RoV (H:AM.Heap) (a:AV) (l:List Va):Prop:=RoRow H a 12 (l.map Va.pay)
abbrev RoT (H:AM.Heap) (a:AV) (l:List Ty):Prop:=RoRow H a 2 (l.map Ty.pay)
theorem args_v {f i:Nat} {H:AM.Heap} {a:AV} {l:List Va} {r ys:List AV} {xs:List Lent} (hrw:X.rw f i = false) (h:RoV H a l) (hr:lendArgs X f H (i + 1) r = some (ys,xs)) :
    ∃ c p x,PV p l∧(c = 0→l = [])∧lendArgs X f H i (a :: r) = some (.ro c p (i + 1) :: ys,x :: xs):=by
  obtain ⟨c,p,x,hp,hc,h⟩:=args_row hrw h hr
  refine ⟨c,p,x,?_,fun h=>List.map_eq_nil_iff.1 (hc h),h⟩
  rcases hp with h | ⟨h,h2⟩
  · exact .inl h
  · exact .inr ⟨h,List.map_eq_nil_iff.1 h2⟩
theorem args_t {f i:Nat} {H:AM.Heap} {a:AV} {l:List Ty} {r ys:List AV} {xs:List Lent} (hrw:X.rw f i = false) (h:RoT H a l) (hr:lendArgs X f H (i + 1) r = some (ys,xs)) :
    ∃ c p x,PT p l∧(c = 0→l = [])∧lendArgs X f H i (a :: r) = some (.ro c p (i + 1) :: ys,x :: xs):=by
  obtain ⟨c,p,x,hp,hc,h⟩:=args_row hrw h hr
  refine ⟨c,p,x,?_,fun h=>List.map_eq_nil_iff.1 (hc h),h⟩
  rcases hp with h | ⟨h,h2⟩
  · exact .inl h
  · exact .inr ⟨h,List.map_eq_nil_iff.1 h2⟩
theorem texts_ev (H:AM.Heap):evT X 35 [] H = some (.agg tyVS.pay,H):=by
  have h:=Ev1.tried (T:=fun _ _ _=>none) (C:=X) Below.none (n:=100) (f:=35) (args:=[]) (v:=.agg tyVS.pay) (N:=[]) (by kernel_rfl) H
  have e:shiftV H.length (.agg tyVS.pay) = .agg tyVS.pay:=ren_flat _ rfl (fun _ _=>rfl)
  rw [e] at h
  exact evT_eq (by simpa [shiftH] using h)
theorem plain_ev (H:AM.Heap):evT X 53 [] H = some (.agg tyVS.pay,H):=by
  have h:=Ev1.tried (T:=fun _ _ _=>none) (C:=X) Below.none (n:=100) (f:=53) (args:=[]) (v:=.agg tyVS.pay) (N:=[]) (by kernel_rfl) H
  have e:shiftV H.length (.agg tyVS.pay) = .agg tyVS.pay:=ren_flat _ rfl (fun _ _=>rfl)
  rw [e] at h
  exact evT_eq (by simpa [shiftH] using h)
def Va.okR (v:Va):Prop:=v.b < 18446744073709551616∧-9223372036854775808≤v.i∧v.i < 9223372036854775808
theorem txR_take {l:List Va} {i:Nat} {v:Va} (h:l[i]? = some v):txR (l.take (i + 1)) = txR (l.take i) ++ txV v:=take_cat txV h
theorem txR_le (l:List Va) (i:Nat):(txR (l.take i)).length≤(txR l).length:=by
  conv=>rhs;rw [← List.take_append_drop i l]
  unfold txR
  rw [List.flatMap_append,List.length_append]
  omega
end Go.Proofs.YtafdnpcamepbmaaGreatDoor
namespace Go.Proofs.YtafdnpcamepbmaaGreatDoor
open Go.AM
def nilV:AM.Obj:=⟨.pr 12 [],0,.none,0,true,false,0⟩
theorem nilV_rw:Rw (.pr 12 []) 0 nilV:=⟨rfl,rfl,rfl,rfl,rfl⟩
theorem emV:rowOf (emptyRow X 41) .none 0 = nilV:=by kernel_rfl
theorem noslVa:noSl X 6 41 = true:=by kernel_rfl
theorem bsVa (H:AM.Heap) (v:Va):buildSliceV X H 26 1 [(0,.agg v.pay)] = some (.ro 1 (.pr 12 [v.pay]) 0,H):=by
  obtain ⟨k,i,b,s,⟨neg,y,mo,d,h,mi,sc,us⟩⟩:=v
  kernel_rfl
theorem app_va {H:AM.Heap} {o i:Nat} {ob:AM.Obj} {a:List Va} (v:Va) (hi:a.length = i) (h9:i≤9000000) (h:H[o]? = some (some ob)) (hw:Rw (.pr 12 (a.map Va.pay)) i ob) :
    ∃ ob',Rw (.pr 12 ((a ++ [v]).map Va.pay)) (i + 1) ob'∧appendV X H 26 (.sl o 0 i i) (.ro 1 (.pr 12 [v.pay]) 0) = some (.sl o 0 (i + 1) (i + 1),upd H o (some ob')):=by
  have hlen:(a.map Va.pay).length = i:=by rw [List.length_map,hi]
  obtain ⟨ob',hw',hA⟩:=app_rows (C:=X) (T:=26) (e:=41) (es:=12) (H:=H) (o:=o) (m:=[v.pay]) (src:=.ro 1 (.pr 12 [v.pay]) 0) (by simp) (by simp) (by omega) (by simp) (by simp) h hw rfl (by rw [hlen];simp;omega)
  rw [hlen] at hA
  exact ⟨ob',by rw [List.map_append];exact hw',hA⟩
section
variable (c:Nat) (n:Nat)
def ytFr (i:Nat) (r:List UInt8):AM.Frame:=[(0,.ro c (.pb r) 1),(6,.sl 1 0 i i),(16,.int .i64 (n:Nat)),(17,.int .i64 (i:Nat))]
def ytHp (a:List Va) (H:AM.Heap):Prop:=∃ ob,H[1]? = some (some ob)∧Rw (.pr 12 (a.map Va.pay)) a.length ob
theorem yt_nil (r:List UInt8) (y:UInt8) (a:List Va) (H:AM.Heap) (ha:a.length≤9000000) (hc:c ≠ 0) (hH:ytHp a H) :
    ∃ H',ytHp (a ++ [({}:Va)]) H'∧H'.length = H.length∧∃ code,((Tryz.f6.body).bind (codeAt [1,1,1,0,1,0,0,1,1,0,0,0,1,0,0])) = some code∧Run X (evT X) 6 0 code (ytFr c n a.length (y :: r) ++ [(27,.bool true)]) H ⟨.normal,[(0,.ro c (.pb r) 1),(6,.sl 1 0 (a.length + 1) (a.length + 1)),(16,.int .i64 (n:Nat)),(17,.int .i64 (a.length:Nat))],H'⟩:=by
  obtain ⟨ob,h1,hw⟩:=hH
  obtain ⟨ob',hw',hA⟩:=app_va ({}:Va) rfl ha h1 hw
  have hlt:=at_lt h1
  refine ⟨upd H 1 (some ob'),⟨ob',at_set h1,by simpa using hw'⟩,by simp [upd],_,rfl,?_⟩
  have hbs:=fun H=>bsVa H ({}:Va)
  have hbv:=bvV0
  have hsl:=fun H=>slFrom (c:=c) (t:=1) (n:=1) (b:=y :: r) (fun h=>absurd h hc) (by simp) H
  simp only [List.drop_succ_cons,List.drop_zero,Int.cast_ofNat_Int] at hsl
  unfold ytFr
  have hwg:=hw.g
  have hwi:=hw.ids
  simp only [Va.pay,Int.cast_ofNat_Int] at hA hbs hbv
  generalize a.length = i at *
  apply Run.dy (by simp) keep6_7 (by simp)
  · (conv=>lhs;simp (maxSteps:=2000000) -implicitDefEqProofs [-getElem?_pos,go_sem,eqV,plen,runD,out1,markOf,freeO,quietO,pushes,isAssign,calledV,touched,mentioned,opVals,touchCall,mentionCall,idsAt,Op.operands,ids,idsL,lendArgs,lendV,lend1,lendL,eqH_self,hbv,hbs,hA,hsl,assignV,noslVa])
    rfl
  · refine marksOk_of (ps:=[(0,1),(0,2),(0,4),(1,4),(2,4),(3,4),(0,5),(1,5),(2,5),(3,5),(4,6),(5,6)]) (by kernel_rfl) ?_
    simp [bearP,bear,disjoint,lookOk]
  · rfl
theorem yt_val (r s:List UInt8) (k:Nat) (a:List Va) (H:AM.Heap) (ha:a.length≤9000000) (hc:c = 0→r = []) (hk:k≤r.length) (hH:ytHp a H) :
    ∃ H',ytHp (a ++ [({ k:=7,t:=s }:Va)]) H'∧H'.length = H.length∧∃ code,((Tryz.f6.body).bind (codeAt [1,1,1,0,1,0,0,1,1,0,0,1,1,1,1])) = some code∧Run X (evT X) 6 0 code [(0,.ro c (.pb r) 1),(6,.sl 1 0 a.length a.length),(7,.str s),(8,.int .i64 (k:Nat)),(16,.int .i64 (n:Nat)),(17,.int .i64 (a.length:Nat)),(45,.bool false)] H ⟨.normal,[(0,.ro c (.pb (r.drop k)) 1),(6,.sl 1 0 (a.length + 1) (a.length + 1)),(16,.int .i64 (n:Nat)),(17,.int .i64 (a.length:Nat))],H'⟩:=by
  obtain ⟨ob,h1,hw⟩:=hH
  obtain ⟨ob',hw',hA⟩:=app_va ({ k:=7,t:=s }:Va) rfl ha h1 hw
  have hlt:=at_lt h1
  refine ⟨upd H 1 (some ob'),⟨ob',at_set h1,by simpa using hw'⟩,by simp [upd],_,rfl,?_⟩
  have hbs:=fun H=>bsVa H ({ k:=7,t:=s }:Va)
  have hbv:=bvVt 7 s
  have hsl:=fun H=>slFrom (c:=c) (t:=1) (n:=k) (b:=r) hc hk H
  simp only [Va.pay,Int.cast_ofNat_Int] at hA hbs hbv
  generalize a.length = i at *
  apply Run.dy (by simp) keep6_13 (by simp)
  · (conv=>lhs;simp (maxSteps:=2000000) -implicitDefEqProofs [-getElem?_pos,go_sem,eqV,plen,runD,out1,markOf,freeO,quietO,pushes,isAssign,calledV,touched,mentioned,opVals,touchCall,mentionCall,idsAt,Op.operands,ids,idsL,lendArgs,lendV,lend1,lendL,eqH_self,hbv,hbs,hA,hsl,assignV,noslVa])
    rfl
  · refine marksOk_of (ps:=[(0,1),(0,2),(0,3),(0,5),(1,5),(2,5),(3,5),(4,5),(0,6),(1,6),(2,6),(3,6),(4,6),(5,6),(0,7),(1,7),(2,7),(3,7),(4,7),(5,8),(6,8),(7,8)]) (by kernel_rfl) ?_
    simp [bearP,bear,disjoint,lookOk]
  · rfl
def ytQ (x:List Va × Int) (fr:AM.Frame) (H:AM.Heap):Prop:=∃ o g ob,getF fr 4 = .sl o 0 x.1.length g∧getF fr 5 = .int .i64 x.2∧H[o]? = some (some ob)∧Rw (.pr 12 (x.1.map Va.pay)) g ob
theorem yt_round (r:List UInt8) (a:List Va) (H:AM.Heap) (ha:a.length≤9000000) (hc:c = 0→r = []) (hr:r.length≤90000000) (hH:ytHp a H) :
    ∃ code,((Tryz.f6.body).bind (codeAt [1,1,1,0,1,0,0,1,1,0])) = some code ∧
      Tells (Or2 (fun fr H'=>∃ r' v,fr = [(0,.ro c (.pb r') 1),(6,.sl 1 0 (a.length + 1) (a.length + 1)),(16,.int .i64 (n:Nat)),(17,.int .i64 (a.length:Nat))]∧r'.length≤r.length∧(∀ k,rdTx (k + 1) a r = rdTx k (a ++ [v]) r')∧ytHp (a ++ [v]) H') (fun out=>out.ex = .ret∧∃ e,e ≠ 0∧(∀ k,rdTx (k + 1) a r = ([],[],e))∧ytQ ([],e) out.fr out.H))
       X (evT X) 6 0 code (ytFr c n a.length r ++ [(18,.bool true)]) H:=by
  refine ⟨_,rfl,?_⟩
  have hnew:∀ x:Option AM.Obj,(H ++ [x])[H.length]? = some x:=fun x=>by simp
  by_cases hh:r.head? = some 251
  · obtain ⟨r',rfl⟩:∃ r',r = 251 :: r':=by
      cases r with
      | nil=>simp at hh
      | cons y r'=>simp at hh;subst hh;exact ⟨r',rfl⟩
    obtain ⟨H',hH',hl,hc1⟩:=yt_nil c n r' 251 a H ha (fun h=>by have:=hc h;simp at this) hH
    refine Tells.of (o:=⟨.normal,[(0,.ro c (.pb r') 1),(6,.sl 1 0 (a.length + 1) (a.length + 1)),(16,.int .i64 (n:Nat)),(17,.int .i64 (a.length:Nat))],H'⟩) ?_ (.inl ⟨rfl,r',{},rfl,by simp,fun k=>by rw [rdTx,if_pos hh];rfl,hH'⟩)
    apply Run.block_exit (id:=1)
    apply Run.seq_out (hne:=by simp)
    apply Run.seq (fr':=ytFr c n a.length (251 :: r') ++ [(27,.bool true)]) (H':=H)
    · unfold ytFr
      generalize a.length = i at *
      have hp:(0:Int) < ((r'.length + 1:Nat):Int):=by omega
      have hp2:(0:Int) < (r'.length:Int) + 1:=by omega
      (refine ⟨0,?_⟩;simp (maxSteps:=2000000) -implicitDefEqProofs [-getElem?_pos,go_sem,eqV,plen,hp,hp2])
    refine condT (by simp [evalO,getF,ytFr]) ?_
    apply Run.seq (piece hc1 _ rfl)
    exact ⟨0,rfl⟩
  have hR:=readText_ev (H:=H) (a:=.ro c (.pb r) 1) (b:=r) (Byt.ro (.inl rfl) hc) hr
  have hX:∀ j,rdTx (j + 1) a r = if (rdT r).2.2 ≠ 0 then ([],[],(rdT r).2.2) else if 16777216 < (rdT r).1.length then ([],[],5) else rdTx j (a ++ [{ k:=7,t:=(rdT r).1 }]) (r.drop (rdT r).2.1):=fun j=>by rw [rdTx,if_neg hh]
  have hle:=fun h=>rdT_le (b:=r) h
  obtain ⟨s,k,e,hT⟩:∃ s k e,rdT r = (s,k,e):=⟨_,_,_,rfl⟩
  rw [hT] at hR hX hle
  simp only at hR hX hle
  refine Tells.blkOr ?_ ?_
  · apply Tells.seq (fr':=ytFr c n a.length r ++ [(27,.bool false)]) (H':=H)
    · apply Run.seq (fr':=ytFr c n a.length r ++ [(27,.bool false)]) (H':=H)
      · unfold ytFr
        generalize a.length = i at *
        cases r with
        | nil=>(refine ⟨0,?_⟩;simp (maxSteps:=2000000) -implicitDefEqProofs [-getElem?_pos,go_sem,eqV,plen])
        | cons y r' =>
          have hy:((y.toNat:Int) == 251) = false:=by
            apply beq_eq_false_iff_ne.2
            intro h
            apply hh
            have:y = 251:=UInt8.toNat.inj (by show y.toNat = 251;omega)
            rw [this];rfl
          have hp:(0:Int) < ((r'.length + 1:Nat):Int):=by omega
          have hp2:(0:Int) < (r'.length:Int) + 1:=by omega
          (refine ⟨0,?_⟩;simp (maxSteps:=2000000) -implicitDefEqProofs [-getElem?_pos,go_sem,eqV,plen,hp,hp2,hy])
      · exact condF (by simp [evalO,getF,ytFr]) ⟨0,rfl⟩
    apply Tells.seq (fr':=[(0,.ro c (.pb r) 1),(6,.sl 1 0 a.length a.length),(7,.str s),(8,.int .i64 (k:Nat)),(9,.int .i64 e),(16,.int .i64 (n:Nat)),(17,.int .i64 (a.length:Nat))]) (H':=H)
    · unfold ytFr
      generalize a.length = i at *
      (refine ⟨0,?_⟩;simp (maxSteps:=2000000) -implicitDefEqProofs [-getElem?_pos,go_sem,eqV,plen,hR,assignV])
    by_cases he:e = 0
    · subst he
      obtain ⟨hl1,hl2⟩:=hle rfl
      apply Tells.seq (fr':=[(0,.ro c (.pb r) 1),(6,.sl 1 0 a.length a.length),(7,.str s),(8,.int .i64 (k:Nat)),(9,.int .i64 0),(16,.int .i64 (n:Nat)),(17,.int .i64 (a.length:Nat)),(41,.bool false)]) (H':=H)
      · apply Run.seq (fr':=[(0,.ro c (.pb r) 1),(6,.sl 1 0 a.length a.length),(7,.str s),(8,.int .i64 (k:Nat)),(9,.int .i64 0),(16,.int .i64 (n:Nat)),(17,.int .i64 (a.length:Nat)),(41,.bool false)]) (H':=H)
        · generalize a.length = i at *
          (refine ⟨0,?_⟩;simp (maxSteps:=2000000) -implicitDefEqProofs [-getElem?_pos,go_sem,eqV,plen])
        · exact condF (by simp [evalO,getF]) ⟨0,rfl⟩
      by_cases hl:16777216 < s.length
      · have hlI:(16777216:Int) < (s.length:Int):=by omega
        refine Tells.of (o:=⟨.ret,[(4,.sl H.length 0 0 0),(5,.int .i64 5)],H ++ [some nilV]⟩) ?_ (.inr ⟨by simp,rfl,5,by decide,fun j=>by rw [hX,if_neg (by simp),if_pos hl],H.length,0,nilV,rfl,rfl,by simp,nilV_rw⟩)
        apply Run.seq_out (hne:=by simp)
        generalize a.length = i at *
        refine ⟨0,?_⟩
        simp (maxSteps:=2000000) -implicitDefEqProofs [-getElem?_pos,go_sem,eqV,plen,hlI,assignV,emV]
      · have hlI:¬ (16777216:Int) < (s.length:Int):=by omega
        apply Tells.seq (fr':=[(0,.ro c (.pb r) 1),(6,.sl 1 0 a.length a.length),(7,.str s),(8,.int .i64 (k:Nat)),(16,.int .i64 (n:Nat)),(17,.int .i64 (a.length:Nat)),(45,.bool false)]) (H':=H)
        · apply Run.seq (fr':=[(0,.ro c (.pb r) 1),(6,.sl 1 0 a.length a.length),(7,.str s),(8,.int .i64 (k:Nat)),(16,.int .i64 (n:Nat)),(17,.int .i64 (a.length:Nat)),(45,.bool false)]) (H':=H)
          · generalize a.length = i at *
            (refine ⟨0,?_⟩;simp (maxSteps:=2000000) -implicitDefEqProofs [-getElem?_pos,go_sem,eqV,plen,hlI])
          · exact condF (by simp [evalO,getF]) ⟨0,rfl⟩
        obtain ⟨H',hH',hlen,hc1⟩:=yt_val c n r s k a H ha hc hl1 hH
        exact Tells.of (piece hc1 _ rfl) (.inl ⟨rfl,r.drop k,_,rfl,by simp,fun j=>by rw [hX,if_neg (by simp),if_neg hl],hH'⟩)
    · have heb:(e != 0) = true:=by simpa using he
      refine Tells.of (o:=⟨.ret,[(4,.sl H.length 0 0 0),(5,.int .i64 e)],H ++ [some nilV]⟩) ?_ (.inr ⟨by simp,rfl,e,he,fun j=>by rw [hX,if_pos he],H.length,0,nilV,rfl,rfl,by simp,nilV_rw⟩)
      apply Run.seq_out (hne:=by simp)
      generalize a.length = i at *
      refine ⟨0,?_⟩
      simp (maxSteps:=2000000) -implicitDefEqProofs [-getElem?_pos,go_sem,eqV,plen,heb,assignV,emV]
  · rintro o ⟨h1,_⟩
    rw [h1];simp
end
end Go.Proofs.YtafdnpcamepbmaaGreatDoor
namespace Go.Proofs.YtafdnpcamepbmaaGreatDoor
open Go.AM
section
variable (c:Nat)
theorem yt_loop (n:Nat) (b:List UInt8) (H:AM.Heap) (hn:n≤4096) (hc:c = 0→b = []) (hb:b.length≤90000000) (hH:ytHp [] H) :
    ∃ code,((Tryz.f6.body).bind (codeAt [1,1,1,0,1])) = some code ∧
      Tells (Or2 (fun fr H=>∃ a r,a.length = n∧fr = ytFr c n n r ++ [(18,.bool false)]∧rdTx n [] b = (a,r,0)∧ytHp a H) (fun out=>out.ex = .ret∧∃ e,e ≠ 0∧rdTx n [] b = ([],[],e)∧ytQ ([],e) out.fr out.H))
       X (evT X) 6 0 code (ytFr c n 0 b) H:=by
  refine ⟨_,rfl,?_⟩
  apply Tells.blockOr
  refine Tells.loopP (fun k fr H=>∃ a r,k = n - a.length∧a.length≤n∧fr = ytFr c n a.length r∧r.length≤b.length∧rdTx n [] b = rdTx (n - a.length) a r∧ytHp a H) ?_ (k:=n) ⟨[],b,by simp,by simp,rfl,by simp,by simp,hH⟩
  rintro k fr H ⟨a,r,rfl,ha,rfl,hr,hX,hH⟩
  by_cases hin:a.length = n
  · refine Tells.of (o:=⟨.exit 0,ytFr c n n r ++ [(18,.bool false)],H⟩) ⟨0,?_⟩ (.inr ⟨by simp,.inl ⟨rfl,a,r,hin,rfl,by rw [hX,hin,Nat.sub_self];rfl,hH⟩⟩)
    rw [hin]
    simp (maxSteps:=2000000) -implicitDefEqProofs [-getElem?_pos,go_sem,eqV,plen,ytFr]
  have hiI:((a.length:Nat):Int) < (n:Int):=by omega
  apply Tells.seq (fr':=ytFr c n a.length r ++ [(18,.bool true)]) (H':=H)
  · unfold ytFr
    generalize a.length = i at *
    (refine ⟨0,?_⟩;simp (maxSteps:=2000000) -implicitDefEqProofs [-getElem?_pos,go_sem,eqV,plen,hiI])
  apply Tells.seq (fr':=ytFr c n a.length r ++ [(18,.bool true)]) (H':=H)
  · refine condT (by simp [evalO,getF,ytFr]) ?_
    exact ⟨0,rfl⟩
  have hs:n - a.length = (n - (a.length + 1)) + 1:=by omega
  apply Tells.or (P:=fun fr H'=>∃ r' v,fr = [(0,.ro c (.pb r') 1),(6,.sl 1 0 (a.length + 1) (a.length + 1)),(16,.int .i64 (n:Nat)),(17,.int .i64 (a.length:Nat))]∧r'.length≤r.length∧(∀ k,rdTx (k + 1) a r = rdTx k (a ++ [v]) r')∧ytHp (a ++ [v]) H')
  · refine (piece (yt_round c n r a H (by omega) (fun h=>List.eq_nil_of_length_eq_zero (by have:=hc h;subst this;simpa using hr)) (by omega) hH) _ rfl).mono ?_
    rintro o (h | ⟨h1,h2,e,he,h3,h4⟩)
    · exact .inl h
    · exact .inr ⟨h1,.inr ⟨h1,.inr ⟨h2,h2,e,he,by rw [hX,hs,h3],h4⟩⟩⟩
  rintro fr H' ⟨r',v,rfl,h1,h2,h3⟩
  have w1:IntKind.i64.wrap (((a.length:Nat):Int) + 1) = ((a.length + 1:Nat):Int):=by rw [wrap_i64 (by omega) (by omega)];omega
  refine Tells.of (o:=⟨.normal,ytFr c n (a.length + 1) r',H'⟩) ⟨0,?_⟩ (.inl ⟨rfl,n - (a.length + 1),by omega,a ++ [v],r',by simp,by simp;omega,by simp,by omega,by rw [hX,hs,h2];simp,h3⟩)
  unfold ytFr
  generalize a.length = i at *
  simp (maxSteps:=2000000) -implicitDefEqProofs [-getElem?_pos,go_sem,eqV,plen,w1]
theorem trd_code (b:List UInt8) (n:Int) (hc:c = 0→b = []) (hb:b.length≤90000000):∃ code,Tryz.f6.body = some code ∧
    Tells (Rets (ytQ (rdTxt b n))) X (evT X) 6 0 code [(0,.ro c (.pb b) 1),(1,.int .i64 n)] []:=by
  refine ⟨_,rfl,?_⟩
  apply Tells.seq (fr':=[(0,.ro c (.pb b) 1),(1,.int .i64 n)]) (H':=[some nilV])
  · (refine ⟨0,?_⟩;simp (maxSteps:=2000000) -implicitDefEqProofs [-getElem?_pos,go_sem,eqV,plen,assignV,emV])
  by_cases h1:n < 0∨4096 < n
  · rw [show rdTxt b n = ([],2) from if_pos h1]
    refine Tells.of (o:=⟨.ret,[(4,.sl 1 0 0 0),(5,.int .i64 2)],[some nilV,some nilV]⟩) ?_ ⟨rfl,1,0,nilV,rfl,rfl,rfl,nilV_rw⟩
    apply Run.seq_out (hne:=by simp)
    refine ⟨0,?_⟩
    by_cases h2:n < 0
    · simp (maxSteps:=2000000) -implicitDefEqProofs [-getElem?_pos,go_sem,eqV,plen,assignV,emV,h2]
    · have h3:4096 < n:=by omega
      simp (maxSteps:=2000000) -implicitDefEqProofs [-getElem?_pos,go_sem,eqV,plen,assignV,emV,h2,h3]
  have h2:¬ n < 0:=by omega
  have h3:¬ 4096 < n:=by omega
  obtain ⟨m,rfl⟩:∃ m:Nat,n = (m:Nat):=⟨n.toNat,by omega⟩
  apply Tells.seq (fr':=[(0,.ro c (.pb b) 1),(1,.int .i64 (m:Nat)),(15,.bool false)]) (H':=[some nilV])
  · (refine ⟨0,?_⟩;simp (maxSteps:=2000000) -implicitDefEqProofs [-getElem?_pos,go_sem,eqV,plen,h2,h3])
  apply Tells.seq (fr':=[(0,.ro c (.pb b) 1),(1,.int .i64 (m:Nat)),(6,.sl 1 0 0 0)]) (H':=[some nilV,some nilV])
  · (refine ⟨0,?_⟩;simp (maxSteps:=2000000) -implicitDefEqProofs [-getElem?_pos,go_sem,eqV,plen,assignV,emV])
  apply Tells.assoc
  apply Tells.seq (fr':=ytFr c m 0 b) (H':=[some nilV,some nilV])
  · (refine ⟨0,?_⟩;simp (maxSteps:=2000000) -implicitDefEqProofs [-getElem?_pos,go_sem,eqV,plen,ytFr])
  have hrd:rdTxt b (m:Nat) = rwZ (rdTx m [] b):=by unfold rdTxt;rw [if_neg h1];rfl
  rw [hrd]
  apply Tells.or (P:=fun fr H=>∃ a r,a.length = m∧fr = ytFr c m m r ++ [(18,.bool false)]∧rdTx m [] b = (a,r,0)∧ytHp a H)
  · refine (piece (yt_loop c m b [some nilV,some nilV] (by omega) hc hb ⟨nilV,rfl,nilV_rw⟩) _ rfl).mono ?_
    rintro out (h | ⟨q1,q2,e,he,q3,q4⟩)
    · exact .inl h
    · refine .inr ⟨q1,q2,?_⟩
      rw [q3,show rwZ ([],[],e) = ([],e) by unfold rwZ;rw [if_pos he]]
      exact q4
  rintro fr H ⟨a,r,ha,rfl,hX,ob,ho,hw⟩
  rw [hX]
  cases r with
  | cons y r =>
    have hp:(0:Int) < ((r.length + 1:Nat):Int):=by omega
    have hp2:(0:Int) < (r.length:Int) + 1:=by omega
    rw [show rwZ (a,y :: r,0) = ([],5) by unfold rwZ;simp]
    refine Tells.of (o:=⟨.ret,[(4,.sl H.length 0 0 0),(5,.int .i64 5)],H ++ [some nilV]⟩) ?_ ⟨rfl,H.length,0,nilV,rfl,rfl,by simp,nilV_rw⟩
    apply Run.seq_out (hne:=by simp)
    refine ⟨0,?_⟩
    simp (maxSteps:=2000000) -implicitDefEqProofs [-getElem?_pos,go_sem,eqV,plen,ytFr,hp,hp2,assignV,emV]
  | nil =>
    rw [show rwZ (a,[],0) = (a,0) by unfold rwZ;simp]
    refine Tells.of (o:=⟨.ret,[(4,.sl 1 0 m m),(5,.int .i64 0)],H⟩) ⟨0,?_⟩ ⟨rfl,1,m,ob,by simp [getF,ha],rfl,ho,by rw [← ha];exact hw⟩
    simp (maxSteps:=2000000) -implicitDefEqProofs [-getElem?_pos,go_sem,eqV,plen,ytFr,assignV]
end
theorem trd_ev {H:AM.Heap} {a:AV} {b:List UInt8} {n:Int} (h:Byt H a b) (hb:b.length≤90000000) :
    ∃ ob,Rw (.pr 12 ((rdTxt b n).1.map Va.pay)) 0 ob∧evT X 6 [a,.int .i64 n] H = some (.tup [.sl H.length 0 (rdTxt b n).1.length 0,.int .i64 (rdTxt b n).2],H ++ [some ob]):=by
  obtain ⟨c,p,xl,hp,hc,hx'⟩:=args_byt (C:=X) (f:=6) (i:=0) rfl h (args_flat (i:=1) (a:=.int .i64 n) rfl rfl (args_nil 2))
  obtain ⟨code,hcode,hr⟩:=trd_code c b n hc hb
  have hid:=va_tags (rdTxt b n).1
  obtain ⟨ob,q1,q2⟩:=Ev1.newR (H:=H) (n:=(rdTxt b n).1.length) (es:=12) (l:=(rdTxt b n).1.map Va.pay) (rest:=[.int .i64 (rdTxt b n).2]) (evT_below X) Tryz.func6 hcode hx' (by simp [idsL,ids,hp.ids]) (by simp [gtag]) rfl rfl rfl hid.1 hid.2 (by
    obtain ⟨o,⟨he,o1,g1,ob,q1,q2,q4,q5⟩,hrun⟩:=hr
    exact ⟨o,⟨he,o1,g1,ob,by show some [getF o.fr 4,getF o.fr 5] = _;rw [q1,q2],q4,q5⟩,by rw [par6,coB hp];exact hrun⟩)
  exact ⟨ob,q1,evT_eq q2⟩
end Go.Proofs.YtafdnpcamepbmaaGreatDoor
namespace Go.Proofs.YtafdnpcamepbmaaGreatDoor
open Go.AM
def dtF:Nat→List Va→St→List Va × St
  | 0,a,s=>(a,s)
  | k + 1,a,s=>if s.2 ≠ 0 then (a,s) else if s.1.head? = some 251 then dtF k (a ++ [{}]) (fx 1 s).2
    else dtF k (a ++ [{ k:=7,t:=(rtF s).1 }]) ((rtF s).2.1,wr (decide (16777216 < (rtF s).1.length)) (rtF s).2.2)
theorem jtt {c tg:Nat} {s:St} (h:tg = 0∨tg = 1):joinTags (tagsOb (rdO c 1 tg s)) = some 1:=by
  rcases h with rfl | rfl <;> simp [tagsOb,rdO,tags,tagsL,joinTags,joinTag]
theorem fx_nilS {c n:Nat} {s:St} (h:c = 0→s.1 = []):c = 0→(fx n s).2.1 = []:=by
  intro hc
  have:=fx_len n s
  rw [h hc] at this
  exact List.eq_nil_of_length_eq_zero (by simpa using this)
structure DtHp (c:Nat) (H:AM.Heap) (s:St) (a:List Va):Prop where
  h1:∃ tg,(tg = 0∨tg = 1)∧H[1]? = some (some (rdO c 1 tg s))
  h2:∃ ob,H[2]? = some (some ob)∧Rw (.pr 12 (a.map Va.pay)) a.length ob
  hc:c = 0→s.1 = []
theorem DtHp.to {c:Nat} {H:AM.Heap} {s s':St} {a:List Va} (h:DtHp c H s a) (hc:c = 0→s'.1 = []):DtHp c (upd H 1 (some (rdO c 1 1 s'))) s' a:=by
  obtain ⟨⟨tg,_,h1⟩,⟨ob,h2,h3⟩,_⟩:=h
  exact ⟨⟨1,.inr rfl,at_set h1⟩,⟨ob,at_ne h2 (by omega),h3⟩,hc⟩
theorem DtHp.put {c:Nat} {H:AM.Heap} {s:St} {a a':List Va} {ob':AM.Obj} (h:DtHp c H s a) (hw:Rw (.pr 12 (a'.map Va.pay)) a'.length ob'):DtHp c (upd H 2 (some ob')) s a':=by
  obtain ⟨⟨tg,ht,h1⟩,⟨ob,h2,h3⟩,hc⟩:=h
  exact ⟨⟨tg,ht,at_ne h1 (by omega)⟩,⟨ob',at_set h2,hw⟩,hc⟩
section
variable (c:Nat) (n:Nat)
def dtFm (i m:Nat) (tl:AM.Frame):AM.Frame:=[(1,.int .i64 (n:Nat)),(6,.ptr 1 0 0 0),(7,.sl 2 0 m m),(8,.int .i64 (i:Nat))] ++ tl
theorem dt6 (i m:Nat) (s:St) (a:List Va) (H:AM.Heap) (hH:DtHp c H s a) :
    ∃ code,((Tryz.f7.body).bind (codeAt [1,1,1,1,0,1,0,0,0,0])) = some code∧Run X (evT X) 7 0 code (dtFm n i m []) H ⟨.normal,dtFm n i m [(28,.bool (decide (i < n) && decide (s.2 = 0)))],H⟩:=by
  refine ⟨_,rfl,?_⟩
  obtain ⟨⟨tg,ht,h1⟩,_,_⟩:=hH
  obtain ⟨b,e⟩:=s
  unfold rdO at h1
  unfold dtFm
  by_cases hi:i < n
  · have hiI:(i:Int) < (n:Int):=by omega
    by_cases he:e = 0
    · subst he
      rcases ht with rfl | rfl
      · (refine ⟨0,?_⟩;simp (maxSteps:=2000000) -implicitDefEqProofs [-getElem?_pos,go_sem,eqV,plen,hi,hiI,h1,retag])
      · (refine ⟨0,?_⟩;simp (maxSteps:=2000000) -implicitDefEqProofs [-getElem?_pos,go_sem,eqV,plen,hi,hiI,h1,retag])
    · have heb:(e == 0) = false:=by simpa using he
      rcases ht with rfl | rfl
      · (refine ⟨0,?_⟩;simp (maxSteps:=2000000) -implicitDefEqProofs [-getElem?_pos,go_sem,eqV,plen,hi,hiI,h1,he,heb,retag])
      · (refine ⟨0,?_⟩;simp (maxSteps:=2000000) -implicitDefEqProofs [-getElem?_pos,go_sem,eqV,plen,hi,hiI,h1,he,heb,retag])
  · have hiI:¬ (i:Int) < (n:Int):=by omega
    (refine ⟨0,?_⟩;simp (maxSteps:=2000000) -implicitDefEqProofs [-getElem?_pos,go_sem,eqV,plen,hi,hiI])
theorem dt8 (i m:Nat) (s:St) (a:List Va) (H:AM.Heap) (hH:DtHp c H s a) :
    ∃ code,((Tryz.f7.body).bind (codeAt [1,1,1,1,0,1,0,0,1,0,0,0,0])) = some code∧Run X (evT X) 7 0 code (dtFm n i m [(28,.bool true)]) H ⟨.normal,dtFm n i m [(45,.bool (decide (s.1.head? = some 251)))],H⟩:=by
  refine ⟨_,rfl,?_⟩
  obtain ⟨⟨tg,ht,h1⟩,_,_⟩:=hH
  obtain ⟨b,e⟩:=s
  unfold rdO at h1
  unfold dtFm
  cases b with
  | nil =>
    rcases ht with rfl | rfl
    · (refine ⟨0,?_⟩;simp (maxSteps:=2000000) -implicitDefEqProofs [-getElem?_pos,go_sem,eqV,plen,h1,retag,joinTag])
    · (refine ⟨0,?_⟩;simp (maxSteps:=2000000) -implicitDefEqProofs [-getElem?_pos,go_sem,eqV,plen,h1,retag,joinTag])
  | cons y r =>
    have hp:(0:Int) < ((r.length + 1:Nat):Int):=by omega
    have hp2:(0:Int) < (r.length:Int) + 1:=by omega
    by_cases hy:y = 251
    · subst hy
      rcases ht with rfl | rfl
      · (refine ⟨0,?_⟩;simp (maxSteps:=2000000) -implicitDefEqProofs [-getElem?_pos,go_sem,eqV,plen,h1,hp,hp2,retag,joinTag])
      · (refine ⟨0,?_⟩;simp (maxSteps:=2000000) -implicitDefEqProofs [-getElem?_pos,go_sem,eqV,plen,h1,hp,hp2,retag,joinTag])
    · have hyb:((y.toNat:Int) == 251) = false:=by
        apply beq_eq_false_iff_ne.2
        intro h
        apply hy
        exact UInt8.toNat.inj (by show y.toNat = 251;omega)
      rcases ht with rfl | rfl
      · (refine ⟨0,?_⟩;simp (maxSteps:=2000000) -implicitDefEqProofs [-getElem?_pos,go_sem,eqV,plen,h1,hp,hp2,hy,hyb,retag,joinTag])
      · (refine ⟨0,?_⟩;simp (maxSteps:=2000000) -implicitDefEqProofs [-getElem?_pos,go_sem,eqV,plen,h1,hp,hp2,hy,hyb,retag,joinTag])
theorem dt9 (i m:Nat) (s:St) (a:List Va) (H:AM.Heap) (hH:DtHp c H s a) :
    ∃ code,((Tryz.f7.body).bind (codeAt [1,1,1,1,0,1,0,0,1,0,0,0,1,0,0])) = some code∧Run X (evT X) 7 0 code (dtFm n i m [(45,.bool true)]) H ⟨.normal,dtFm n i m [],upd H 1 (some (rdO c 1 1 (fx 1 s).2))⟩:=by
  refine ⟨_,rfl,?_⟩
  obtain ⟨⟨tg,ht,h1⟩,_,hc⟩:=hH
  have hB:=byteF_ev h1 (jtt ht) hc
  unfold dtFm
  generalize upd H 1 (some (rdO c 1 1 (fx 1 s).2)) = H2 at *
  (refine ⟨0,?_⟩;simp (maxSteps:=2000000) -implicitDefEqProofs [-getElem?_pos,go_sem,eqV,plen,hB])
theorem dt10 (i:Nat) (s:St) (a:List Va) (H:AM.Heap) (ha:a.length≤9000000) (hH:DtHp c H s a) :
    ∃ H',DtHp c H' s (a ++ [({}:Va)])∧∃ code,((Tryz.f7.body).bind (codeAt [1,1,1,1,0,1,0,0,1,0,0,0,1,0,1,0])) = some code∧Run X (evT X) 7 0 code (dtFm n i a.length []) H ⟨.normal,dtFm n i (a.length + 1) [],H'⟩:=by
  obtain ⟨ob,h2,hw⟩:=hH.h2
  obtain ⟨ob',hw',hA⟩:=app_va ({}:Va) rfl ha h2 hw
  refine ⟨upd H 2 (some ob'),hH.put (by simpa using hw'),_,rfl,?_⟩
  have hbs:=fun H=>bsVa H ({}:Va)
  have hbv:=bvV0
  simp only [Va.pay,Int.cast_ofNat_Int] at hA hbs hbv
  unfold dtFm
  generalize upd H 2 (some ob') = H2 at *
  generalize a.length = m at *
  (refine ⟨0,?_⟩;simp (maxSteps:=2000000) -implicitDefEqProofs [-getElem?_pos,go_sem,eqV,plen,hbv,hbs,hA,assignV])
theorem dt11 (i m:Nat) (s:St) (a:List Va) (H:AM.Heap) (hb:s.1.length≤90000000) (hH:DtHp c H s a) :
    ∃ code,((Tryz.f7.body).bind (codeAt [1,1,1,1,0,1,0,0,1,0,0,1,0])) = some code∧Run X (evT X) 7 0 code (dtFm n i m [(45,.bool false)]) H ⟨.normal,dtFm n i m [(9,.str (rtF s).1)],upd H 1 (some (rdO c 1 1 (rtF s).2))⟩:=by
  refine ⟨_,rfl,?_⟩
  obtain ⟨⟨tg,ht,h1⟩,_,hc⟩:=hH
  have hB:=ftext_ev h1 (jtt ht) hc hb
  unfold dtFm
  generalize upd H 1 (some (rdO c 1 1 (rtF s).2)) = H2 at *
  (refine ⟨0,?_⟩;simp (maxSteps:=2000000) -implicitDefEqProofs [-getElem?_pos,go_sem,eqV,plen,hB])
theorem dt12 (i m:Nat) (x:List UInt8) (s:St) (a:List Va) (H:AM.Heap) (hH:DtHp c H s a) :
    ∃ code,((Tryz.f7.body).bind (codeAt [1,1,1,1,0,1,0,0,1,0,0,1,1,0])) = some code∧Run X (evT X) 7 0 code (dtFm n i m [(9,.str x)]) H ⟨.normal,dtFm n i m [(9,.str x)],upd H 1 (some (rdO c 1 1 (s.1,wr (decide (16777216 < x.length)) s.2)))⟩:=by
  refine ⟨_,rfl,?_⟩
  obtain ⟨⟨tg,ht,h1⟩,_,hc⟩:=hH
  have hW:=wrong_ev (p:=.pb s.1) (l:=s.1) (e:=s.2) (bad:=decide (16777216 < x.length)) h1 (.inl rfl) (jtt ht)
  have q:(decide ((16777216:Int) < (x.length:Int))) = decide (16777216 < x.length):=by
    by_cases h:16777216 < x.length
    · rw [decide_eq_true h,decide_eq_true (by omega)]
    · rw [decide_eq_false h,decide_eq_false (by omega)]
  rw [show bxO (.pb s.1) c 1 1 (wr (decide (16777216 < x.length)) s.2) = rdO c 1 1 (s.1,wr (decide (16777216 < x.length)) s.2) from rfl] at hW
  unfold dtFm
  generalize upd H 1 (some (rdO c 1 1 (s.1,wr (decide (16777216 < x.length)) s.2))) = H2 at *
  by_cases h:16777216 < x.length
  · have hI:(16777216:Int) < (x.length:Int):=by omega
    rw [decide_eq_true h] at hW
    (refine ⟨0,?_⟩;simp (maxSteps:=2000000) -implicitDefEqProofs [-getElem?_pos,go_sem,eqV,plen,hI,hW])
  · have hI:¬ (16777216:Int) < (x.length:Int):=by omega
    rw [decide_eq_false h] at hW
    (refine ⟨0,?_⟩;simp (maxSteps:=2000000) -implicitDefEqProofs [-getElem?_pos,go_sem,eqV,plen,hI,hW])
theorem dt13 (i:Nat) (x:List UInt8) (s:St) (a:List Va) (H:AM.Heap) (ha:a.length≤9000000) (hH:DtHp c H s a) :
    ∃ H',DtHp c H' s (a ++ [({ k:=7,t:=x }:Va)])∧∃ code,((Tryz.f7.body).bind (codeAt [1,1,1,1,0,1,0,0,1,0,0,1,1,1])) = some code∧Run X (evT X) 7 0 code (dtFm n i a.length [(9,.str x)]) H ⟨.normal,dtFm n i (a.length + 1) [],H'⟩:=by
  obtain ⟨ob,h2,hw⟩:=hH.h2
  obtain ⟨ob',hw',hA⟩:=app_va ({ k:=7,t:=x }:Va) rfl ha h2 hw
  refine ⟨upd H 2 (some ob'),hH.put (by simpa using hw'),_,rfl,?_⟩
  have hbs:=fun H=>bsVa H ({ k:=7,t:=x }:Va)
  have hbv:=bvVt 7 x
  simp only [Va.pay,Int.cast_ofNat_Int] at hA hbs hbv
  unfold dtFm
  generalize upd H 2 (some ob') = H2 at *
  generalize a.length = m at *
  (refine ⟨0,?_⟩;simp (maxSteps:=2000000) -implicitDefEqProofs [-getElem?_pos,go_sem,eqV,plen,hbv,hbs,hA,assignV])
end
end Go.Proofs.YtafdnpcamepbmaaGreatDoor
namespace Go.Proofs.YtafdnpcamepbmaaGreatDoor
open Go.AM
def dtZ (x:List Va × St):List Va × Int:=if wr (decide (0 < x.2.1.length)) x.2.2 ≠ 0 then ([],wr (decide (0 < x.2.1.length)) x.2.2) else (x.1,0)
def drTxt (b:List UInt8) (n:Int):List Va × Int:=if n < 0∨4096 < n then ([],2) else dtZ (dtF n.toNat [] (b,0))
section
variable (c:Nat) (n:Nat)
theorem dt_round (s:St) (a:List Va) (H:AM.Heap) (hin:a.length < n) (hn:n≤4096) (he:s.2 = 0) (hb:s.1.length≤90000000) (hH:DtHp c H s a) :
    ∃ code,((Tryz.f7.body).bind (codeAt [1,1,1,1,0,1,0,0])) = some code∧Tells (Goes fun fr H'=>∃ a' s',(∀ k,dtF (k + 1) a s = dtF k a' s')∧a'.length = a.length + 1∧s'.1.length≤90000000∧fr = dtFm n (a.length + 1) (a.length + 1) []∧DtHp c H' s' a') X (evT X) 7 0 code (dtFm n a.length a.length []) H:=by
  refine ⟨_,rfl,?_⟩
  have h6:=dt6 c n a.length a.length s a H hH
  rw [decide_eq_true hin,decide_eq_true he] at h6
  have w1:IntKind.i64.wrap ((a.length:Int) + 1) = ((a.length + 1:Nat):Int):=by rw [wrap_i64 (by omega) (by omega)];omega
  apply Tells.assoc
  apply Tells.seq (piece (P:=fun cd=>Run X (evT X) _ 0 cd _ _ _) h6 _ rfl)
  apply Tells.seq (fr':=dtFm n a.length a.length [(28,.bool true)]) (H':=H)
  · exact condT (by simp [evalO,getF,dtFm]) ⟨0,rfl⟩
  apply Tells.andThen (P:=fun fr H'=>∃ a' s',(∀ k,dtF (k + 1) a s = dtF k a' s')∧a'.length = a.length + 1∧s'.1.length≤90000000∧fr = dtFm n a.length (a.length + 1) []∧DtHp c H' s' a')
  case h' =>
    rintro fr H' ⟨a',s',q1,q2,q3,rfl,q4⟩
    refine Tells.of (o:=⟨.normal,dtFm n (a.length + 1) (a.length + 1) [],H'⟩) ⟨0,?_⟩ ⟨rfl,a',s',q1,q2,q3,rfl,q4⟩
    unfold dtFm
    generalize a.length = m at *
    simp (maxSteps:=2000000) -implicitDefEqProofs [-getElem?_pos,go_sem,eqV,plen,w1]
  case h =>
  have h8:=dt8 c n a.length a.length s a H hH
  have hF:∀ k,dtF (k + 1) a s = if s.1.head? = some 251 then dtF k (a ++ [({}:Va)]) (fx 1 s).2 else dtF k (a ++ [({ k:=7,t:=(rtF s).1 }:Va)]) ((rtF s).2.1,wr (decide (16777216 < (rtF s).1.length)) (rtF s).2.2):=by
    intro k
    rw [dtF,if_neg (by simpa using he)]
  by_cases h251:s.1.head? = some 251
  · rw [decide_eq_true h251] at h8
    have h9:=dt9 c n a.length a.length s a H hH
    have hl:=fx_len 1 s
    have hH2:=hH.to (s':=(fx 1 s).2) (fx_nilS hH.hc)
    obtain ⟨H3,hH3,h10⟩:=dt10 c n a.length (fx 1 s).2 a _ (by omega) hH2
    refine Tells.of (o:=⟨.normal,dtFm n a.length (a.length + 1) [],H3⟩) ?_ ⟨rfl,a ++ [({}:Va)],(fx 1 s).2,fun k=>by rw [hF,if_pos h251],by simp,by omega,rfl,hH3⟩
    apply Run.block_exit (id:=1)
    apply Run.seq_out (hne:=by simp)
    apply Run.seq (piece (P:=fun cd=>Run X (evT X) _ 0 cd _ _ _) h8 _ rfl)
    refine condT (by simp [evalO,getF,dtFm]) ?_
    apply Run.seq (piece (P:=fun cd=>Run X (evT X) _ 0 cd _ _ _) h9 _ rfl)
    apply Run.seq (piece (P:=fun cd=>Run X (evT X) _ 0 cd _ _ _) h10 _ rfl)
    exact ⟨0,rfl⟩
  · rw [decide_eq_false h251] at h8
    have h11:=dt11 c n a.length a.length s a H hb hH
    have hl:=rtF_len s
    have hH2:=hH.to (s':=(rtF s).2) (rtF_nil hH.hc)
    have h12:=dt12 c n a.length a.length (rtF s).1 (rtF s).2 a _ hH2
    have hH3:=hH2.to (s':=((rtF s).2.1,wr (decide (16777216 < (rtF s).1.length)) (rtF s).2.2)) (rtF_nil hH.hc)
    obtain ⟨H4,hH4,h13⟩:=dt13 c n a.length (rtF s).1 _ a _ (by omega) hH3
    refine Tells.of (o:=⟨.normal,dtFm n a.length (a.length + 1) [],H4⟩) ?_ ⟨rfl,a ++ [({ k:=7,t:=(rtF s).1 }:Va)],((rtF s).2.1,wr (decide (16777216 < (rtF s).1.length)) (rtF s).2.2),fun k=>by rw [hF,if_neg h251],by simp,by simp only;omega,rfl,hH4⟩
    apply Run.block (hne:=by simp)
    apply Run.seq (fr':=dtFm n a.length a.length [(45,.bool false)]) (H':=H)
    · apply Run.seq (piece (P:=fun cd=>Run X (evT X) _ 0 cd _ _ _) h8 _ rfl)
      exact condF (by simp [evalO,getF,dtFm]) ⟨0,rfl⟩
    apply Run.seq (piece (P:=fun cd=>Run X (evT X) _ 0 cd _ _ _) h11 _ rfl)
    apply Run.seq (piece (P:=fun cd=>Run X (evT X) _ 0 cd _ _ _) h12 _ rfl)
    exact piece (P:=fun cd=>Run X (evT X) _ 0 cd _ _ _) h13 _ rfl
theorem dt_loop (b:List UInt8) (H:AM.Heap) (hn:n≤4096) (hb:b.length≤90000000) (hH:DtHp c H (b,0) []) :
    ∃ code,((Tryz.f7.body).bind (codeAt [1,1,1,1,0,1])) = some code∧Tells (Goes fun fr H'=>∃ i m,m = (dtF n [] (b,0)).1.length∧(dtF n [] (b,0)).2.1.length≤90000000∧fr = dtFm n i m [(28,.bool false)]∧DtHp c H' (dtF n [] (b,0)).2 (dtF n [] (b,0)).1) X (evT X) 7 0 code (dtFm n 0 0 []) H:=by
  refine ⟨_,rfl,?_⟩
  apply Tells.block
  refine Tells.loopP (fun k fr H=>∃ a s,k = n - a.length∧a.length≤n∧s.1.length≤90000000∧fr = dtFm n a.length a.length []∧DtHp c H s a∧dtF n [] (b,0) = dtF (n - a.length) a s) ?_ (k:=n) ⟨[],(b,0),by simp,by simp,hb,rfl,hH,by simp⟩
  rintro k fr H ⟨a,s,rfl,hi,hb',rfl,hH,hF⟩
  by_cases hgo:a.length < n∧s.2 = 0
  · obtain ⟨hin,he⟩:=hgo
    have hs:n - a.length = (n - (a.length + 1)) + 1:=by omega
    refine (piece (dt_round c n s a H hin hn he hb' hH) _ rfl).mono ?_
    rintro o ⟨h1,a',s',q1,q2,q3,q4,q5⟩
    exact .inl ⟨h1,n - (a.length + 1),by omega,a',s',by omega,by omega,q3,by rw [q4,q2],q5,by rw [hF,hs,q1,q2]⟩
  · have hstop:dtF n [] (b,0) = (a,s):=by
      rw [hF]
      by_cases hin:a.length = n
      · rw [hin,Nat.sub_self];rfl
      · have he:s.2 ≠ 0:=fun h=>hgo ⟨by omega,h⟩
        rw [show n - a.length = (n - (a.length + 1)) + 1 by omega,dtF,if_pos he]
    have h6:=dt6 c n a.length a.length s a H hH
    rw [show (decide (a.length < n) && decide (s.2 = 0)) = false by
      rw [← Bool.not_eq_true];intro h;simp only [Bool.and_eq_true,decide_eq_true_eq] at h;exact hgo h] at h6
    rw [hstop]
    refine Tells.of (o:=⟨.exit 0,dtFm n a.length a.length [(28,.bool false)],H⟩) ?_ (.inr ⟨by simp,rfl,a.length,a.length,rfl,hb',rfl,hH⟩)
    apply Run.seq_out (hne:=by simp)
    apply Run.seq (piece (P:=fun cd=>Run X (evT X) _ 0 cd _ _ _) h6 _ rfl)
    exact condF (by simp [evalO,getF,dtFm]) ⟨0,rfl⟩
end
end Go.Proofs.YtafdnpcamepbmaaGreatDoor
namespace Go.Proofs.YtafdnpcamepbmaaGreatDoor
open Go.AM
def btX (b:List UInt8) (at' n i:Nat):Bool:=(decide (i < at') || decide (at' + n≤i)) && bitB b i
def btF (b:List UInt8) (at' n:Nat):Bool:=(List.range (8 * b.length)).any (btX b at' n)
section
variable (c:Nat) (b:List UInt8) (at' n:Nat)
def btFr (i:Nat):AM.Frame:=[(0,.ro c (.pb b) 1),(1,.int .i64 (at':Nat)),(2,.int .i64 (n:Nat)),(7,.int .i64 (i:Nat))]
theorem bt_round (i:Nat) (ha:at'≤100) (hn:n≤70000) (hb:b.length≤1000000) (hi:i < 8 * b.length) :
    ∃ code,((Tryz.f29.body).bind (codeAt [1,0,1,0,0])) = some code ∧
    Tells (fun o=>(btX b at' n i = false∧o.ex = .normal∧o.fr = btFr c b at' n (i + 1)∧o.H = [])∨(btX b at' n i = true∧o.ex = .ret∧getF o.fr 6 = .bool true)) X (evT X) 29 0 code (btFr c b at' n i) []:=by
  refine ⟨_,rfl,?_⟩
  have w8:IntKind.i64.wrap (8 * (b.length:Int)) = ((8 * b.length:Nat):Int):=by rw [wrap_i64 (by omega) (by omega)];omega
  have w1:IntKind.i64.wrap ((i:Int) + 1) = ((i + 1:Nat):Int):=by rw [wrap_i64 (by omega) (by omega)];omega
  have wn:IntKind.i64.wrap ((at':Int) + (n:Int)) = ((at' + n:Nat):Int):=by rw [wrap_i64 (by omega) (by omega)];omega
  have hiI:(i:Int) < ((8 * b.length:Nat):Int):=by omega
  obtain ⟨y,hy⟩:∃ y,b[i / 8]? = some y:=⟨_,List.getElem?_eq_getElem (by omega)⟩
  have hbit:bitB b i = ((y.toNat / 2 ^ (i % 8)) % 2 == 1):=by unfold bitB;rw [List.getD,hy];rfl
  have e1:Int.tdiv (i:Int) 8 = ((i / 8:Nat):Int):=by rw [Int.tdiv_eq_ediv_of_nonneg (by omega)];omega
  have e2:Int.tmod (i:Int) 8 = ((i % 8:Nat):Int):=by rw [Int.tmod_eq_emod_of_nonneg (by omega)];omega
  have e3:(i:Int) / 8 = ((i / 8:Nat):Int):=by omega
  have e4:(i:Int) % 8 = ((i % 8:Nat):Int):=by omega
  have wq:IntKind.i64.wrap ((i / 8:Nat):Int) = ((i / 8:Nat):Int):=wrap_i64 (by omega) (by omega)
  have wr8:IntKind.i64.wrap ((i % 8:Nat):Int) = ((i % 8:Nat):Int):=wrap_i64 (by omega) (by omega)
  have wu8:IntKind.u64.wrap ((i % 8:Nat):Int) = ((i % 8:Nat):Int):=wrap_u64 (by omega) (by omega)
  have hii:((i / 8:Nat):Int) < (b.length:Int):=by omega
  have hin:i / 8 < b.length:=by omega
  have hr0:¬ ((i % 8:Nat):Int) < 0:=by omega
  have hsh:=shr8 (y:=y.toNat) (j:=i % 8) (Nat.mod_lt _ (by omega))
  have han:=and1 (y:=y.toNat) (j:=i % 8) y.toNat_lt
  have heq:∀ z:Nat,((z:Int) == 1) = (z == 1):=by
    intro z
    by_cases h:z = 1
    · subst h;rfl
    · have:(z == 1) = false:=by simpa using h
      rw [this];exact beq_eq_false_iff_ne.2 (by omega)
  have hX:btX b at' n i = ((decide (i < at') || decide (at' + n≤i)) && bitB b i):=rfl
  have hlt1:(i:Int) < (at':Int) ↔ i < at':=by omega
  have hlt2:((at' + n:Nat):Int)≤(i:Int) ↔ at' + n≤i:=by omega
  rw [hbit] at hX
  rw [hX]
  generalize i / 8 = q at *
  generalize i % 8 = r at *
  generalize y.toNat / 2 ^ r = d at *
  have han2:=han
  simp only [go_sem] at han2
  simp only [BitVec.toNat_and] at han
  have hq:=heq (d % 2)
  generalize hdd:(d % 2 == 1) = z at *
  generalize d % 2 = dd at *
  generalize 8 * b.length = m8 at *
  by_cases h1:i < at'
  · have h1I:(i:Int) < (at':Int):=by omega
    rw [decide_eq_true h1]
    cases z with
    | true =>
      refine Tells.of (o:=⟨.ret,[(6,.bool true)],[]⟩) ⟨0,?_⟩ (.inr ⟨rfl,rfl,rfl⟩)
      simp (maxSteps:=2000000) -implicitDefEqProofs [-getElem?_pos,go_sem,eqV,plen,btFr,w8,hiI,h1I,e1,e2,e3,e4,wq,wr8,wu8,hii,hin,hy,hr0,hsh,han,han2,hq,show IntKind.u8.bits = 8 from rfl]
    | false =>
      refine Tells.of (o:=⟨.normal,_,[]⟩) ⟨0,?_⟩ (.inl ⟨rfl,rfl,rfl,rfl⟩)
      simp (maxSteps:=2000000) -implicitDefEqProofs [-getElem?_pos,go_sem,eqV,plen,btFr,w1,w8,hiI,h1I,e1,e2,e3,e4,wq,wr8,wu8,hii,hin,hy,hr0,hsh,han,han2,hq,show IntKind.u8.bits = 8 from rfl]
  have h1I:¬ (i:Int) < (at':Int):=by omega
  rw [decide_eq_false h1]
  by_cases h2:at' + n≤i
  · have h2I:((at' + n:Nat):Int)≤(i:Int):=by omega
    rw [decide_eq_true h2]
    generalize at' + n = an at *
    cases z with
    | true =>
      refine Tells.of (o:=⟨.ret,[(6,.bool true)],[]⟩) ⟨0,?_⟩ (.inr ⟨rfl,rfl,rfl⟩)
      simp (maxSteps:=2000000) -implicitDefEqProofs [-getElem?_pos,go_sem,eqV,plen,btFr,w8,wn,hiI,h1I,h2I,e1,e2,e3,e4,wq,wr8,wu8,hii,hin,hy,hr0,hsh,han,han2,hq,show IntKind.u8.bits = 8 from rfl]
    | false =>
      refine Tells.of (o:=⟨.normal,_,[]⟩) ⟨0,?_⟩ (.inl ⟨rfl,rfl,rfl,rfl⟩)
      simp (maxSteps:=2000000) -implicitDefEqProofs [-getElem?_pos,go_sem,eqV,plen,btFr,w1,w8,wn,hiI,h1I,h2I,e1,e2,e3,e4,wq,wr8,wu8,hii,hin,hy,hr0,hsh,han,han2,hq,show IntKind.u8.bits = 8 from rfl]
  have h2I:¬ ((at' + n:Nat):Int)≤(i:Int):=by omega
  rw [decide_eq_false h2]
  generalize at' + n = an at *
  refine Tells.of (o:=⟨.normal,_,[]⟩) ⟨0,?_⟩ (.inl ⟨rfl,rfl,rfl,rfl⟩)
  simp (maxSteps:=2000000) -implicitDefEqProofs [-getElem?_pos,go_sem,eqV,plen,btFr,w1,w8,wn,hiI,h1I,h2I]
theorem bt_code (ha:at'≤100) (hn:n≤70000) (hb:b.length≤1000000) :
    ∃ code,Tryz.f29.body = some code ∧
    Tells (Rets fun fr H=>getF fr 6 = .bool (btF b at' n)) X (evT X) 29 0 code [(0,.ro c (.pb b) 1),(1,.int .i64 (at':Nat)),(2,.int .i64 (n:Nat))] []:=by
  refine ⟨_,rfl,?_⟩
  apply Tells.seq (fr':=[(0,.ro c (.pb b) 1),(1,.int .i64 (at':Nat)),(2,.int .i64 (n:Nat))]) (H':=[])
  · (refine ⟨0,?_⟩;simp (maxSteps:=2000000) -implicitDefEqProofs [-getElem?_pos,go_sem,eqV,plen])
  apply Tells.assoc
  apply Tells.seq (fr':=btFr c b at' n 0) (H':=[])
  · (refine ⟨0,?_⟩;simp (maxSteps:=2000000) -implicitDefEqProofs [-getElem?_pos,go_sem,eqV,plen,btFr])
  apply Tells.or (P:=fun fr H=>btF b at' n = false∧fr = btFr c b at' n (8 * b.length) ++ [(12,.bool false)]∧H = [])
  case h' =>
    rintro fr H ⟨h1,rfl,rfl⟩
    refine Tells.of (o:=⟨.ret,[(6,.bool false)],[]⟩) ⟨0,?_⟩ ⟨rfl,by rw [h1];rfl⟩
    simp (maxSteps:=2000000) -implicitDefEqProofs [-getElem?_pos,go_sem,eqV,plen,btFr]
  apply (Tells.blockOr (Q:=Rets fun fr H=>getF fr 6 = .bool (btF b at' n)))
  refine Tells.loopP (fun k fr H=>∃ i,k = 8 * b.length - i∧i≤8 * b.length∧fr = btFr c b at' n i∧H = []∧∀ j,j < i→btX b at' n j = false) ?_ (k:=8 * b.length) ⟨0,rfl,by omega,rfl,rfl,by omega⟩
  rintro k fr H ⟨i,rfl,hi,rfl,rfl,hall⟩
  by_cases hin:i = 8 * b.length
  · have hany:btF b at' n = false:=by
      unfold btF
      rw [List.any_eq_false]
      intro j hj
      rw [hall j (by rw [hin];exact List.mem_range.1 hj)];simp
    have w8:IntKind.i64.wrap (8 * (b.length:Int)) = ((8 * b.length:Nat):Int):=by rw [wrap_i64 (by omega) (by omega)];omega
    refine Tells.of (o:=⟨.exit 0,btFr c b at' n (8 * b.length) ++ [(12,.bool false)],[]⟩) ⟨0,?_⟩ (.inr ⟨by simp,.inl ⟨rfl,hany,rfl,rfl⟩⟩)
    rw [hin]
    unfold btFr
    generalize 8 * b.length = m8 at *
    simp (maxSteps:=2000000) -implicitDefEqProofs [-getElem?_pos,go_sem,eqV,plen,w8]
  refine (piece (bt_round c b at' n i ha hn hb (by omega)) _ rfl).mono ?_
  rintro o (⟨h1,h2,h3,h4⟩ | ⟨h1,h2,h3⟩)
  · refine .inl ⟨h2,8 * b.length - (i + 1),by omega,i + 1,rfl,by omega,h3,h4,fun j hj=>?_⟩
    by_cases hji:j = i
    · rw [hji];exact h1
    · exact hall j (by omega)
  · refine .inr ⟨by rw [h2];simp,.inr ⟨h2,h2,?_⟩⟩
    show getF o.fr 6 = .bool (btF b at' n)
    rw [h3]
    congr 1
    exact (List.any_eq_true.2 ⟨i,List.mem_range.2 (by omega),h1⟩).symm
end
theorem bt_ev {H:AM.Heap} {a:AV} {b:List UInt8} {at' n:Nat} (h:Byt H a b) (ha:at'≤100) (hn:n≤70000) (hb:b.length≤1000000) :
    evT X 29 [a,.int .i64 (at':Nat),.int .i64 (n:Nat)] H = some (.bool (btF b at' n),H):=by
  obtain ⟨c,p,xl,hp,hc,hx'⟩:=args_byt (C:=X) (f:=29) (i:=0) rfl h (args_flat (i:=1) (a:=.int .i64 (at':Nat)) rfl rfl (args_flat (i:=2) (a:=.int .i64 (n:Nat)) rfl rfl (args_nil 3)))
  obtain ⟨code,hcode,o,⟨he,hr⟩,hrun⟩:=bt_code c b at' n ha hn hb
  exact evT_eq (Ev1.toldP (l:=[.bool (btF b at' n)]) (evT_below X) Tryz.func29 hcode hx' (by simp [idsL,ids,hp.ids]) (by simp [gtag]) rfl rfl rfl ⟨o,⟨he,by show some [getF o.fr 6] = _;rw [hr]⟩,by rw [par29,coB hp];exact hrun⟩)
end Go.Proofs.YtafdnpcamepbmaaGreatDoor
namespace Go.Proofs.YtafdnpcamepbmaaGreatDoor
open Go.AM
def c2 (c:Nat):Nat:=if c = 0 then 0 else 2
section
variable (c:Nat) (b:List UInt8) (n i:Nat)
theorem take_code (hc:c = 0→b = []) (hn:n≤b.length) (hb:b.length≤90000000):∃ code,Tryz.f23.body = some code ∧
    Run X (evT X) 23 1 code [(0,.int .i64 (n:Nat)),(1,.ptr 0 0 0 0)] [some (roB c (.pb b) 3 3)] ⟨.ret,[(3,.ro (c2 c) (.pb (b.take n)) 3),(4,.int .i64 0)],[some (roB c (.pb (b.drop n)) 3 3),some nilB]⟩:=by
  refine ⟨_,rfl,?_⟩
  have h1:¬ (b.length:Int) < (n:Int):=by omega
  have hs1:=fun H=>slTo (t:=3) hc hn H
  have hs2:=fun H=>slFrom (t:=3) hc hn H
  refine ⟨0,?_⟩
  simp (maxSteps:=2000000) -implicitDefEqProofs [-getElem?_pos,go_sem,eqV,plen,roB,h1,hs1,hs2,assignV,emB,c2]
theorem take_few (hn:b.length < n):∃ code,Tryz.f23.body = some code ∧
    Run X (evT X) 23 1 code [(0,.int .i64 (n:Nat)),(1,.ptr 0 0 0 0)] [some (roB c (.pb b) 3 3)] ⟨.ret,[(3,.sl 2 0 0 0),(4,.int .i64 4)],[some (roB c (.pb b) 3 3),some nilB,some nilB]⟩:=by
  refine ⟨_,rfl,?_⟩
  have h1:(b.length:Int) < (n:Int):=by omega
  refine ⟨0,?_⟩
  simp (maxSteps:=2000000) -implicitDefEqProofs [-getElem?_pos,go_sem,eqV,plen,roB,h1,assignV,emB]
theorem set_code (hi:i / 8 < b.length) (hi2:i≤9000000):∃ code,Tryz.f24.body = some code ∧
    Run X (evT X) 24 1 code [(0,.int .i64 (i:Nat)),(1,.ptr 0 0 0 0)] [some (roB c (.pb b) 3 3)] ⟨.ret,[(3,.bool (bitB b i))],[some (roB c (.pb b) 3 3)]⟩:=by
  refine ⟨_,rfl,?_⟩
  obtain ⟨y,hy⟩:∃ y,b[i / 8]? = some y:=⟨_,List.getElem?_eq_getElem hi⟩
  have hbit:bitB b i = ((y.toNat / 2 ^ (i % 8)) % 2 == 1):=by unfold bitB;rw [List.getD,hy];rfl
  rw [hbit]
  have e1:Int.tdiv (i:Int) 8 = ((i / 8:Nat):Int):=by rw [Int.tdiv_eq_ediv_of_nonneg (by omega)];omega
  have e2:Int.tmod (i:Int) 8 = ((i % 8:Nat):Int):=by rw [Int.tmod_eq_emod_of_nonneg (by omega)];omega
  have e3:(i:Int) / 8 = ((i / 8:Nat):Int):=by omega
  have e4:(i:Int) % 8 = ((i % 8:Nat):Int):=by omega
  have w1:IntKind.i64.wrap ((i / 8:Nat):Int) = ((i / 8:Nat):Int):=wrap_i64 (by omega) (by omega)
  have hii:((i / 8:Nat):Int) < (b.length:Int):=by omega
  have hr0:¬ ((i % 8:Nat):Int) < 0:=by omega
  have hsh:=shr8 (y:=y.toNat) (j:=i % 8) (Nat.mod_lt _ (by omega))
  have han:=and1 (y:=y.toNat) (j:=i % 8) y.toNat_lt
  have heq:∀ z:Nat,((z:Int) == 1) = (z == 1):=by
    intro z
    by_cases h:z = 1
    · subst h;rfl
    · have:(z == 1) = false:=by simpa using h
      rw [this];exact beq_eq_false_iff_ne.2 (by omega)
  generalize i / 8 = q at *
  generalize i % 8 = r at *
  generalize y.toNat / 2 ^ r = d at *
  have han2:=han
  simp only [go_sem] at han2
  simp only [BitVec.toNat_and] at han
  have hq:=heq (d % 2)
  generalize d % 2 = dd at *
  refine ⟨0,?_⟩
  simp (maxSteps:=2000000) -implicitDefEqProofs [-getElem?_pos,go_sem,eqV,plen,roB,e1,e2,e3,e4,w1,hi,hii,hy,hr0,hsh,han,han2,hq,show IntKind.u8.bits = 8 from rfl]
end
theorem set_ev {H:AM.Heap} {o c t tg i:Nat} {I:Int} {b:List UInt8} (hI:I = (i:Nat)) (h1:H[o]? = some (some (roB c (.pb b) t tg))) (hi:i / 8 < b.length) (hi2:i≤9000000) :
    evT X 24 [.int .i64 I,.ptr o 0 0 0] H = some (.bool (bitB b i),upd H o (some (roB c (.pb b) t t))):=by
  subst hI
  obtain ⟨code,hcode,hr⟩:=set_code c b i hi hi2
  exact evT_eq (Ev1.fn1 (C:=X) (f:=24) (H:=H) (xs:=[.int .i64 (i:Nat)]) (n:=3) (l:=[.bool (bitB b i)]) (rest:=[]) (evT_below X) Tryz.func24 hcode (fun i=>by rfl) h1 rfl rfl (by simp [gtag])
    (by rw [par24];simpa [coerce,numbered] using hr) (.inr rfl) rfl rfl rfl rfl)
theorem take_ev {H:AM.Heap} {o c t tg n:Nat} {N:Int} {b:List UInt8} (hN:N = (n:Nat)) (h1:H[o]? = some (some (roB c (.pb b) t tg))) (hc:c = 0→b = []) (hn:n≤b.length) (hb:b.length≤90000000) :
    evT X 23 [.int .i64 N,.ptr o 0 0 0] H = some (.tup [.ro (c2 c) (.pb (b.take n)) t,.int .i64 0],upd H o (some (roB c (.pb (b.drop n)) t t))):=by
  subst hN
  obtain ⟨code,hcode,hr⟩:=take_code c b n hc hn hb
  have:=Ev1.boxL (C:=X) (f:=23) (H:=H) (o:=o) (g:=0) (ob:=roB c (.pb b) t tg) (ob1:=roB c (.pb (b.drop n)) 3 3) (xs:=[.int .i64 (n:Nat)]) (n:=3) (t:=t) (l:=[.ro (c2 c) (.pb (b.take n)) 3,.int .i64 0]) (rest:=[some nilB]) (evT_below X) Tryz.func23 hcode (fun i=>by rfl) h1 rfl (by simp [roB,ids,idsL]) rfl rfl (by simp [gtag])
    (by simp [tagsOb,roB,tags,tagsL,joinTags_one])
    (by rw [par23];simpa [coerce,numbered,roB,rt,ren,renL] using hr) (.inr rfl) rfl rfl rfl (by simp [roB,ids,idsL]) rfl (by simp [resultV,noTups,tags,tagsL,tagsOb,roB]) (.inr rfl)
  exact evT_eq (by simpa [resultV,noTups,roB,ren,renL,bk] using this)
theorem take_ev' {H:AM.Heap} {o c t tg n:Nat} {N:Int} {b:List UInt8} (hN:N = (n:Nat)) (h1:H[o]? = some (some (roB c (.pb b) t tg))) (hn:b.length < n) :
    ∃ ob,evT X 23 [.int .i64 N,.ptr o 0 0 0] H = some (.tup [.sl H.length 0 0 0,.int .i64 4],upd H o (some (roB c (.pb b) t t)) ++ [some ob]):=by
  subst hN
  obtain ⟨code,hcode,hr⟩:=take_few c b n hn
  have:=Ev1.boxLNew (C:=X) (f:=23) (H:=H) (o:=o) (g:=0) (ob:=roB c (.pb b) t tg) (ob1:=roB c (.pb b) 3 3) (xs:=[.int .i64 (n:Nat)]) (n:=3) (t:=t) (o1:=2) (g1:=0) (ob2:=nilB) (l:=[.sl 2 0 0 0,.int .i64 4]) (rest:=[some nilB,some nilB]) (evT_below X) Tryz.func23 hcode (fun i=>by rfl) h1 rfl (by simp [roB,ids,idsL]) rfl rfl (by simp [gtag])
    (by simp [tagsOb,roB,tags,tagsL,joinTags_one])
    (by rw [par23];simpa [coerce,numbered,roB,rt,ren,renL] using hr) (.inr rfl) rfl rfl rfl (by simp [roB,ids,idsL]) rfl rfl (by omega) rfl rfl rfl (by simp [resultV,noTups,tags,tagsL,tagsOb,roB]) (.inr rfl)
  exact ⟨_,evT_eq (by simpa [resultV,noTups,roB,ren,renL,bk] using this)⟩
end Go.Proofs.YtafdnpcamepbmaaGreatDoor
namespace Go.Proofs.YtafdnpcamepbmaaGreatDoor
open Go.AM
def noK (t:Ty):Bool:=decide (kindN t.t t.u < 0)
section
variable (e:Nat) (ts:List Ty)
def tyA:AV:=.ro e (.pr 2 (ts.map Ty.pay)) 2
def kdFr (i:Nat):AM.Frame:=[(1,tyA e ts),(2,.ptr 0 0 0 0),(25,tyA e ts),(26,.int .i64 (ts.length:Nat)),(27,.int .i64 (i:Nat))]
theorem kd_loop (ob0:AM.Obj) (H:AM.Heap) (h0:H[0]? = some (some ob0)) (hn:ts.length≤4096) (ht:∀ t ∈ ts,t.t < 256) :
    ∃ code,((Tryz.f9.body).bind (codeAt [1,1,0,1])) = some code ∧
      Tells (Or2 (fun fr H=>ts.any noK = false∧fr = kdFr e ts ts.length ++ [(28,.bool false)]∧H[0]? = some (some ob0)) (fun out=>out.ex = .ret∧ts.any noK = true∧ytQ ([],2) out.fr out.H))
       X (evT X) 9 0 code (kdFr e ts 0) H:=by
  refine ⟨_,rfl,?_⟩
  have hTl:(ts.map Ty.pay).length = ts.length:=List.length_map _
  have hTat:∀ (i:Nat) (v:Ty),ts[i]? = some v→(ts.map Ty.pay)[i]? = some v.pay:=fun i p h=>(by rw [List.getElem?_map,h];rfl)
  unfold kdFr tyA
  generalize ts.map Ty.pay = T at *
  apply Tells.blockOr
  refine Tells.loopP (fun k fr H=>∃ i,k = ts.length - i∧i≤ts.length∧fr = [(1,.ro e (.pr 2 T) 2),(2,.ptr 0 0 0 0),(25,.ro e (.pr 2 T) 2),(26,.int .i64 (ts.length:Nat)),(27,.int .i64 (i:Nat))]∧H[0]? = some (some ob0)∧∀ (j:Nat) (t:Ty),j < i→ts[j]? = some t→noK t = false) ?_ (k:=ts.length) ⟨0,rfl,by omega,rfl,h0,by omega⟩
  rintro k fr H ⟨i,rfl,hi,rfl,h0,hall⟩
  by_cases hin:i = ts.length
  · subst hin
    refine Tells.of (o:=⟨.exit 0,[(1,.ro e (.pr 2 T) 2),(2,.ptr 0 0 0 0),(25,.ro e (.pr 2 T) 2),(26,.int .i64 (ts.length:Nat)),(27,.int .i64 (ts.length:Nat))] ++ [(28,.bool false)],H⟩) ⟨0,?_⟩ (.inr ⟨by simp,.inl ⟨rfl,?_,rfl,h0⟩⟩)
    · simp (maxSteps:=2000000) -implicitDefEqProofs [-getElem?_pos,go_sem,eqV,plen]
    · rw [List.any_eq_false]
      intro t ht
      obtain ⟨j,hj⟩:=List.mem_iff_getElem?.1 ht
      rw [hall j t (at_lt hj) hj];simp
  have hlt:i < ts.length:=by omega
  have hiI:(i:Int) < (ts.length:Int):=by omega
  obtain ⟨t,htt⟩:∃ p,ts[i]? = some p:=⟨_,List.getElem?_eq_getElem hlt⟩
  have hm:=List.mem_of_getElem? htt
  have hrow:=hTat i t htt
  have hK:=kind_ev (ht t hm) (H ++ [some (tyO t)])
  have hnew:∀ x:Option AM.Obj,(H ++ [x])[H.length]? = some x:=fun x=>by simp
  have w1:IntKind.i64.wrap ((i:Int) + 1) = ((i + 1:Nat):Int):=by rw [wrap_i64 (by omega) (by omega)];omega
  simp only [tyO,Ty.pay] at hK hrow
  by_cases hk:kindN t.t t.u < 0
  · have hnk:noK t = true:=decide_eq_true hk
    refine Tells.of (o:=⟨.ret,[(4,.sl (H.length + 1) 0 0 0),(5,.int .i64 2)],H ++ [some (tyO t)] ++ [some nilV]⟩) ⟨0,?_⟩ (.inr ⟨by simp,.inr ⟨rfl,rfl,List.any_eq_true.2 ⟨t,hm,hnk⟩,H.length + 1,0,nilV,rfl,rfl,by simp,nilV_rw⟩⟩)
    generalize kindN t.t t.u = kk at *
    simp (maxSteps:=2000000) -implicitDefEqProofs [-getElem?_pos,go_sem,eqV,plen,hiI,hlt,hTl,hrow,tyO,Ty.pay,retagL,retag,retagP,flatCells,splice,scalars,scalar,hnew,mkTy,hK,hk,assignV,emV]
  · have hnk:noK t = false:=decide_eq_false hk
    refine Tells.of (o:=⟨.normal,[(1,.ro e (.pr 2 T) 2),(2,.ptr 0 0 0 0),(25,.ro e (.pr 2 T) 2),(26,.int .i64 (ts.length:Nat)),(27,.int .i64 ((i + 1:Nat):Int))],H ++ [some (tyO t)]⟩) ⟨0,?_⟩ (.inl ⟨rfl,ts.length - (i + 1),by omega,i + 1,rfl,by omega,rfl,at_cat h0,fun j q hj hq=>?_⟩)
    · generalize kindN t.t t.u = kk at *
      simp (maxSteps:=2000000) -implicitDefEqProofs [-getElem?_pos,go_sem,eqV,plen,hiI,hlt,hTl,hrow,tyO,Ty.pay,retagL,retag,retagP,flatCells,splice,scalars,scalar,hnew,mkTy,hK,hk,w1]
    · by_cases hji:j = i
      · subst hji;rw [htt] at hq;obtain rfl:=Option.some.inj hq;exact hnk
      · exact hall j q (by omega) hq
end
section
variable (e:Nat) (ts:List Ty) (L:Nat) (b:List UInt8) (cb tb:Nat)
def t12:AV:=.fn 24 [.ptr L 0 0 0]
def zbFr (i:Nat):AM.Frame:=[(1,tyA e ts),(2,.ptr 0 0 0 0),(12,t12 L),(65,.int .i64 ((8 * b.length:Nat):Int)),(66,.int .i64 (i:Nat))]
def zbHp (ob0:AM.Obj) (H:AM.Heap):Prop:=H[0]? = some (some ob0)∧0 < L∧∃ tg,H[L]? = some (some (roB cb (.pb b) tb tg))
theorem zb_loop (ob0:AM.Obj) (H:AM.Heap) (hn:ts.length≤4096) (hb:b.length≤1000) (hH:zbHp L b cb tb ob0 H) :
    ∃ code,((Tryz.f9.body).bind (codeAt [1,1,1,1,1,1,1,1,1,0,1])) = some code ∧
      Tells (Or2 (fun fr H=>(List.range (8 * b.length)).any (bzB b ts.length) = false∧fr = zbFr e ts L b (8 * b.length) ++ [(67,.bool false)]∧zbHp L b cb tb ob0 H) (fun out=>out.ex = .ret∧(List.range (8 * b.length)).any (bzB b ts.length) = true∧ytQ ([],5) out.fr out.H))
       X (evT X) 9 0 code (zbFr e ts L b 0) H:=by
  refine ⟨_,rfl,?_⟩
  have hTl:(ts.map Ty.pay).length = ts.length:=List.length_map _
  unfold zbFr tyA t12
  generalize ts.map Ty.pay = T at *
  generalize hm8:8 * b.length = m8 at *
  apply Tells.blockOr
  refine Tells.loopP (fun k fr H=>∃ i,k = m8 - i∧i≤m8∧fr = [(1,.ro e (.pr 2 T) 2),(2,.ptr 0 0 0 0),(12,.fn 24 [.ptr L 0 0 0]),(65,.int .i64 (m8:Nat)),(66,.int .i64 (i:Nat))]∧zbHp L b cb tb ob0 H∧∀ (j:Nat),j < i→bzB b ts.length j = false) ?_ (k:=m8) ⟨0,rfl,by omega,rfl,hH,by omega⟩
  rintro k fr H ⟨i,rfl,hi,rfl,⟨h0,hL,tg,h1⟩,hall⟩
  by_cases hin:i = m8
  · subst hin
    refine Tells.of (o:=⟨.exit 3,[(1,.ro e (.pr 2 T) 2),(2,.ptr 0 0 0 0),(12,.fn 24 [.ptr L 0 0 0]),(65,.int .i64 (i:Nat)),(66,.int .i64 (i:Nat))] ++ [(67,.bool false)],H⟩) ⟨0,?_⟩ (.inr ⟨by simp,.inl ⟨rfl,?_,rfl,h0,hL,tg,h1⟩⟩)
    · simp (maxSteps:=2000000) -implicitDefEqProofs [-getElem?_pos,go_sem,eqV,plen]
    · rw [List.any_eq_false]
      intro j hj
      rw [hall j (List.mem_range.1 hj)];simp
  have hiI:(i:Int) < (m8:Int):=by omega
  have w1:IntKind.i64.wrap ((i:Int) + 1) = ((i + 1:Nat):Int):=by rw [wrap_i64 (by omega) (by omega)];omega
  have w2:IntKind.i64.wrap ((ts.length:Int) + 2) = ((ts.length + 2:Nat):Int):=by rw [wrap_i64 (by omega) (by omega)];omega
  have hS:=set_ev (I:=(i:Nat)) rfl h1 (by omega) (by omega)
  have hbz:bzB b ts.length i = (bitB b i && (decide (i < 2) || decide (ts.length + 2≤i))):=rfl
  have hL1:(upd H L (some (roB cb (.pb b) tb tb)))[0]? = some (some ob0):=at_ne h0 (by omega)
  have hL2:(upd H L (some (roB cb (.pb b) tb tb)))[L]? = some (some (roB cb (.pb b) tb tb)):=at_set h1
  have i2:(i:Int) < 2 ↔ i < 2:=by omega
  have i3:((ts.length + 2:Nat):Int)≤(i:Int) ↔ ts.length + 2≤i:=by omega
  generalize hHu:upd H L (some (roB cb (.pb b) tb tb)) = HU at *
  cases hz:bzB b ts.length i with
  | true =>
    rw [hz] at hbz
    refine Tells.of (o:=⟨.ret,[(4,.sl HU.length 0 0 0),(5,.int .i64 5)],HU ++ [some nilV]⟩) ⟨0,?_⟩ (.inr ⟨by simp,.inr ⟨rfl,rfl,List.any_eq_true.2 ⟨i,List.mem_range.2 (by omega),hz⟩,HU.length,0,nilV,rfl,rfl,by simp,nilV_rw⟩⟩)
    have hbz:=hbz.symm
    simp only [Bool.and_eq_true,Bool.or_eq_true,decide_eq_true_eq] at hbz
    rw [hbz.1] at hS
    generalize ts.length + 2 = n2 at *
    by_cases h2:i < 2
    · have h2I:(i:Int) < 2:=by omega
      simp (maxSteps:=2000000) -implicitDefEqProofs [-getElem?_pos,go_sem,eqV,plen,hiI,hS,h2,h2I,hTl,assignV,emV]
    · have h2I:¬ (i:Int) < 2:=by omega
      have h3:n2≤i:=by omega
      have h3I:(n2:Int)≤(i:Int):=by omega
      simp (maxSteps:=2000000) -implicitDefEqProofs [-getElem?_pos,go_sem,eqV,plen,hiI,hS,h2,h2I,h3,h3I,hTl,w2,assignV,emV]
  | false =>
    rw [hz] at hbz
    refine Tells.of (o:=⟨.normal,[(1,.ro e (.pr 2 T) 2),(2,.ptr 0 0 0 0),(12,.fn 24 [.ptr L 0 0 0]),(65,.int .i64 (m8:Nat)),(66,.int .i64 ((i + 1:Nat):Int))],HU⟩) ⟨0,?_⟩ (.inl ⟨rfl,m8 - (i + 1),by omega,i + 1,rfl,by omega,rfl,⟨hL1,hL,tb,hL2⟩,fun j hj=>?_⟩)
    · have hbz:=hbz.symm
      generalize ts.length + 2 = n2 at *
      cases hbit:bitB b i with
      | false =>
        rw [hbit] at hS
        simp (maxSteps:=2000000) -implicitDefEqProofs [-getElem?_pos,go_sem,eqV,plen,hiI,hS,w1]
      | true =>
        rw [hbit] at hS hbz
        have h2:¬ i < 2∧¬ n2≤i:=by simpa using hbz
        obtain ⟨h2,h3⟩:=h2
        have h2I:¬ (i:Int) < 2:=by omega
        have h3I:¬ (n2:Int)≤(i:Int):=by omega
        simp (maxSteps:=2000000) -implicitDefEqProofs [-getElem?_pos,go_sem,eqV,plen,hiI,hS,h2,h2I,h3,h3I,hTl,w1,w2]
    · by_cases hji:j = i
      · subst hji;exact hz
      · exact hall j (by omega)
end
end Go.Proofs.YtafdnpcamepbmaaGreatDoor
namespace Go.Proofs.YtafdnpcamepbmaaGreatDoor
open Go.AM
section
variable (e:Nat) (ts:List Ty) (L:Nat) (b:List UInt8) (cb tb:Nat)
def nzFr (i:Nat):AM.Frame:=[(1,tyA e ts),(2,.ptr 0 0 0 0),(12,t12 L),(84,tyA e ts),(85,.int .i64 (ts.length:Nat)),(86,.int .i64 (i:Nat))]
theorem nz_loop (ob0:AM.Obj) (H:AM.Heap) (hn:ts.length≤4096) (hb:b.length≤1000) (hm:ts.length + 2≤8 * b.length) (ht:∀ t ∈ ts,t.t < 256) (hH:zbHp L b cb tb ob0 H) :
    ∃ code,((Tryz.f9.body).bind (codeAt [1,1,1,1,1,1,1,1,1,1,0,1])) = some code ∧
      Tells (Or2 (fun fr H=>(List.range ts.length).any (nzB b ts) = false∧fr = nzFr e ts L ts.length ++ [(87,.bool false)]∧zbHp L b cb tb ob0 H) (fun out=>out.ex = .ret∧(List.range ts.length).any (nzB b ts) = true∧ytQ ([],5) out.fr out.H))
       X (evT X) 9 0 code (nzFr e ts L 0) H:=by
  refine ⟨_,rfl,?_⟩
  have hTl:(ts.map Ty.pay).length = ts.length:=List.length_map _
  have hTat:∀ (i:Nat) (v:Ty),ts[i]? = some v→(ts.map Ty.pay)[i]? = some v.pay:=fun i p h=>(by rw [List.getElem?_map,h];rfl)
  unfold nzFr tyA t12
  generalize ts.map Ty.pay = T at *
  apply Tells.blockOr
  refine Tells.loopP (fun k fr H=>∃ i,k = ts.length - i∧i≤ts.length∧fr = [(1,.ro e (.pr 2 T) 2),(2,.ptr 0 0 0 0),(12,.fn 24 [.ptr L 0 0 0]),(84,.ro e (.pr 2 T) 2),(85,.int .i64 (ts.length:Nat)),(86,.int .i64 (i:Nat))]∧zbHp L b cb tb ob0 H∧∀ (j:Nat),j < i→nzB b ts j = false) ?_ (k:=ts.length) ⟨0,rfl,by omega,rfl,hH,by omega⟩
  rintro k fr H ⟨i,rfl,hi,rfl,⟨h0,hL,tg,h1⟩,hall⟩
  by_cases hin:i = ts.length
  · subst hin
    refine Tells.of (o:=⟨.exit 5,[(1,.ro e (.pr 2 T) 2),(2,.ptr 0 0 0 0),(12,.fn 24 [.ptr L 0 0 0]),(84,.ro e (.pr 2 T) 2),(85,.int .i64 (ts.length:Nat)),(86,.int .i64 (ts.length:Nat))] ++ [(87,.bool false)],H⟩) ⟨0,?_⟩ (.inr ⟨by simp,.inl ⟨rfl,?_,rfl,h0,hL,tg,h1⟩⟩)
    · simp (maxSteps:=2000000) -implicitDefEqProofs [-getElem?_pos,go_sem,eqV,plen]
    · rw [List.any_eq_false]
      intro j hj
      rw [hall j (List.mem_range.1 hj)];simp
  have hlt:i < ts.length:=by omega
  have hiI:(i:Int) < (ts.length:Int):=by omega
  obtain ⟨t,htt⟩:∃ p,ts[i]? = some p:=⟨_,List.getElem?_eq_getElem hlt⟩
  have hrow:=hTat i t htt
  have w1:IntKind.i64.wrap ((i:Int) + 1) = ((i + 1:Nat):Int):=by rw [wrap_i64 (by omega) (by omega)];omega
  have w2:IntKind.i64.wrap ((i:Int) + 2) = ((i + 2:Nat):Int):=by rw [wrap_i64 (by omega) (by omega)];omega
  have hnew:∀ x:Option AM.Obj,(H ++ [x])[H.length]? = some x:=fun x=>by simp
  have hS:=set_ev (H:=H ++ [some (tyO t)]) (I:=((i + 2:Nat):Int)) rfl (at_cat h1) (by omega) (by omega)
  have hnz:nzB b ts i = (decide (t.t = 6) && !bitB b (i + 2)):=by unfold nzB;rw [tyI_at htt]
  have hLl:=at_lt h1
  have hup:upd (H ++ [some (tyO t)]) L (some (roB cb (.pb b) tb tb)) = upd H L (some (roB cb (.pb b) tb tb)) ++ [some (tyO t)]:=by unfold upd;rw [List.set_append_left _ _ hLl]
  rw [hup] at hS
  have hL1:(upd H L (some (roB cb (.pb b) tb tb)))[0]? = some (some ob0):=at_ne h0 (by omega)
  have hL2:(upd H L (some (roB cb (.pb b) tb tb)))[L]? = some (some (roB cb (.pb b) tb tb)):=at_set h1
  have hul:(upd H L (some (roB cb (.pb b) tb tb))).length = H.length:=by simp [upd]
  generalize upd H L (some (roB cb (.pb b) tb tb)) = HU at *
  simp only [tyO,Ty.pay] at hS hrow
  generalize i + 2 = i2 at *
  by_cases h6:t.t = 6
  · rw [decide_eq_true h6,Bool.true_and] at hnz
    have h6b:((t.t:Int) == 6) = true:=by rw [h6];rfl
    cases hbit:bitB b i2 with
    | false =>
      rw [hbit] at hS hnz
      refine Tells.of (o:=⟨.ret,[(4,.sl (HU.length + 1) 0 0 0),(5,.int .i64 5)],HU ++ [some (tyO t)] ++ [some nilV]⟩) ⟨0,?_⟩ (.inr ⟨by simp,.inr ⟨rfl,rfl,List.any_eq_true.2 ⟨i,List.mem_range.2 hlt,hnz⟩,HU.length + 1,0,nilV,rfl,rfl,by simp,nilV_rw⟩⟩)
      simp (maxSteps:=2000000) -implicitDefEqProofs [-getElem?_pos,go_sem,eqV,plen,hiI,hlt,hTl,hrow,tyO,Ty.pay,retagL,retag,retagP,flatCells,splice,scalars,scalar,hnew,mkTy,w2,hS,h6b,unV,assignV,emV]
    | true =>
      rw [hbit] at hS hnz
      refine Tells.of (o:=⟨.normal,[(1,.ro e (.pr 2 T) 2),(2,.ptr 0 0 0 0),(12,.fn 24 [.ptr L 0 0 0]),(84,.ro e (.pr 2 T) 2),(85,.int .i64 (ts.length:Nat)),(86,.int .i64 ((i + 1:Nat):Int))],HU ++ [some (tyO t)]⟩) ⟨0,?_⟩ (.inl ⟨rfl,ts.length - (i + 1),by omega,i + 1,rfl,by omega,rfl,⟨at_cat hL1,hL,tb,at_cat hL2⟩,fun j hj=>?_⟩)
      · simp (maxSteps:=2000000) -implicitDefEqProofs [-getElem?_pos,go_sem,eqV,plen,hiI,hlt,hTl,hrow,tyO,Ty.pay,retagL,retag,retagP,flatCells,splice,scalars,scalar,hnew,mkTy,w1,w2,hS,h6b,unV]
      · by_cases hji:j = i
        · subst hji;exact hnz
        · exact hall j (by omega)
  · rw [decide_eq_false h6,Bool.false_and] at hnz
    have h6b:((t.t:Int) == 6) = false:=beq_eq_false_iff_ne.2 (by omega)
    refine Tells.of (o:=⟨.normal,[(1,.ro e (.pr 2 T) 2),(2,.ptr 0 0 0 0),(12,.fn 24 [.ptr L 0 0 0]),(84,.ro e (.pr 2 T) 2),(85,.int .i64 (ts.length:Nat)),(86,.int .i64 ((i + 1:Nat):Int))],H ++ [some (tyO t)]⟩) ⟨0,?_⟩ (.inl ⟨rfl,ts.length - (i + 1),by omega,i + 1,rfl,by omega,rfl,⟨at_cat h0,hL,tg,at_cat h1⟩,fun j hj=>?_⟩)
    · simp (maxSteps:=2000000) -implicitDefEqProofs [-getElem?_pos,go_sem,eqV,plen,hiI,hlt,hTl,hrow,tyO,Ty.pay,retagL,retag,retagP,flatCells,splice,scalars,scalar,hnew,mkTy,w1,h6b,unV]
    · by_cases hji:j = i
      · subst hji;exact hnz
      · exact hall j (by omega)
end
end Go.Proofs.YtafdnpcamepbmaaGreatDoor
namespace Go.Proofs.YtafdnpcamepbmaaGreatDoor
open Go.AM
def ytAt (K:Nat) (a:List Va) (H:AM.Heap):Prop:=∃ ob,H[K]? = some (some ob)∧Rw (.pr 12 (a.map Va.pay)) a.length ob
structure BvHp (c L K:Nat) (b:List UInt8) (cb tb:Nat) (H:AM.Heap) (a:List Va) (r:List UInt8):Prop where
  h0:H[0]? = some (some (roB c (.pb r) 1 1))
  hl:∃ tg,H[L]? = some (some (roB cb (.pb b) tb tg))
  hk:ytAt K a H
  l0:0 < L
  k0:0 < K
  ne:K ≠ L
theorem BvHp.push {c L K:Nat} {b:List UInt8} {cb tb:Nat} {H:AM.Heap} {a:List Va} {r:List UInt8} (h:BvHp c L K b cb tb H a r) (x:AM.Heap):BvHp c L K b cb tb (H ++ x) a r:=by
  obtain ⟨tg,h1⟩:=h.hl
  obtain ⟨ob,h2,h3⟩:=h.hk
  exact ⟨at_cat h.h0,⟨tg,at_cat h1⟩,⟨ob,at_cat h2,h3⟩,h.l0,h.k0,h.ne⟩
theorem BvHp.look {c L K:Nat} {b:List UInt8} {cb tb:Nat} {H:AM.Heap} {a:List Va} {r:List UInt8} (h:BvHp c L K b cb tb H a r):BvHp c L K b cb tb (upd H L (some (roB cb (.pb b) tb tb))) a r:=by
  obtain ⟨tg,h1⟩:=h.hl
  obtain ⟨ob,h2,h3⟩:=h.hk
  exact ⟨at_ne h.h0 (by have:=h.l0;omega),⟨tb,at_set h1⟩,⟨ob,at_ne h2 (by have:=h.ne;omega),h3⟩,h.l0,h.k0,h.ne⟩
theorem BvHp.put {c L K:Nat} {b:List UInt8} {cb tb:Nat} {H:AM.Heap} {a a':List Va} {r:List UInt8} {ob':AM.Obj} (h:BvHp c L K b cb tb H a r) (hw:Rw (.pr 12 (a'.map Va.pay)) a'.length ob'):BvHp c L K b cb tb (upd H K (some ob')) a' r:=by
  obtain ⟨tg,h1⟩:=h.hl
  obtain ⟨ob,h2,h3⟩:=h.hk
  exact ⟨at_ne h.h0 (by have:=h.k0;omega),⟨tg,at_ne h1 h.ne⟩,⟨ob',at_set h2,hw⟩,h.l0,h.k0,h.ne⟩
theorem BvHp.store {c L K:Nat} {b:List UInt8} {cb tb:Nat} {H:AM.Heap} {a:List Va} {r:List UInt8} (r':List UInt8) (h:BvHp c L K b cb tb H a r):BvHp c L K b cb tb (upd H 0 (some (roB c (.pb r') 1 1))) a r':=by
  obtain ⟨tg,h1⟩:=h.hl
  obtain ⟨ob,h2,h3⟩:=h.hk
  exact ⟨at_set h.h0,⟨tg,at_ne h1 (by have:=h.l0;omega)⟩,⟨ob,at_ne h2 (by have:=h.k0;omega),h3⟩,h.l0,h.k0,h.ne⟩
section
variable (c e:Nat) (ts:List Ty) (L K:Nat) (b:List UInt8) (cb tb:Nat)
def bvFr (i:Nat):AM.Frame:=[(2,.ptr 0 0 0 0),(12,t12 L),(16,.sl K 0 i i),(102,tyA e ts),(103,.int .i64 (ts.length:Nat)),(104,.int .i64 (i:Nat))]
def bvFz (i:Nat):AM.Frame:=[(2,.ptr 0 0 0 0),(12,t12 L),(16,.sl K 0 (i + 1) (i + 1)),(102,tyA e ts),(103,.int .i64 (ts.length:Nat)),(104,.int .i64 (i:Nat))]
def bvFm (i:Nat) (m tl:AM.Frame):AM.Frame:=[(2,.ptr 0 0 0 0),(12,t12 L),(16,.sl K 0 i i)] ++ m ++ [(102,tyA e ts),(103,.int .i64 (ts.length:Nat)),(104,.int .i64 (i:Nat))] ++ tl
theorem bv34 (i:Nat) (t:Ty) (H:AM.Heap) (ht:ts[i]? = some t) :
    ∃ code,((Tryz.f9.body).bind (codeAt [1,1,1,1,1,1,1,1,1,1,1,1,0,1,0,0,1,1,0,0,0])) = some code∧Run X (evT X) 9 0 code (bvFr e ts L K i ++ [(105,.bool true)]) H ⟨.normal,bvFm e ts L K i [(17,.int .i64 (i:Nat)),(18,.ptr H.length 0 0 0)] [],H ++ [some (tyO t)]⟩:=by
  refine ⟨_,rfl,?_⟩
  have hTl:(ts.map Ty.pay).length = ts.length:=List.length_map _
  have hrow:(ts.map Ty.pay)[i]? = some t.pay:=by rw [List.getElem?_map,ht];rfl
  have hlt:=at_lt ht
  have hiI:(i:Int) < (ts.length:Int):=by omega
  have hnew:∀ x:Option AM.Obj,(H ++ [x])[H.length]? = some x:=fun x=>by simp
  unfold bvFr bvFm tyA t12
  generalize ts.map Ty.pay = T at *
  simp only [Ty.pay] at hrow
  (refine ⟨0,?_⟩;simp (maxSteps:=2000000) -implicitDefEqProofs [-getElem?_pos,go_sem,eqV,plen,hiI,hlt,hTl,hrow,tyO,Ty.pay,retagL,retag,retagP,flatCells,splice,scalars,scalar,hnew,mkTy])
theorem bv35 (i k tg:Nat) (H:AM.Heap) (hi:i≤4096) (h8:i + 2 < 8 * b.length) (h1:H[L]? = some (some (roB cb (.pb b) tb tg))) :
    ∃ code,((Tryz.f9.body).bind (codeAt [1,1,1,1,1,1,1,1,1,1,1,1,0,1,0,0,1,1,0,0,1,0,0])) = some code∧Run X (evT X) 9 0 code (bvFm e ts L K i [(17,.int .i64 (i:Nat)),(18,.ptr k 0 0 0)] []) H ⟨.normal,bvFm e ts L K i [(18,.ptr k 0 0 0)] [(112,.bool (bitB b (i + 2)))],upd H L (some (roB cb (.pb b) tb tb))⟩:=by
  refine ⟨_,rfl,?_⟩
  have w2:IntKind.i64.wrap ((i:Int) + 2) = ((i + 2:Nat):Int):=by rw [wrap_i64 (by omega) (by omega)];omega
  have hS:=set_ev (H:=H) (I:=((i + 2:Nat):Int)) rfl h1 (by omega) (by omega)
  unfold bvFm tyA t12
  generalize ts.map Ty.pay = T at *
  generalize i + 2 = i2 at *
  generalize upd H L (some (roB cb (.pb b) tb tb)) = HU at *
  (refine ⟨0,?_⟩;simp (maxSteps:=2000000) -implicitDefEqProofs [-getElem?_pos,go_sem,eqV,plen,w2,hS])
theorem bv36 (k:Nat) (a:List Va) (r:List UInt8) (H:AM.Heap) (ha:a.length≤9000000) (hH:BvHp c L K b cb tb H a r) :
    ∃ H',BvHp c L K b cb tb H' (a ++ [({}:Va)]) r∧∃ code,((Tryz.f9.body).bind (codeAt [1,1,1,1,1,1,1,1,1,1,1,1,0,1,0,0,1,1,0,0,1,0,1,0,0])) = some code∧Run X (evT X) 9 0 code (bvFm e ts L K a.length [(18,.ptr k 0 0 0)] [(112,.bool true)]) H ⟨.normal,bvFz e ts L K a.length,H'⟩:=by
  obtain ⟨ob,h1,hw⟩:=hH.hk
  obtain ⟨ob',hw',hA⟩:=app_va ({}:Va) rfl ha h1 hw
  refine ⟨upd H K (some ob'),hH.put (by simpa using hw'),_,rfl,?_⟩
  have hbs:=fun H=>bsVa H ({}:Va)
  have hbv:=bvV0
  simp only [Va.pay,Int.cast_ofNat_Int] at hA hbs hbv
  unfold bvFm bvFz tyA t12
  generalize ts.map Ty.pay = T at *
  generalize a.length = i at *
  (refine ⟨0,?_⟩;simp (maxSteps:=2000000) -implicitDefEqProofs [-getElem?_pos,go_sem,eqV,plen,hbv,hbs,hA,assignV])
theorem bv37 (i k tg:Nat) (t:Ty) (r:List UInt8) (H:AM.Heap) (hc:c = 0→r = []) (ht:t.t < 256) (hr:r.length≤90000000) (h0:H[0]? = some (some (roB c (.pb r) 1 tg))) (hk:H[k]? = some (some (tyO t))) :
    ∃ code,((Tryz.f9.body).bind (codeAt [1,1,1,1,1,1,1,1,1,1,1,1,0,1,0,0,1,1,0,0,1,1,0])) = some code∧Run X (evT X) 9 0 code (bvFm e ts L K i [(18,.ptr k 0 0 0)] [(112,.bool false)]) H ⟨.normal,bvFm e ts L K i [(19,.ptr H.length 0 0 0),(20,.int .i64 ((rdV r t).2.1:Nat)),(21,.int .i64 (rdV r t).2.2)] [],H ++ [some (vaO (rdV r t).1)]⟩:=by
  refine ⟨_,rfl,?_⟩
  have hV:=vread_ev (H:=H) (a:=.ro c (.pb r) 1) (b:=r) (t:=t) (Byt.ro (.inl rfl) hc) ht hr
  have hnew:∀ x:Option AM.Obj,(H ++ [x])[H.length]? = some x:=fun x=>by simp
  generalize rdV r t = x at *
  obtain ⟨v,n,er⟩:=x
  unfold bvFm tyA t12
  generalize ts.map Ty.pay = T at *
  simp only [Ty.pay,Va.pay] at hV
  (refine ⟨0,?_⟩;simp (maxSteps:=2000000) -implicitDefEqProofs [-getElem?_pos,go_sem,eqV,plen,h0,hk,roB,tyO,Ty.pay,vaO,Va.pay,mkTy,mkVa,hV,hnew,retagL,retag,retagP,flatCells,splice,scalars,scalar,assignV])
theorem bv40 (k n:Nat) (v:Va) (a:List Va) (r:List UInt8) (H:AM.Heap) (hc:c = 0→r = []) (hn:n≤r.length) (ha:a.length≤9000000) (hk:H[k]? = some (some (vaO v))) (h0k:0 < k) (hkK:k ≠ K) (hH:BvHp c L K b cb tb H a r) :
    ∃ H',BvHp c L K b cb tb H' (a ++ [v]) (r.drop n)∧∃ code,((Tryz.f9.body).bind (codeAt [1,1,1,1,1,1,1,1,1,1,1,1,0,1,0,0,1,1,0,0,1,1,1,1])) = some code∧Run X (evT X) 9 0 code (bvFm e ts L K a.length [(19,.ptr k 0 0 0),(20,.int .i64 (n:Nat)),(21,.int .i64 0)] [(125,.bool false)]) H ⟨.normal,bvFz e ts L K a.length,H'⟩:=by
  obtain ⟨ob,h1,hw⟩:=hH.hk
  obtain ⟨ob',hw',hA⟩:=app_va v rfl ha h1 hw
  have hput:BvHp c L K b cb tb (upd H K (some ob')) (a ++ [v]) r:=hH.put (by simpa using hw')
  refine ⟨upd (upd H K (some ob')) 0 (some (roB c (.pb (r.drop n)) 1 1)),hput.store _,_,rfl,?_⟩
  have h0:=hput.h0
  have k0:=hH.k0
  have hkl:=at_lt hk
  have hbs:=fun H=>bsVa H v
  have hsl:=fun H=>slFrom (c:=c) (t:=1) (n:=n) (b:=r) hc hn H
  have hul:(upd H K (some ob')).length = H.length:=by simp [upd]
  have n1:(K == 0) = false:=beq_eq_false_iff_ne.2 (by omega)
  have n2:(k == 0) = false:=beq_eq_false_iff_ne.2 (by omega)
  have n3:(k == K) = false:=beq_eq_false_iff_ne.2 (by omega)
  simp only [Va.pay] at hA hbs
  unfold bvFm bvFz tyA t12
  generalize ts.map Ty.pay = T at *
  generalize a.length = i at *
  generalize upd H K (some ob') = HU at *
  simp only [roB] at h0
  apply Run.dy (by simp) keep9_40 (by simp)
  · (conv=>lhs;simp (maxSteps:=2000000) -implicitDefEqProofs [-getElem?_pos,go_sem,eqV,plen,runD,out1,markOf,freeO,quietO,pushes,isAssign,calledV,touched,mentioned,opVals,touchCall,mentionCall,idsAt,Op.operands,ids,idsL,lendArgs,lendV,lend1,lendL,eqH_self,hk,vaO,Va.pay,mkVa,hbs,hA,hsl,h0,roB,assignV,retagL,retag,retagP,flatCells,splice,scalars,scalar])
    rfl
  · refine marksOk_of (ps:=[(0,1),(0,2),(0,4),(1,4),(2,4),(3,4),(0,5),(1,5),(2,5),(3,5),(4,5),(0,6),(1,6),(2,6),(3,6),(4,7),(5,7),(6,7)]) (by kernel_rfl) ?_
    simp [bearP,bear,disjoint,lookOk,noslVa,Call.operands,evalO,getF,idsL,ids]
    omega
  · rfl
end
end Go.Proofs.YtafdnpcamepbmaaGreatDoor
