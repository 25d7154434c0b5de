/- Z1 to VG: texts of this claim, one behind the other; what each shows stands at its head. -/
import Derived.Test.YtafdnpcamepbmaaGreatDoorAm3
import Derived.Test.YtafdnpcamepbmaaGreatDoorMg10
set_option linter.unusedSimpArgs false
set_option linter.unusedVariables false
set_option maxRecDepth 100000
set_option maxHeartbeats 8000000
namespace Go.Proofs.YtafdnpcamepbmaaGreatDoor
open Go.AM
theorem vvEqF (a3 a4 a5 a8 a9 a10 a11 a12 a13 a14:Int) (a7:Bool) (a6:List UInt8) (xo yo:Operand) (H:AM.Heap) :
    eqV X H 41 (.agg (.pc [.int .i64 a3,.int .i64 a4,.int .u64 a5,.str a6,.bool a7,.int .i64 a8,.int .i64 a9,.int .i64 a10,.int .i64 a11,.int .i64 a12,.int .i64 a13,.int .i64 a14])) (.agg (.pc [.int .i64 a3,.int .i64 a4,.int .u64 a5,.str a6,.bool a7,.int .i64 a8,.int .i64 a9,.int .i64 a10,.int .i64 a11,.int .i64 a12,.int .i64 a13,.int .i64 a14])) xo yo =
      some (a3 == a3 && (a4 == a4 && (a5 == a5 && (a6 == a6 && ((a7 == a7 && (a8 == a8 && (a9 == a9 && (a10 == a10 && (a11 == a11 && (a12 == a12 && (a13 == a13 && (a14 == a14 && true)))))))) && true))))):=by kernel_rfl
theorem eqVv (p:Va) (xo yo:Operand) (H:AM.Heap):eqV X H 41 (.agg p.pay) (.agg p.pay) xo yo = some true:=by
  unfold Va.pay
  rw [vvEqF]
  simp
section
variable (c c2:Nat) (l:List Va)
def spFr (i:Nat):AM.Frame:=[(0,.ro c (.pr 12 (l.map Va.pay)) 1),(1,.ro c2 (.pr 12 (l.map Va.pay)) 2),(5,.int .i64 (i:Nat))]
theorem sp_round (i:Nat) (p:Va) (hl:l.length≤100000000) (hp:l[i]? = some p) :
    ∃ code,((Tryz.f8.body).bind (codeAt [1,1,0,1,0,0])) = some code∧Run X (evT X) 8 0 code (spFr c c2 l i) [] ⟨.normal,spFr c c2 l (i + 1),[]⟩:=by
  refine ⟨_,rfl,?_⟩
  have hlt:=at_lt hp
  have hiI:(i:Int) < (l.length:Int):=by omega
  have w1:IntKind.i64.wrap ((i:Int) + 1) = ((i + 1:Nat):Int):=by rw [wrap_i64 (by omega) (by omega)];omega
  have hrow:(l.map Va.pay)[i]? = some p.pay:=by rw [List.getElem?_map,hp];rfl
  have hL:(l.map Va.pay).length = l.length:=List.length_map _
  have hE:=fun xo yo=>eqVv p xo yo []
  unfold spFr
  generalize l.map Va.pay = L at *
  simp only [Va.pay] at hrow hE
  refine ⟨0,?_⟩
  simp (maxSteps:=2000000) -implicitDefEqProofs [-getElem?_pos,go_sem,eqV,plen,hlt,hiI,w1,hL,hrow,hE,mkVa,-eqV,retagL,retag,retagP,flatCells,splice,scalars,scalar]
theorem sp_code (hl:l.length≤100000000):∃ code,Tryz.f8.body = some code ∧
    Tells (Rets fun fr H=>getF fr 4 = .bool true) X (evT X) 8 0 code [(0,.ro c (.pr 12 (l.map Va.pay)) 1),(1,.ro c2 (.pr 12 (l.map Va.pay)) 2)] []:=by
  refine ⟨_,rfl,?_⟩
  have hL:(l.map Va.pay).length = l.length:=List.length_map _
  apply Tells.seq (fr':=[(0,.ro c (.pr 12 (l.map Va.pay)) 1),(1,.ro c2 (.pr 12 (l.map Va.pay)) 2)]) (H':=[])
  · generalize l.map Va.pay = L at *
    (refine ⟨0,?_⟩;simp (maxSteps:=2000000) -implicitDefEqProofs [-getElem?_pos,go_sem,eqV,plen])
  apply Tells.assoc
  apply Tells.seq (fr':=[(0,.ro c (.pr 12 (l.map Va.pay)) 1),(1,.ro c2 (.pr 12 (l.map Va.pay)) 2),(10,.bool false)]) (H':=[])
  · generalize l.map Va.pay = L at *
    (refine ⟨0,?_⟩;simp (maxSteps:=2000000) -implicitDefEqProofs [-getElem?_pos,go_sem,eqV,plen])
  apply Tells.seq (fr':=[(0,.ro c (.pr 12 (l.map Va.pay)) 1),(1,.ro c2 (.pr 12 (l.map Va.pay)) 2),(10,.bool false)]) (H':=[])
  · exact condF (by simp [evalO,getF]) ⟨0,rfl⟩
  apply Tells.assoc
  apply Tells.seq (fr':=spFr c c2 l 0) (H':=[])
  · unfold spFr
    generalize l.map Va.pay = L at *
    (refine ⟨0,?_⟩;simp (maxSteps:=2000000) -implicitDefEqProofs [-getElem?_pos,go_sem,eqV,plen])
  apply Tells.blockThen (P:=fun fr H=>fr = spFr c c2 l l.length ++ [(14,.bool false)]∧H = [])
  · refine Tells.loopP (fun k fr H=>∃ i,k = l.length - i∧i≤l.length∧fr = spFr c c2 l i∧H = []) ?_ (k:=l.length) ⟨0,rfl,by omega,rfl,rfl⟩
    rintro k fr H ⟨i,rfl,hi,rfl,rfl⟩
    by_cases hin:i = l.length
    · subst hin
      refine Tells.of (o:=⟨.exit 0,spFr c c2 l l.length ++ [(14,.bool false)],[]⟩) ⟨0,?_⟩ (.inr ⟨by simp,.inl ⟨rfl,rfl,rfl⟩⟩)
      unfold spFr
      generalize l.map Va.pay = L at *
      simp (maxSteps:=2000000) -implicitDefEqProofs [-getElem?_pos,go_sem,eqV,plen,hL]
    · obtain ⟨p,hp⟩:∃ p,l[i]? = some p:=⟨_,List.getElem?_eq_getElem (by omega)⟩
      exact Tells.of (piece (sp_round c c2 l i p hl hp) _ rfl) (.inl ⟨rfl,l.length - (i + 1),by omega,i + 1,rfl,by omega,rfl,rfl⟩)
  rintro fr H ⟨rfl,rfl⟩
  refine Tells.of (o:=⟨.ret,[(4,.bool true)],[]⟩) ⟨0,?_⟩ ⟨rfl,rfl⟩
  unfold spFr
  generalize l.map Va.pay = L at *
  simp (maxSteps:=2000000) -implicitDefEqProofs [-getElem?_pos,go_sem,eqV,plen]
end
theorem same_ev {H:AM.Heap} {a a2:AV} {l:List Va} (h:RoV H a l) (h2:RoV H a2 l) (hl:l.length≤100000000) :
    evT X 8 [a,a2] H = some (.bool true,H):=by
  obtain ⟨c2,p2,x2,hp2,_,hx2⟩:=args_v (f:=8) (i:=1) rfl h2 (args_nil 2)
  obtain ⟨c,p,x,hp,_,hx⟩:=args_v (f:=8) (i:=0) rfl h hx2
  obtain ⟨code,hcode,o,⟨he,h4⟩,hr⟩:=sp_code c c2 l hl
  exact evT_eq (Ev1.toldP (l:=[.bool true]) (evT_below X) Tryz.func8 hcode hx (by simp [idsL,ids,hp.ids,hp2.ids]) (by simp [gtag]) rfl rfl rfl ⟨o,⟨he,by show some [getF o.fr 4] = _;rw [h4]⟩,by rw [par8,coV hp,coV hp2,coerce_nil];exact hr⟩)
end Go.Proofs.YtafdnpcamepbmaaGreatDoor
namespace Go.Proofs.YtafdnpcamepbmaaGreatDoor
open Go.AM
theorem lives_evR (H:AM.Heap):evT X 4 [] H = some (.bool true,H) :=
  evT_eq (Ev1.triedP (T:=fun _ _ _=>none) Below.none (n:=400) (f:=4) (args:=[]) (v:=.bool true) (by kernel_rfl) rfl H)
section
variable (c:Nat) (b:List UInt8) (n:Int) (e:Nat) (ts:List Ty)
theorem reads_code (hc:c = 0→b = []) (he:e = 0→ts = []) (h256:∀ t ∈ ts,t.t < 256):∃ code,Tryz.f3.body = some code ∧
    Tells (Rets fun fr H=>getF fr 6 = .bool true) X (evT X) 3 0 code [(0,.ro c (.pb b) 1),(1,.int .i64 n),(2,.ro e (.pr 2 (ts.map Ty.pay)) 3)] []:=by
  refine ⟨_,rfl,?_⟩
  have hL:=fun H=>lives_evR H
  have hro:∀ H,Byt H (.ro c (.pb b) 1) b:=fun H=>Byt.ro (.inl rfl) hc
  have hTT:∀ H,RoT H (.ro e (.pr 2 (ts.map Ty.pay)) 3) ts:=fun H=>RoRow.ro fun h=>by rw [he h];rfl
  have hTl:(ts.map Ty.pay).length = ts.length:=List.length_map _
  obtain ⟨A,hA⟩:∃ A:AV,A = .ro e (.pr 2 (ts.map Ty.pay)) 3:=⟨_,rfl⟩
  apply Tells.seq (fr':=[(0,.ro c (.pb b) 1),(1,.int .i64 n),(2,A)]) (H':=[])
  · rw [← hA]
    (refine ⟨0,?_⟩;simp (maxSteps:=2000000) -implicitDefEqProofs [-getElem?_pos,go_sem,eqV,plen])
  apply Tells.seq (fr':=[(0,.ro c (.pb b) 1),(1,.int .i64 n),(2,A),(17,.bool false)]) (H':=[])
  · apply Run.seq (fr':=[(0,.ro c (.pb b) 1),(1,.int .i64 n),(2,A),(17,.bool false)]) (H':=[])
    · (refine ⟨0,?_⟩;simp (maxSteps:=2000000) -implicitDefEqProofs [-getElem?_pos,go_sem,eqV,plen,hL,unV])
    · exact condF (by simp [evalO,getF]) ⟨0,rfl⟩
  by_cases hbig:3000 < b.length∨60 < ts.length
  · refine Tells.of (o:=⟨.ret,[(6,.bool true)],[]⟩) ?_ ⟨rfl,rfl⟩
    apply Run.seq_out (hne:=by simp)
    rw [hA]
    generalize ts.map Ty.pay = T at *
    refine ⟨0,?_⟩
    by_cases h1:3000 < b.length
    · have h1I:(3000:Int) < (b.length:Int):=by omega
      simp (maxSteps:=2000000) -implicitDefEqProofs [-getElem?_pos,go_sem,eqV,plen,h1I]
    · have h1I:¬ (3000:Int) < (b.length:Int):=by omega
      have h2I:(60:Int) < (ts.length:Int):=by omega
      simp (maxSteps:=2000000) -implicitDefEqProofs [-getElem?_pos,go_sem,eqV,plen,h1I,h2I,hTl]
  have hb:b.length≤3000:=by omega
  have hn:ts.length≤60:=by omega
  apply Tells.seq (fr':=[(0,.ro c (.pb b) 1),(1,.int .i64 n),(2,A),(25,.bool false)]) (H':=[])
  · apply Run.seq (fr':=[(0,.ro c (.pb b) 1),(1,.int .i64 n),(2,A),(25,.bool false)]) (H':=[])
    · rw [hA]
      generalize ts.map Ty.pay = T at *
      have h1I:¬ (3000:Int) < (b.length:Int):=by omega
      have h2I:¬ (60:Int) < (ts.length:Int):=by omega
      (refine ⟨0,?_⟩;simp (maxSteps:=2000000) -implicitDefEqProofs [-getElem?_pos,go_sem,eqV,plen,h1I,h2I,hTl])
    · exact condF (by simp [evalO,getF]) ⟨0,rfl⟩
  rw [← hA] at hTT
  obtain ⟨hok,hT⟩:=trn_fine hb hn
  obtain ⟨obO,hO,hOw⟩:=own_ev (H:=[]) (hro _) (by omega)
  simp only [List.length_nil,List.nil_append] at hOw
  apply Tells.seq (fr':=[(0,.ro c (.pb b) 1),(1,.int .i64 n),(2,A),(7,.sl 0 0 b.length 0)]) (H':=[some obO])
  · (refine ⟨0,?_⟩;simp (maxSteps:=2000000) -implicitDefEqProofs [-getElem?_pos,go_sem,eqV,plen,hOw,assignV])
  have hS:∀ r:AM.Heap,Byt (some obO :: r) (.sl 0 0 b.length 0) b:=fun r=>OwnB.byt rfl hO
  obtain ⟨o1,w1,A1⟩:=trd_ev (H:=[some obO]) (n:=n) (hS _) (by omega)
  simp only [List.length_cons,List.length_nil,List.cons_append,List.nil_append] at A1
  apply Tells.seq (fr':=[(0,.ro c (.pb b) 1),(1,.int .i64 n),(2,A),(7,.sl 0 0 b.length 0),(8,.sl 1 0 (rdTxt b n).1.length 0),(9,.int .i64 (rdTxt b n).2)]) (H':=[some obO,some o1])
  · generalize rdTxt b n = x at *
    (refine ⟨0,?_⟩;simp (maxSteps:=2000000) -implicitDefEqProofs [-getElem?_pos,go_sem,eqV,plen,A1,assignV])
  obtain ⟨o2,w2,A2⟩:=drt_ev (H:=[some obO,some o1]) (n:=n) (hro _) (by omega)
  simp only [List.length_cons,List.length_nil,List.cons_append,List.nil_append] at A2
  rw [drTxt_eq] at w2 A2
  apply Tells.seq (fr':=[(0,.ro c (.pb b) 1),(2,A),(7,.sl 0 0 b.length 0),(8,.sl 1 0 (rdTxt b n).1.length 0),(9,.int .i64 (rdTxt b n).2),(10,.sl 2 0 (rdTxt b n).1.length 0),(11,.int .i64 (rdTxt b n).2)]) (H':=[some obO,some o1,some o2])
  · generalize rdTxt b n = x at *
    (refine ⟨0,?_⟩;simp (maxSteps:=2000000) -implicitDefEqProofs [-getElem?_pos,go_sem,eqV,plen,A2,assignV])
  have hlt:(rdTxt b n).1.length≤100000000:=by
    have:=txt_le b n
    omega
  have hSV:=same_ev (H:=[some obO,some o1,some o2]) (roV_whole (o:=1) rfl w1) (roV_whole (o:=2) rfl w2) hlt
  apply Tells.seq (fr':=[(0,.ro c (.pb b) 1),(2,A),(7,.sl 0 0 b.length 0),(48,.bool false)]) (H':=[some obO,some o1,some o2])
  · apply Run.seq (fr':=[(0,.ro c (.pb b) 1),(2,A),(7,.sl 0 0 b.length 0),(48,.bool false)]) (H':=[some obO,some o1,some o2])
    · generalize rdTxt b n = x at *
      (refine ⟨0,?_⟩;simp (maxSteps:=2000000) -implicitDefEqProofs [-getElem?_pos,go_sem,eqV,plen,hSV,unV])
    · exact condF (by simp [evalO,getF]) ⟨0,rfl⟩
  clear hSV A1 A2 hlt
  obtain ⟨o3,w3,A3⟩:=brd_ev (H:=[some obO,some o1,some o2]) (hS _) (hTT _) (by omega) h256
  simp only [List.length_cons,List.length_nil,List.cons_append,List.nil_append] at A3
  apply Tells.seq (fr':=[(0,.ro c (.pb b) 1),(2,A),(7,.sl 0 0 b.length 0),(8,.sl 3 0 (rdBin b ts).1.length 0),(9,.int .i64 (rdBin b ts).2)]) (H':=[some obO,some o1,some o2,some o3])
  · generalize rdBin b ts = x at *
    (refine ⟨0,?_⟩;simp (maxSteps:=2000000) -implicitDefEqProofs [-getElem?_pos,go_sem,eqV,plen,A3,assignV])
  obtain ⟨o4,w4,A4⟩:=drb_ev (H:=[some obO,some o1,some o2,some o3]) (hro _) (hTT _) (by omega) h256
  simp only [List.length_cons,List.length_nil,List.cons_append,List.nil_append] at A4
  rw [drBin_eq] at w4 A4
  apply Tells.seq (fr':=[(0,.ro c (.pb b) 1),(2,A),(7,.sl 0 0 b.length 0),(8,.sl 3 0 (rdBin b ts).1.length 0),(9,.int .i64 (rdBin b ts).2),(10,.sl 4 0 (rdBin b ts).1.length 0),(11,.int .i64 (rdBin b ts).2)]) (H':=[some obO,some o1,some o2,some o3,some o4])
  · generalize rdBin b ts = x at *
    (refine ⟨0,?_⟩;simp (maxSteps:=2000000) -implicitDefEqProofs [-getElem?_pos,go_sem,eqV,plen,A4,assignV])
  obtain ⟨o5,w5,A5⟩:=trn_ev (H:=[some obO,some o1,some o2,some o3,some o4]) (hS _) (hTT _) (by omega) h256 hok (by omega) hT
  simp only [List.length_cons,List.length_nil,List.cons_append,List.nil_append] at A5
  apply Tells.seq (fr':=[(0,.ro c (.pb b) 1),(2,A),(7,.sl 0 0 b.length 0),(8,.sl 3 0 (rdBin b ts).1.length 0),(9,.int .i64 (rdBin b ts).2),(10,.sl 4 0 (rdBin b ts).1.length 0),(11,.int .i64 (rdBin b ts).2),(12,.sl 5 0 (trdB b ts).1.length 0),(13,.int .i64 (trdB b ts).2)]) (H':=[some obO,some o1,some o2,some o3,some o4,some o5])
  · generalize rdBin b ts = x at *
    generalize trdB b ts = y at *
    (refine ⟨0,?_⟩;simp (maxSteps:=2000000) -implicitDefEqProofs [-getElem?_pos,go_sem,eqV,plen,A5,assignV])
  obtain ⟨o6,w6,A6⟩:=dtrn_ev (H:=[some obO,some o1,some o2,some o3,some o4,some o5]) (hro _) (hTT _) (by omega) h256 hok (by omega) hT
  simp only [List.length_cons,List.length_nil,List.cons_append,List.nil_append] at A6
  apply Tells.seq (fr':=[(0,.ro c (.pb b) 1),(7,.sl 0 0 b.length 0),(8,.sl 3 0 (rdBin b ts).1.length 0),(9,.int .i64 (rdBin b ts).2),(10,.sl 4 0 (rdBin b ts).1.length 0),(11,.int .i64 (rdBin b ts).2),(12,.sl 5 0 (trdB b ts).1.length 0),(13,.int .i64 (trdB b ts).2),(14,.sl 6 0 (trdB b ts).1.length 0),(15,.int .i64 (trdB b ts).2)]) (H':=[some obO,some o1,some o2,some o3,some o4,some o5,some o6])
  · generalize rdBin b ts = x at *
    generalize trdB b ts = y at *
    (refine ⟨0,?_⟩;simp (maxSteps:=2000000) -implicitDefEqProofs [-getElem?_pos,go_sem,eqV,plen,A6,assignV])
  have hl2:=rdBin_le b ts
  have hSV:=same_ev (H:=[some obO,some o1,some o2,some o3,some o4,some o5,some o6]) (roV_whole (o:=3) rfl w3) (roV_whole (o:=4) rfl w4) (by omega)
  have hSB:=sameB_ev (H:=[some obO,some o1,some o2,some o3,some o4,some o5,some o6]) (Byt.whole (o:=5) rfl w5) (Byt.whole (o:=6) rfl w6)
  rw [beq_self_eq_true] at hSB
  have hK:=kept_ev (H:=[some obO,some o1,some o2,some o3,some o4,some o5,some o6]) (o:=0) (c:=c) (t:=1) rfl hO hc (by omega)
  refine Tells.of (o:=⟨.ret,[(6,.bool true)],[some obO,some o1,some o2,some o3,some o4,some o5,some o6]⟩) ⟨0,?_⟩ ⟨rfl,rfl⟩
  clear A3 A4 A5 A6 hok hT
  generalize rdBin b ts = x at *
  generalize trdB b ts = y at *
  simp (maxSteps:=2000000) -implicitDefEqProofs [-getElem?_pos,go_sem,eqV,plen,hSV,hSB,hK]
end
end Go.Proofs.YtafdnpcamepbmaaGreatDoor
namespace Go.Proofs.YtafdnpcamepbmaaGreatDoor
open Go.AM
theorem row_ty {r:List AV} {cs:List Value} (h:Cells [.i .u8,.b] r cs):∃ p:Ty,AV.pc r = p.pay∧p.t < 256:=by
  rcases h with _ | ⟨h0,h⟩
  rcases h with _ | ⟨h1,h⟩
  cases h
  obtain ⟨x0,rfl,_,w0⟩:=h0
  obtain ⟨x0,rfl,b0⟩:=AM.nat_wf rfl w0
  obtain ⟨x1,rfl,_⟩:=h1
  exact ⟨⟨x0,x1⟩,rfl,b0⟩
theorem lv_ty:leaves Tryz.prog 6 44 = some [.i .u8,.b]:=by kernel_rfl
theorem arg_tys {H:Type} {enc:TypeId × Value→H} {W:World} {base:Nat} {v:Value} {d:DataW H} {ps:List MemPlace} (hval:Value.okWide Tryz.prog W .any base 23 v) (hd:DataW.Trod enc Tryz.prog W 0 (fun _=>true) true 23 v d ps) :
    ∃ (c:Nat) (l:List Ty),(∀ p ∈ l,p.t < 256)∧(c = 0→l = [])∧l.length≤maxLen∧AM.VRel (AM.start W) (AM.T0 W.heap.size) (.ro c (.pr 2 (l.map Ty.pay)) 1) v:=by
  obtain ⟨c,rows,h1,h2,h3,h4⟩:=AM.arg_rows (show Tryz.prog.underlying 23 = some (.slice 44) by kernel_rfl) lv_ty (by kernel_rfl) (by simp) hval hd
  obtain ⟨l,q1,q2,q3⟩:=AM.rows_as AV.pc Ty.pay (Q:=fun p=>p.t < 256) (rows:=rows) (fun r hr=>by
    obtain ⟨⟨cs,h⟩,hs⟩:=h1 r hr
    obtain ⟨p,e,h5⟩:=row_ty h
    exact ⟨p,e,h5⟩)
  refine ⟨c,l,q3,fun h=>?_,by rw [q2];exact h3,?_⟩
  · have:=h2 h
    subst this
    exact List.eq_nil_of_length_eq_zero q2
  · rw [← q1]
    exact h4
end Go.Proofs.YtafdnpcamepbmaaGreatDoor
