/- W2 to DQ: texts of this claim, one behind the other; what each shows stands at its head. -/
import Derived.Test.YteblpjhkgdpchaaMg3
set_option linter.unusedSimpArgs false
set_option linter.unusedVariables false
set_option maxRecDepth 100000
set_option maxHeartbeats 8000000
namespace Go.Proofs.Yteblpjhkgdpchaa
open Go.AM
theorem um (l:List Int):(fC l).1.length = 16:=by
 unfold fC
 split
 ·rfl
 ·rw [wS];rfl
theorem Ei:∀ (l n:List Int),(jJ n l).2 = 0→∀ x ∈ l,0≤x∧x≤15
 | [],n,_=>by simp
 | x :: r,n,h=>by
  simp only [jJ] at h
  split at h
  ·rename_i hx
   intro y hy
   rcases List.mem_cons.1 hy with rfl | hy
   ·exact hx
   ·exact Ei r _ h y hy
  ·simp at h
theorem JI {l:List Int} (h:(fC l).2 = 0):l.length≤320∧∀ x ∈ l,0≤x∧x≤15:=by
 unfold fC at h
 split at h
 ·simp at h
 ·rename_i hl
  exact ⟨by omega,Ei l z16 h⟩
def cnt (l:List Int):AV:=.tup [.agg (.pi .i64 (fC l).1),.int .i64 (fC l).2]
theorem Np (c:Nat) (l:List Int) (h63:l.length < 9223372036854775808):Ev1 X 51 [.ro c (.pi .i64 l) 1] [] (cnt l,[]):=by
 obtain ⟨code,hb,hr⟩:=Hl (fun _ _ _=>.none) c l h63
 have hn:=um l
 exact Ev1.plain (l:=[.agg (.pi .i64 (fC l).1),.int .i64 (fC l).2]) Below.none Try.func51 hb rfl rfl (by simp [dJ]) hr (.inr rfl) (by
  have:Try.f51.results.toList = [.cell 2 73,.tmp 3]:=rfl
  rw [this]
  simp [-getElem?_pos,List.getElem?_cons_zero,bf,sV,aI,live,bx,DT,hn,uo]) rfl rfl
def S1 (f:Nat) (xs:List AV):Option (AV × AM.Heap) :=
 match f,xs with
 | 51,[.ro _ (.pi .i64 l) 1]=>if l.length < 9223372036854775808 then some (cnt l,[]) else .none
 | _,_=>.none
theorem Tf:∀ f xs v N,S1 f xs = some (v,N)→Ev1 X f xs [] (v,N):=by
 intro f xs v N h
 unfold S1 at h
 split at h
 ·split at h
  ·rename_i hl
   simp only [Option.some.injEq,Prod.mk.injEq] at h
   obtain ⟨rfl,rfl⟩:=h
   exact Np _ _ hl
  ·cases h
 ·cases h
noncomputable def T1:Cf:=x9 X S1
theorem OI:Below X T1:=uq Tf
theorem Nq {H:AM.Heap} {a:AV} {l:List Int} (h:iD H a = some (.pi .i64 l)) (hl:l.length < 9223372036854775808):T1 51 [a] H = some (cnt l,H):=by
 obtain ⟨c,x,hx⟩:=fJ (C:=X) (f:=51) (i:=0) rfl h (dQ 1)
 unfold T1 x9
 rw [hx]
 simp [S1,hl,aT,ids,cnt,wU,qA,tags,bW,dX,kU,ren,dN]
theorem VO (c t:Nat) (l:List Int) (H:AM.Heap) (hl:l.length < 9223372036854775808):T1 51 [.ro c (.pi .i64 l) t] H = some (cnt l,H):=Nq rfl hl
def JJ (n:List Int):Nat→Nat→Int→Int
 | 0,_,s=>s
 | k + 1,i,s=>JJ n k (i + 1) (IntKind.i64.wrap (s + IntKind.i64.wrap (n.getD i 0 * 2 ^ (min (15 - i) 64))))
def nZ (l:List Int):Bool × Int :=
 if (fC l).2 = 0 then
  if 32768 < JJ (fC l).1 15 1 0 then (false,7) else (JJ (fC l).1 15 1 0 == 32768,0)
 else (false,(fC l).2)
theorem JK (c:Nat) (l:List Int) (h63:l.length < 9223372036854775808):∃ code,Try.f50.body = some code ∧
  Run X T1 50 0 code [(0,.ro c (.pi .i64 l) 1)] [] ⟨.ret,[(2,.bool (nZ l).1),(3,.int .i64 (nZ l).2)],[bx (fC l).1]⟩:=by
 refine ⟨_,rfl,?_⟩
 have hT:=fun H=>VO c 1 l H h63
 have hn:=um l
 unfold nZ
 unfold cnt at hT
 generalize (fC l).1 = n at hT hn ⊢
 generalize (fC l).2 = e at hT ⊢
 apply Run.seq
 ·(refine ⟨0,?_⟩;conv=>lhs;simp (maxSteps:=2000000) -implicitDefEqProofs [-getElem?_pos,go_sem,eqV,aj])
 apply Run.seq
 ·(refine ⟨0,?_⟩;conv=>lhs;simp (maxSteps:=2000000) -implicitDefEqProofs [-getElem?_pos,go_sem,eqV,aj,hT,hn])
 by_cases he:e = 0
 ·subst he
  simp only [if_true]
  apply Run.seq
  ·apply Run.seq
   ·(refine ⟨0,?_⟩;conv=>lhs;simp (maxSteps:=2000000) -implicitDefEqProofs [-getElem?_pos,go_sem,eqV,aj])
   ·exact Run.cond (d:=false) rfl ⟨0,rfl⟩
  apply Run.seq
  ·(refine ⟨0,?_⟩;conv=>lhs;simp (maxSteps:=2000000) -implicitDefEqProofs [-getElem?_pos,go_sem,eqV,aj])
  apply Run.seq (fr':=[(4,.ptr 0 0 0 0),(5,.int .i64 (JJ n 15 1 0)),(6,.int .i64 16),(16,.bool false)]) (H':=[bx n])
  ·apply Run.seq (fr':=[(4,.ptr 0 0 0 0),(5,.int .i64 0),(6,.int .i64 (1:Nat))]) (H':=[bx n])
   ·(refine ⟨0,?_⟩;simp (maxSteps:=2000000) -implicitDefEqProofs [-getElem?_pos,go_sem,eqV,aj,bx])
   ·apply Run.fV
    refine Run.lq (σ:=Nat × Nat × Int) (fun s=>s.1 + s.2.1 = 16∧1≤s.2.1) (fun s=>[(4,.ptr 0 0 0 0),(5,.int .i64 s.2.2),(6,.int .i64 (s.2.1:Nat))]) (fun _=>[bx n])
     (fun s=>⟨.exit 0,[(4,.ptr 0 0 0 0),(5,.int .i64 (JJ n s.1 s.2.1 s.2.2)),(6,.int .i64 16),(16,.bool false)],[bx n]⟩) (fun s=>s.1) ?_ (15,1,0) ⟨rfl,Nat.le_refl 1⟩
    rintro ⟨k,i,s⟩ ⟨hk,hi⟩
    simp only at hk hi ⊢
    cases k with
    | zero =>
     right
     have:i = 16:=by omega
     subst this
     refine ⟨?_,by simp⟩
     apply Run.bH
     ·(refine ⟨0,?_⟩;simp (maxSteps:=2000000) -implicitDefEqProofs [-getElem?_pos,go_sem,eqV,aj,JJ])
     ·simp
    | succ k =>
     left
     refine ⟨(k,i + 1,IntKind.i64.wrap (s + IntKind.i64.wrap (n.getD i 0 * 2 ^ (min (15 - i) 64)))),⟨show k + (i + 1) = 16 by omega,show 1≤i + 1 by omega⟩,?_,rfl,by simp⟩
     obtain ⟨v,hv⟩:∃ v,n[i]? = some v:=⟨n[i]'(by omega),List.getElem?_eq_getElem (by omega)⟩
     have TW:(i:Int)≤15:=by omega
     have TY:i < 16:=by omega
     have Ub:(i:Int) < 16:=by omega
     have e1:IntKind.i64.wrap (15 - (i:Int)) = 15 - (i:Int):=wrap_i64 (by omega) (by omega)
     have e2:(15 - (i:Int)).toNat = 15 - i:=by omega
     have e3:¬ (15 - (i:Int) < 0):=by omega
     have e4:IntKind.i64.wrap ((i:Int) + 1) = (i:Int) + 1:=wrap_i64 (by omega) (by omega)
     apply Run.seq
     ·(refine ⟨0,?_⟩;conv=>lhs;simp (maxSteps:=2000000) -implicitDefEqProofs [-getElem?_pos,go_sem,eqV,aj,TW])
     apply Run.seq
     ·apply Run.block
      ·(refine ⟨0,?_⟩;conv=>lhs;simp (maxSteps:=2000000) -implicitDefEqProofs [-getElem?_pos,go_sem,eqV,aj,bx,hn,TY,Ub,hv,e1,e2,e3,IntKind.bits])
      ·simp
     ·(refine ⟨0,?_⟩;simp (maxSteps:=2000000) -implicitDefEqProofs [-getElem?_pos,go_sem,eqV,aj,e4,List.getD_eq_getElem?_getD,hv,bx])
  ·by_cases hs:32768 < JJ n 15 1 0
   ·simp only [hs,if_true]
    apply Run.bH
    ·apply Run.seq
     ·(refine ⟨0,?_⟩;conv=>lhs;simp (maxSteps:=2000000) -implicitDefEqProofs [-getElem?_pos,go_sem,eqV,aj,hs])
     ·refine Run.cond (d:=true) rfl ?_
      apply Run.seq
      ·(refine ⟨0,?_⟩;conv=>lhs;simp (maxSteps:=2000000) -implicitDefEqProofs [-getElem?_pos,go_sem,eqV,aj])
      ·exact ⟨0,rfl⟩
    ·simp
   ·simp only [hs,if_false]
    apply Run.seq
    ·apply Run.seq
     ·(refine ⟨0,?_⟩;conv=>lhs;simp (maxSteps:=2000000) -implicitDefEqProofs [-getElem?_pos,go_sem,eqV,aj,hs])
     ·exact Run.cond (d:=false) rfl ⟨0,rfl⟩
    apply Run.seq
    ·(refine ⟨0,?_⟩;conv=>lhs;simp (maxSteps:=2000000) -implicitDefEqProofs [-getElem?_pos,go_sem,eqV,aj])
    ·exact ⟨0,rfl⟩
 ·simp only [he,if_false]
  have hb:(e != 0) = true:=by simpa using he
  apply Run.bH
  ·apply Run.seq
   ·(refine ⟨0,?_⟩;conv=>lhs;simp (maxSteps:=2000000) -implicitDefEqProofs [-getElem?_pos,go_sem,eqV,aj,hb])
   ·refine Run.cond (d:=true) rfl ?_
    apply Run.seq
    ·(refine ⟨0,?_⟩;conv=>lhs;simp (maxSteps:=2000000) -implicitDefEqProofs [-getElem?_pos,go_sem,eqV,aj,bx])
    ·exact ⟨0,rfl⟩
  ·simp
end Go.Proofs.Yteblpjhkgdpchaa
namespace Go.Proofs.Yteblpjhkgdpchaa
open Go.AM
def lZ (n:List Int):Option AM.Obj:=some { p:=.pi .i64 n,g:=0,cap:=some 17,z:=1,row:=false,ids:=false,tg:=0 }
def z17:List Int:=[0,0,0,0,0,0,0,0,0,0,0,0,0,0,0,0,0]
def uw (n:List Int):Nat→Nat→List Int→List Int
 | 0,_,f=>f
 | k + 1,i,f=>uw n k (i + 1) (f.set (i + 1) (IntKind.i64.wrap (IntKind.i64.wrap (f.getD i 0 + n.getD i 0) * 2)))
def kM (n:List Int):List Int:=uw (n.set 0 0) 15 1 z17
theorem rH (n:List Int):∀ (k i:Nat) (f:List Int),(uw n k i f).length = f.length
 | 0,_,_=>rfl
 | k + 1,i,f=>by rw [uw,rH n k];simp
theorem Hr (T:Cf) (n0:List Int) (hn0:n0.length = 16):∃ code,Try.f52.body = some code ∧
  Run X T 52 0 code [(0,.agg (.pi .i64 n0))] [] ⟨.ret,[(2,.ptr 1 0 0 0)],[bx (n0.set 0 0),lZ (kM n0),lZ (kM n0)]⟩:=by
 refine ⟨_,rfl,?_⟩
 unfold kM
 have hn:(n0.set 0 0).length = 16:=by simpa using hn0
 have h0:0 < n0.length:=by omega
 apply Run.seq
 ·(refine ⟨0,?_⟩;conv=>lhs;simp (maxSteps:=2000000) -implicitDefEqProofs [-getElem?_pos,go_sem,eqV,aj,hn0])
 apply Run.seq
 ·(refine ⟨0,?_⟩;conv=>lhs;simp (maxSteps:=2000000) -implicitDefEqProofs [-getElem?_pos,go_sem,eqV,aj])
 apply Run.seq (fr':=[(1,.ptr 0 0 0 0),(2,.ptr 1 0 0 0),(3,.ptr 2 0 0 0)]) (H':=[bx (n0.set 0 0),lZ z17,lZ z17])
 ·(refine ⟨0,?_⟩;simp (maxSteps:=2000000) -implicitDefEqProofs [-getElem?_pos,go_sem,eqV,aj,h0,bx,lZ,z17,hn0])
 generalize n0.set 0 0 = n at hn ⊢
 have hlen:=rH n 15 1 z17
 apply Run.seq (fr':=[(1,.ptr 0 0 0 0),(2,.ptr 1 0 0 0),(3,.ptr 2 0 0 0),(4,.int .i64 16),(7,.bool false)]) (H':=[bx n,lZ z17,lZ (uw n 15 1 z17)])
 ·apply Run.seq (fr':=[(1,.ptr 0 0 0 0),(2,.ptr 1 0 0 0),(3,.ptr 2 0 0 0),(4,.int .i64 (1:Nat))]) (H':=[bx n,lZ z17,lZ z17])
  ·(refine ⟨0,?_⟩;simp (maxSteps:=2000000) -implicitDefEqProofs [-getElem?_pos,go_sem,eqV,aj])
  ·apply Run.fV
   refine Run.lq (σ:=Nat × Nat × List Int) (fun s=>s.1 + s.2.1 = 16∧1≤s.2.1∧s.2.2.length = 17) (fun s=>[(1,.ptr 0 0 0 0),(2,.ptr 1 0 0 0),(3,.ptr 2 0 0 0),(4,.int .i64 (s.2.1:Nat))]) (fun s=>[bx n,lZ z17,lZ s.2.2])
    (fun s=>⟨.exit 0,[(1,.ptr 0 0 0 0),(2,.ptr 1 0 0 0),(3,.ptr 2 0 0 0),(4,.int .i64 16),(7,.bool false)],[bx n,lZ z17,lZ (uw n s.1 s.2.1 s.2.2)]⟩) (fun s=>s.1) ?_ (15,1,z17) ⟨rfl,Nat.le_refl 1,rfl⟩
   rintro ⟨k,i,f⟩ ⟨hk,hi,hf⟩
   simp only at hk hi hf ⊢
   cases k with
   | zero =>
    right
    have:i = 16:=by omega
    subst this
    refine ⟨?_,by simp⟩
    apply Run.bH
    ·(refine ⟨0,?_⟩;simp (maxSteps:=2000000) -implicitDefEqProofs [-getElem?_pos,go_sem,eqV,aj,uw])
    ·simp
   | succ k =>
    left
    refine ⟨(k,i + 1,f.set (i + 1) (IntKind.i64.wrap (IntKind.i64.wrap (f.getD i 0 + n.getD i 0) * 2))),⟨show k + (i + 1) = 16 by omega,show 1≤i + 1 by omega,by simpa using hf⟩,?_,rfl,by simp⟩
    obtain ⟨v,hv⟩:∃ v,n[i]? = some v:=⟨n[i]'(by omega),List.getElem?_eq_getElem (by omega)⟩
    obtain ⟨u,hu⟩:∃ v,f[i]? = some v:=⟨f[i]'(by omega),List.getElem?_eq_getElem (by omega)⟩
    have TW:(i:Int)≤15:=by omega
    have TY:i < 16:=by omega
    have Ub:(i:Int) < 16:=by omega
    have aah:(i:Int) < 17:=by omega
    have aai:i + 1 < 17:=by omega
    have aaj:i < 17:=by omega
    have hiI:(i:Int) + 1 < 17:=by omega
    have hiJ:(0:Int)≤(i:Int) + 1:=by omega
    have e4:IntKind.i64.wrap ((i:Int) + 1) = (i:Int) + 1:=wrap_i64 (by omega) (by omega)
    have e5:((i:Int) + 1).toNat = i + 1:=by omega
    apply Run.seq
    ·(refine ⟨0,?_⟩;conv=>lhs;simp (maxSteps:=2000000) -implicitDefEqProofs [-getElem?_pos,go_sem,eqV,aj,TW])
    apply Run.seq
    ·apply Run.block
     ·(refine ⟨0,?_⟩;conv=>lhs;simp (maxSteps:=2000000) -implicitDefEqProofs [-getElem?_pos,go_sem,eqV,aj,bx,lZ,hn,hf,TY,Ub,aah,aai,aaj,hiI,hiJ,hv,hu,e4,e5,IntKind.bits])
     ·simp
    ·(refine ⟨0,?_⟩;simp (maxSteps:=2000000) -implicitDefEqProofs [-getElem?_pos,go_sem,eqV,aj,e4,List.getD_eq_getElem?_getD,hv,hu,bx,lZ])
 generalize uw n 15 1 z17 = F at hlen ⊢
 have hF:F.length = 17:=hlen
 apply Run.seq
 ·(refine ⟨0,?_⟩;conv=>lhs;simp (maxSteps:=2000000) -implicitDefEqProofs [-getElem?_pos,go_sem,eqV,aj,bx,lZ,z17,hF])
 ·exact ⟨0,rfl⟩
def ckV (l:List Int):AV:=.tup [.bool (nZ l).1,.int .i64 (nZ l).2]
theorem OJ (c:Nat) (l:List Int) (h63:l.length < 9223372036854775808):Ev1 X 50 [.ro c (.pi .i64 l) 1] [] (ckV l,[]):=by
 obtain ⟨code,hb,hr⟩:=JK c l h63
 exact Ev1.plain (l:=[.bool (nZ l).1,.int .i64 (nZ l).2]) OI Try.func50 hb rfl rfl (by simp [dJ]) hr (.inr rfl) rfl rfl rfl
theorem Nr (n:List Int) (hn:n.length = 16):Ev1 X 52 [.agg (.pi .i64 n)] [] (.agg (.pi .i64 (kM n)),[]):=by
 obtain ⟨code,hb,hr⟩:=Hr (fun _ _ _=>.none) n hn
 have hF:(kM n).length = 17:=rH _ _ _ _
 exact Ev1.plain (l:=[.agg (.pi .i64 (kM n))]) Below.none Try.func52 hb rfl rfl (by simp [dJ]) hr (.inr rfl) (by
  have:Try.f52.results.toList = [.cell 2 76]:=rfl
  rw [this]
  simp [-getElem?_pos,List.getElem?_cons_zero,List.getElem?_cons_succ,bf,sV,aI,live,bx,lZ,DT,hF,uo]) rfl rfl
def S2 (f:Nat) (xs:List AV):Option (AV × AM.Heap) :=
 match f,xs with
 | 50,[.ro _ (.pi .i64 l) 1]=>if l.length < 9223372036854775808 then some (ckV l,[]) else .none
 | 52,[.agg (.pi .i64 n)]=>if n.length = 16 then some (.agg (.pi .i64 (kM n)),[]) else .none
 | f,xs=>S1 f xs
theorem VP:∀ f xs v N,S2 f xs = some (v,N)→Ev1 X f xs [] (v,N):=by
 intro f xs v N h
 unfold S2 at h
 split at h
 ·split at h
  ·rename_i hl
   simp only [Option.some.injEq,Prod.mk.injEq] at h
   obtain ⟨rfl,rfl⟩:=h
   exact OJ _ _ hl
  ·cases h
 ·split at h
  ·rename_i hl
   simp only [Option.some.injEq,Prod.mk.injEq] at h
   obtain ⟨rfl,rfl⟩:=h
   exact Nr _ hl
  ·cases h
 ·exact Tf _ _ _ _ h
noncomputable def T2:Cf:=x9 X S2
theorem OL:Below X T2:=uq VP
theorem Ns {H:AM.Heap} {a:AV} {l:List Int} (h:iD H a = some (.pi .i64 l)) (hl:l.length < 9223372036854775808):T2 51 [a] H = some (cnt l,H):=by
 obtain ⟨c,x,hx⟩:=fJ (C:=X) (f:=51) (i:=0) rfl h (dQ 1)
 unfold T2 x9
 rw [hx]
 simp [S1,S2,hl,aT,ids,cnt,wU,qA,tags,bW,dX,kU,ren,dN]
theorem OM {H:AM.Heap} {a:AV} {l:List Int} (h:iD H a = some (.pi .i64 l)) (hl:l.length < 9223372036854775808):T2 50 [a] H = some (ckV l,H):=by
 obtain ⟨c,x,hx⟩:=fJ (C:=X) (f:=50) (i:=0) rfl h (dQ 1)
 unfold T2 x9
 rw [hx]
 simp [S2,hl,aT,ids,ckV,wU,qA,tags,bW,dX,kU,ren,dN]
theorem Nu {H:AM.Heap} {n:List Int} (hn:n.length = 16):T2 52 [.agg (.pi .i64 n)] H = some (.agg (.pi .i64 (kM n)),H):=by
 unfold T2 x9
 rw [iM (C:=X) (f:=52) (i:=0) rfl rfl (dQ 1)]
 simp [S2,hn,aT,ids,wU,qA,tags,bW,dX,kU,ren,dN]
end Go.Proofs.Yteblpjhkgdpchaa
namespace Go.Proofs.Yteblpjhkgdpchaa
open Go.AM
def jH:Option AM.Obj:=some { p:=.pi .i64 [],g:=0,cap:=.none,z:=0,row:=true,ids:=false,tg:=0 }
def dK (k:Nat) (l:List Int):Option AM.Obj:=some { p:=.pi .i64 l,g:=0,cap:=some k,z:=1,row:=true,ids:=false,tg:=0 }
def qB:List Int→List Int→List Int
 | _,[]=>[]
 | next,x :: r=>if 0 < x then next.getD x.toNat 0 :: qB (next.set x.toNat (IntKind.i64.wrap (next.getD x.toNat 0 + 1))) r else -1 :: qB next r
def uy:List Int→List Int→List Int
 | next,[]=>next
 | next,x :: r=>if 0 < x then uy (next.set x.toNat (IntKind.i64.wrap (next.getD x.toNat 0 + 1))) r else uy next r
theorem BG:∀ (next l:List Int),(qB next l).length = l.length
 | _,[]=>rfl
 | next,x :: r=>by
  simp only [qB]
  split <;> simp [BG _ r]
def zu (l:List Int):List Int:=qB (kM (fC l).1) l
theorem set_mid (pre:List Int) (v w:Int) (n k:Nat) (h:k = pre.length):(pre ++ List.replicate (n + 1) v).set k w = (pre ++ [w]) ++ List.replicate n v:=by
 subst h
 rw [List.set_append_right _ _ (Nat.le_refl _),Nat.sub_self,List.replicate_succ,List.set_cons_zero]
 simp
def BH (c:Nat) (l:List Int) (i:Nat):AM.Frame:=[(8,.ptr 2 0 0 0),(9,.sl 3 0 l.length 0),(30,.ro c (.pi .i64 l) 1),(31,.int .i64 l.length),(32,.int .i64 (i:Nat))]
theorem JL (c:Nat) (l:List Int) (he:(nZ l).2 = 0):∃ code,Try.f31.body = some code ∧
  Run X T2 31 0 code [(0,.ro c (.pi .i64 l) 1)] [] ⟨.ret,[(2,.sl 3 0 l.length 0),(3,.int .i64 0)],[jH,bx (fC l).1,lZ (uy (kM (fC l).1) l),dK l.length (zu l)]⟩:=by
 have hce:(fC l).2 = 0:=by
  unfold nZ at he
  split at he
  ·assumption
  ·rename_i h;exact absurd he h
 obtain ⟨aak,hall⟩:=JI hce
 have h63:l.length < 9223372036854775808:=by omega
 have hn:=um l
 have hm1:(l.length:Int)≤9223372036854775807:=by omega
 have hm2:8 * (l.length:Int)≤140737488355328:=by omega
 have hT:=fun H=>OM (H:=H) (a:=.ro c (.pi .i64 l) 1) rfl h63
 have hC:=fun H=>Ns (H:=H) (a:=.ro c (.pi .i64 l) 1) rfl h63
 have hF:=fun H=>Nu (H:=H) hn
 unfold ckV at hT
 unfold cnt at hC
 unfold zu
 rw [hce] at hC
 have hf:(kM (fC l).1).length = 17:=rH _ _ _ _
 generalize (fC l).1 = n at hn hC hF hf ⊢
 generalize kM n = Ht at hF hf ⊢
 refine ⟨_,rfl,?_⟩
 apply Run.seq
 ·(refine ⟨0,?_⟩;conv=>lhs;simp (maxSteps:=2000000) -implicitDefEqProofs [-getElem?_pos,go_sem,eqV,aj,rowOf,dB])
 apply Run.seq
 ·(refine ⟨0,?_⟩;conv=>lhs;simp (maxSteps:=2000000) -implicitDefEqProofs [-getElem?_pos,go_sem,eqV,aj,hT,he])
 apply Run.seq
 ·(refine ⟨0,?_⟩;conv=>lhs;simp (maxSteps:=2000000) -implicitDefEqProofs [-getElem?_pos,go_sem,eqV,aj,hC,hn])
 apply Run.seq
 ·(refine ⟨0,?_⟩;conv=>lhs;simp (maxSteps:=2000000) -implicitDefEqProofs [-getElem?_pos,go_sem,eqV,aj,hF,hn,hf])
 apply Run.seq (fr':=[(0,.ro c (.pi .i64 l) 1),(8,.ptr 2 0 0 0),(9,.sl 3 0 l.length 0)]) (H':=[jH,bx n,lZ Ht,dK l.length (List.replicate l.length 0)])
 ·(refine ⟨0,?_⟩;simp (maxSteps:=2000000) -implicitDefEqProofs [-getElem?_pos,go_sem,eqV,aj,fB,jm,eF,scalars,aT,ids,bW,rowOf,hm1,hm2,jH,bx,lZ,dK])
 apply Run.seq (fr':=BH c l l.length ++ [(33,.bool false)]) (H':=[jH,bx n,lZ (uy Ht l),dK l.length (qB Ht l)])
 ·apply Run.seq (fr':=BH c l 0) (H':=[jH,bx n,lZ Ht,dK l.length ([] ++ List.replicate l.length 0)])
  ·(refine ⟨0,?_⟩;simp (maxSteps:=2000000) -implicitDefEqProofs [-getElem?_pos,go_sem,eqV,aj,BH])
  ·apply Run.fV
   refine Run.lq (σ:=List Int × List Int × List Int × List Int) (fun s=>s.1.length = 17∧s.2.1.length = s.2.2.1.length∧s.2.2.1 ++ s.2.2.2 = l) (fun s=>BH c l s.2.2.1.length)
    (fun s=>[jH,bx n,lZ s.1,dK l.length (s.2.1 ++ List.replicate s.2.2.2.length 0)])
    (fun s=>⟨.exit 0,BH c l l.length ++ [(33,.bool false)],[jH,bx n,lZ (uy s.1 s.2.2.2),dK l.length (s.2.1 ++ qB s.1 s.2.2.2)]⟩) (fun s=>s.2.2.2.length) ?_ (Ht,[],[],l) ⟨hf,rfl,rfl⟩
   rintro ⟨next,pre,done,todo⟩ ⟨hnx,hpre,hd⟩
   simp only at hnx hpre hd ⊢
   cases todo with
   | nil =>
    right
    have hlen:done.length = l.length:=by rw [← hd];simp
    refine ⟨?_,by simp⟩
    simp only [qB,uy,List.append_nil]
    apply Run.seq
    ·(refine ⟨0,?_⟩;conv=>lhs;simp (maxSteps:=2000000) -implicitDefEqProofs [-getElem?_pos,go_sem,eqV,aj,hlen,BH])
    ·apply Run.bH
     ·exact Run.cond (d:=false) rfl ⟨0,rfl⟩
     ·simp
   | cons x todo =>
    left
    have hlt:done.length < l.length:=by rw [← hd];simp
    have hget:l[done.length]? = some x:=by rw [← hd];simp
    have hx:=hall x (by rw [← hd];simp)
    have jB:(done.length:Int) < (l.length:Int):=by omega
    have e:IntKind.i64.wrap ((done.length:Int) + 1) = (done.length:Int) + 1:=wrap_i64 (by omega) (by omega)
    have hlp:done.length < (pre ++ List.replicate (todo.length + 1) (0:Int)).length:=by simp;omega
    have hset:∀ w,(pre ++ List.replicate (todo.length + 1) 0).set done.length w = (pre ++ [w]) ++ List.replicate todo.length 0:=fun w=>set_mid pre 0 w todo.length done.length hpre.symm
    generalize hP:pre ++ List.replicate (todo.length + 1) (0:Int) = P at hlp hset
    by_cases hx0:0 < x
    ·obtain ⟨v,hv⟩:∃ v,next[x.toNat]? = some v:=⟨next[x.toNat]'(by omega),List.getElem?_eq_getElem (by omega)⟩
     have aal:x < 17:=by omega
     have aam:x.toNat < 17:=by omega
     refine ⟨(next.set x.toNat (IntKind.i64.wrap (v + 1)),pre ++ [v],done ++ [x],todo),⟨by simpa using hnx,by simpa using hpre,by simpa using hd⟩,?_,?_,by simp⟩
     ·apply Run.seq
      ·(refine ⟨0,?_⟩;conv=>lhs;simp (maxSteps:=2000000) -implicitDefEqProofs [-getElem?_pos,go_sem,eqV,aj,jB,BH])
      apply Run.seq
      ·exact Run.cond (d:=true) rfl ⟨0,rfl⟩
      apply Run.seq
      ·apply Run.block
       ·(refine ⟨0,?_⟩;conv=>lhs;simp (maxSteps:=2000000) -implicitDefEqProofs [-getElem?_pos,go_sem,eqV,aj,hget,hlt,jH,bx,lZ,dK,hx0,hx.1,aal,aam,hnx,hv,hlp])
       ·simp
      ·(refine ⟨0,?_⟩;simp (maxSteps:=2000000) -implicitDefEqProofs [-getElem?_pos,go_sem,eqV,aj,e,BH,jH,bx,lZ,dK,hset])
     ·simp [qB,uy,hx0,List.getD_eq_getElem?_getD,hv]
    ·refine ⟨(next,pre ++ [-1],done ++ [x],todo),⟨hnx,by simpa using hpre,by simpa using hd⟩,?_,?_,by simp⟩
     ·apply Run.seq
      ·(refine ⟨0,?_⟩;conv=>lhs;simp (maxSteps:=2000000) -implicitDefEqProofs [-getElem?_pos,go_sem,eqV,aj,jB,BH])
      apply Run.seq
      ·exact Run.cond (d:=true) rfl ⟨0,rfl⟩
      apply Run.seq
      ·apply Run.block
       ·(refine ⟨0,?_⟩;conv=>lhs;simp (maxSteps:=2000000) -implicitDefEqProofs [-getElem?_pos,go_sem,eqV,aj,hget,hlt,jH,bx,lZ,dK,hx0,hlp])
       ·simp
      ·(refine ⟨0,?_⟩;simp (maxSteps:=2000000) -implicitDefEqProofs [-getElem?_pos,go_sem,eqV,aj,e,BH,jH,bx,lZ,dK,hset])
     ·simp [qB,uy,hx0]
 apply Run.seq
 ·(refine ⟨0,?_⟩;conv=>lhs;simp (maxSteps:=2000000) -implicitDefEqProofs [-getElem?_pos,go_sem,eqV,aj,BH])
 ·exact ⟨0,rfl⟩
end Go.Proofs.Yteblpjhkgdpchaa
namespace Go.Proofs.Yteblpjhkgdpchaa
open Go.AM
def flL:List Int:=List.replicate 144 8 ++ List.replicate 112 9 ++ List.replicate 24 7 ++ List.replicate 8 8
def flD:List Int:=List.replicate 32 5
def flO (l:List Int):AM.Obj:=⟨.pi .i64 l,0,.none,1,true,false,0⟩
def OO:Row1:=⟨30,[],.tup [.sl 0 0 288 0,.sl 1 0 32 0],[some (flO flL),some (flO flD)]⟩
theorem OQ:ku X (OO :: []):=ku.cons (BI ku.nil) ku.nil (n:=400) (by kernel_rfl)
theorem aan (H:AM.Heap):evT X 30 [] H = some (.tup [.sl H.length 0 288 0,.sl (H.length + 1) 0 32 0],H ++ [some (flO flL),some (flO flD)]):=by
 have:=eH (Ev1.frame (OQ OO (List.mem_singleton.2 rfl)).1 rfl H)
 simpa [OO,dX,kU,ren,bn,uz,flO,dN,Nat.add_comm] using this
theorem LQ {H:AM.Heap} {a:AV} {l:List Int} (h:iD H a = some (.pi .i64 l)) (he:(nZ l).2 = 0):evT X 31 [a] H = some (.tup [.sl H.length 0 l.length 0,.int .i64 0],H ++ [dK l.length (zu l)]):=by
 obtain ⟨c,x,hx⟩:=fJ (C:=X) (f:=31) (i:=0) rfl h (dQ 1)
 obtain ⟨code,hb,hr⟩:=JL c l he
 have:=Ev1.fresh (H:=H) (args:=[a]) (l:=[.sl 3 0 l.length 0,.int .i64 0]) (o:=3) (g:=0) OL Try.func31 hb hx rfl (by simp [dJ]) hr (.inr rfl) rfl rfl rfl rfl rfl rfl rfl
 have:=eH this
 simpa [aW,gG,ren,dN,dK,AM.fresh] using this
def lcL:List Int:=zu flL
def dcL:List Int:=zu flD
theorem Uc:(nZ flL).2 = 0:=by kernel_rfl
theorem Ud:(nZ flD).2 = 0:=by kernel_rfl
theorem iY:flL.length = 288:=by decide +kernel
theorem pU:flD.length = 32:=by decide +kernel
theorem jL (l:List Int):(zu l).length = l.length:=BG _ l
theorem pV:∀ n,n < 259→3≤n→(lenOf n).1≤285∧257≤(lenOf n).1∧(lenOf n).2.1≤n∧n < (lenOf n).2.1 + 2 ^ (lenOf n).2.2∧(lenOf n).2.2≤5:=by decide +kernel
theorem BJ {per n:Nat}:∀ {f s base bits j:Nat},gOk per n f s base bits j = true→base≤n→base≤(gF per n f s base bits j).2.1∧(gF per n f s base bits j).2.1≤n∧n < (gF per n f s base bits j).2.1 + 2 ^ (gF per n f s base bits j).2.2
 | 0,_,_,_,_,h,_=>by cases h
 | f + 1,s,base,bits,j,h,hb=>by
  unfold gOk at h
  unfold gF
  split
  ·rename_i hj
   rw [if_pos hj] at h
   exact BJ h hb
  ·rename_i hj
   rw [if_neg hj] at h
   split
   ·rename_i hn
    exact ⟨Nat.le_refl _,hb,hn⟩
   ·rename_i hn
    rw [if_neg hn] at h
    have:=BJ h (by omega)
    exact ⟨Nat.le_trans (Nat.le_add_right _ _) this.1,this.2⟩
theorem yc {n:Nat}:∀ {f bits j:Nat},j≤2→gOk 2 n f (2 * bits + 2 + j) ((2 + j) * 2 ^ bits + 1) bits j = true→∃ b j',j' < 2∧gF 2 n f (2 * bits + 2 + j) ((2 + j) * 2 ^ bits + 1) bits j = (2 * b + 2 + j',(2 + j') * 2 ^ b + 1,b)
 | 0,_,_,_,h=>by cases h
 | f + 1,bits,j,hj,h=>by
  unfold gOk at h
  unfold gF
  by_cases h2:j = 2
  ·subst h2
   rw [if_pos rfl] at h ⊢
   have e1:2 * bits + 2 + 2 = 2 * (bits + 1) + 2 + 0:=by omega
   have e2:(2 + 2) * 2 ^ bits + 1 = (2 + 0) * 2 ^ (bits + 1) + 1:=by rw [Nat.pow_succ];omega
   rw [e1,e2] at h ⊢
   exact yc (by omega) h
  ·rw [if_neg h2] at h ⊢
   split
   ·exact ⟨bits,j,by omega,rfl⟩
   ·rename_i hn
    rw [if_neg hn] at h
    have e1:2 * bits + 2 + j + 1 = 2 * bits + 2 + (j + 1):=by omega
    have e2:(2 + j) * 2 ^ bits + 1 + 2 ^ bits = (2 + (j + 1)) * 2 ^ bits + 1:=by
     rw [show 2 + (j + 1) = (2 + j) + 1 by omega,Nat.succ_mul]
     omega
    rw [e1,e2] at h ⊢
    exact yc (by omega) h
theorem lu {n:Nat} (h1:1≤n) (h:n≤32768):(bU n).1≤29∧(bU n).2.1≤n∧n < (bU n).2.1 + 2 ^ (bU n).2.2∧(bU n).2.2≤13:=by
 unfold bU
 by_cases h4:n≤4
 ·rw [if_pos h4]
  simp
  omega
 ·rw [if_neg h4]
  obtain ⟨_,a2,a3⟩:=BJ (Fv h) (by omega)
  obtain ⟨b,j,hj,he⟩:=yc (n:=n) (f:=40) (bits:=1) (j:=0) (by omega) (Fv h)
  have he':gF 2 n 40 4 5 1 0 = (2 * b + 2 + j,(2 + j) * 2 ^ b + 1,b):=he
  rw [he'] at a2 a3 ⊢
  simp only at a2 a3 ⊢
  have hb:b≤13:=by
   refine Classical.byContradiction fun hc=>?_
   have hp:2 ^ 14≤2 ^ b:=Nat.pow_le_pow_right (by omega) (by omega)
   have:2 * 2 ^ b≤(2 + j) * 2 ^ b:=Nat.mul_le_mul_right _ (by omega)
   omega
  exact ⟨by omega,a2,a3,hb⟩
end Go.Proofs.Yteblpjhkgdpchaa
namespace Go.Proofs.Yteblpjhkgdpchaa
open Go.AM
theorem qC:∀ y,y < 288→0≤flL.getD y 0∧flL.getD y 0≤9:=by decide +kernel
theorem BK:∀ y,y < 32→0≤flD.getD y 0∧flD.getD y 0≤9:=by decide +kernel
theorem iZ {l:List Int} {y:Nat} (h:y < l.length):l[y]? = some (l.getD y 0):=by
 rw [List.getD_eq_getElem?_getD,List.getElem?_eq_getElem h];rfl
def uD (s:Ws) (cs ls:List Int) (y:Nat):Ws:=oP s (cs.getD y 0) (ls.getD y 0).toNat
def pxW (s:Ws) (x:Px):Ws :=
 if x.len = 0 then uD s lcL flL x.byte.toNat else
  cu (uD (cu (uD s lcL flL (lenOf x.len.toNat).1) (x.len - ((lenOf x.len.toNat).2.1:Nat)) (lenOf x.len.toNat).2.2) dcL flD (bU x.dist.toNat).1) (x.dist - ((bU x.dist.toNat).2.1:Nat)) (bU x.dist.toNat).2.2
def OT (l:List Px):Ws:=uD (l.foldl pxW (cu (cu ⟨0,[]⟩ 1 1) 1 2)) lcL flL 256
def iT (l:List Px):List UInt8 × Int:=if (jY l []).2 ≠ 0 then ([],(jY l []).2) else ((OT l).o,0)
structure FxV (E:AM.Heap) (o6 o7 o8 o10 o12:Nat) (oa:Option Nat) (s:Ws):Prop where
 r6:E[o6]? = some (some (flO flL))
 r7:E[o7]? = some (some (flO flD))
 r8:E[o8]? = some (dK 288 lcL)
 r10:E[o10]? = some (dK 32 dcL)
 wr:WrV 0 E o12 oa s
 lt:o6 < o12∧o7 < o12∧o8 < o12∧o10 < o12
 oa:∀ a,oa = some a→o12 < a
 ok:iq s
section
variable {E:AM.Heap} {o6 o7 o8 o10 o12:Nat} {oa:Option Nat} {s:Ws}
theorem WrV.lt' (h:WrV 0 E o12 oa s):o12 < E.length:=h.lt.1
theorem FxV.step {E':AM.Heap} {oa':Option Nat} {s':Ws} (h:FxV E o6 o7 o8 o10 o12 oa s) (hw:WrV 0 E' o12 oa' s') (hk:Kpw E E' o12 oa oa') (hok:iq s'):FxV E' o6 o7 o8 o10 o12 oa' s':=by
 obtain ⟨l6,l7,l8,l10⟩:=h.lt
 have hl:=h.wr.lt'
 have keep:∀ j,j < o12→E'[j]? = E[j]?:=fun j hj=>hk.rest j (by omega) (by omega) fun a ha=>by have:=h.oa a ha;omega
 refine ⟨by rw [keep _ l6];exact h.r6,by rw [keep _ l7];exact h.r7,by rw [keep _ l8];exact h.r8,by rw [keep _ l10];exact h.r10,hw,h.lt,?_,hok⟩
 intro a ha
 cases hq:oa with
 | none=>have:=hk.new a hq ha;omega
 | some z =>
  have:=hk.same z hq
  rw [ha] at this
  cases this
  exact h.oa _ hq
theorem FxV.cat (r:AM.Heap) (h:FxV E o6 o7 o8 o10 o12 oa s):FxV (E ++ r) o6 o7 o8 o10 o12 oa s:=by
 obtain ⟨l6,l7,l8,l10⟩:=h.lt
 have hl:=h.wr.lt'
 have keep:∀ j,j < o12→(E ++ r)[j]? = E[j]?:=fun j hj=>List.getElem?_append_left (by omega)
 exact ⟨by rw [keep _ l6];exact h.r6,by rw [keep _ l7];exact h.r7,by rw [keep _ l8];exact h.r8,by rw [keep _ l10];exact h.r10,h.wr.cat,h.lt,h.oa,h.ok⟩
def mP (o6 o7 o8 o10 o12 c:Nat) (l:List Px) (i:Nat):AM.Frame:=[(6,.sl o6 0 288 0),(7,.sl o7 0 32 0),(8,.sl o8 0 288 0),(10,.sl o10 0 32 0),(12,.ptr o12 0 0 0),(46,.ro c (.pr 3 (l.map pxR)) 1),(47,.int .i64 (l.length:Nat)),(48,.int .i64 (i:Nat))]
def wE (o6 o7 o8 o10 o12 q c:Nat) (l:List Px) (i:Nat):AM.Frame:=[(6,.sl o6 0 288 0),(7,.sl o7 0 32 0),(8,.sl o8 0 288 0),(10,.sl o10 0 32 0),(12,.ptr o12 0 0 0),(14,.ptr q 0 0 0),(46,.ro c (.pr 3 (l.map pxR)) 1),(47,.int .i64 (l.length:Nat)),(48,.int .i64 (i:Nat))]
theorem iC {cs ls:List Int} {y:Nat} (h:iq s):iq (uD s cs ls y)∧(uD s cs ls y).k = s.k + (ls.getD y 0).toNat:=Hu _ h
theorem Ue {m i q c:Nat} {x:Px} {l:List Px} {tl:AM.Frame} (h:FxV E o6 o7 o8 o10 o12 oa s) (hl:s.k≤7000000) (hq:E[q]? = some (some (pxO x))):∃ E' oa',FxV E' o6 o7 o8 o10 o12 oa' (uD s lcL flL x.byte.toNat)∧Kpw E E' o12 oa oa'∧∃ code,((Try.f22.body).bind (aS [1,1,1,1,1,1,1,1,0,1,0,0,1,1,0,0,1,0,1,0,0])) = some code∧Run X (evT X) 22 m code (wE o6 o7 o8 o10 o12 q c l i ++ tl) E ⟨.normal,mP o6 o7 o8 o10 o12 c l i,E'⟩:=by
 have hy:=x.byte.toNat_lt
 have hy2:x.byte.toNat < 288:=by omega
 obtain ⟨n0,n9⟩:=qC _ hy2
 have hc:=iZ (l:=lcL) (y:=x.byte.toNat) (by unfold lcL;rw [jL,iY];exact hy2)
 have hf:=iZ (l:=flL) (y:=x.byte.toNat) (by rw [iY];exact hy2)
 obtain ⟨E',oa',g1,g2,g3⟩:=yg (x:=lcL.getD x.byte.toNat 0) (I:=flL.getD x.byte.toNat 0) (n:=(flL.getD x.byte.toNat 0).toNat) (by omega) h.wr h.ok (by omega) (by omega)
 have hs:=iC (cs:=lcL) (ls:=flL) (y:=x.byte.toNat) h.ok
 refine ⟨E',oa',h.step g2 g3 hs.1,g3,_,rfl,?_⟩
 have q6:=h.r6;have q8:=h.r8
 have hyI:(x.byte.toNat:Int) < 288:=by omega
 simp only [flO,dK,pxO,pxR] at q6 q8 hq
 simp only [wE,mP]
 generalize lcL.getD x.byte.toNat 0 = v1 at *
 generalize flL.getD x.byte.toNat 0 = v2 at *
 generalize l.map pxR = R at *
 generalize l.length = N at *
 generalize lcL = LC at *
 generalize flL = LL at *
 (refine ⟨0,?_⟩;simp (maxSteps:=2000000) -implicitDefEqProofs [-getElem?_pos,go_sem,eqV,aj,retag,q6,q8,hq,hyI,hy2,hc,hf,g1])
end
end Go.Proofs.Yteblpjhkgdpchaa
namespace Go.Proofs.Yteblpjhkgdpchaa
open Go.AM
def Hw (o6 o7 o8 o10 o12 q u v w c:Nat) (l:List Px) (i:Nat):AM.Frame:=[(6,.sl o6 0 288 0),(7,.sl o7 0 32 0),(8,.sl o8 0 288 0),(10,.sl o10 0 32 0),(12,.ptr o12 0 0 0),(14,.ptr q 0 0 0),(15,.int .i64 (u:Nat)),(16,.int .i64 (v:Nat)),(17,.int .i64 (w:Nat)),(46,.ro c (.pr 3 (l.map pxR)) 1),(47,.int .i64 (l.length:Nat)),(48,.int .i64 (i:Nat))]
def HY (o6 o7 o8 o10 o12 q v w c:Nat) (l:List Px) (i:Nat):AM.Frame:=[(6,.sl o6 0 288 0),(7,.sl o7 0 32 0),(8,.sl o8 0 288 0),(10,.sl o10 0 32 0),(12,.ptr o12 0 0 0),(14,.ptr q 0 0 0),(16,.int .i64 (v:Nat)),(17,.int .i64 (w:Nat)),(46,.ro c (.pr 3 (l.map pxR)) 1),(47,.int .i64 (l.length:Nat)),(48,.int .i64 (i:Nat))]
section
variable {E:AM.Heap} {o6 o7 o8 o10 o12:Nat} {oa:Option Nat} {s:Ws}
theorem Uf {m i q c n:Nat} {x:Px} {l:List Px} {tl:AM.Frame} (hn:x.len = (n:Nat)) (aao:n≤258) (hq:E[q]? = some (some (pxO x))):∃ code,((Try.f22.body).bind (aS [1,1,1,1,1,1,1,1,0,1,0,0,1,1,0,0,1,1,0])) = some code∧Run X (evT X) 22 m code (wE o6 o7 o8 o10 o12 q c l i ++ tl) E ⟨.normal,Hw o6 o7 o8 o10 o12 q (lenOf n).1 (lenOf n).2.1 (lenOf n).2.2 c l i,E⟩:=by
 refine ⟨_,rfl,?_⟩
 have hL:=Nk (H:=E) aao
 simp only [pxO,pxR,hn] at hq
 simp only [wE,Hw]
 generalize lenOf n = R3 at *
 generalize l.map pxR = R at *
 generalize l.length = N at *
 (refine ⟨0,?_⟩;simp (maxSteps:=2000000) -implicitDefEqProofs [-getElem?_pos,go_sem,eqV,aj,hq,hL,aC])
theorem Ug {m i q c n:Nat} {x:Px} {l:List Px} (hn:x.dist = (n:Nat)) (h1:1≤n) (h2:n≤32768) (hq:E[q]? = some (some (pxO x))):∃ code,((Try.f22.body).bind (aS [1,1,1,1,1,1,1,1,0,1,0,0,1,1,0,0,1,1,1,1,1,0])) = some code∧Run X (evT X) 22 m code (wE o6 o7 o8 o10 o12 q c l i) E ⟨.normal,Hw o6 o7 o8 o10 o12 q (bU n).1 (bU n).2.1 (bU n).2.2 c l i,E⟩:=by
 refine ⟨_,rfl,?_⟩
 have hL:=Hg (H:=E) h1 h2
 simp only [pxO,pxR,hn] at hq
 simp only [wE,Hw]
 generalize bU n = R3 at *
 generalize l.map pxR = R at *
 generalize l.length = N at *
 (refine ⟨0,?_⟩;simp (maxSteps:=2000000) -implicitDefEqProofs [-getElem?_pos,go_sem,eqV,aj,hq,hL,aC])
theorem Uh {m i q u v w c:Nat} {l:List Px} (h:FxV E o6 o7 o8 o10 o12 oa s) (hl:s.k≤7000000) (hu:u < 288):∃ E' oa',FxV E' o6 o7 o8 o10 o12 oa' (uD s lcL flL u)∧Kpw E E' o12 oa oa'∧∃ code,((Try.f22.body).bind (aS [1,1,1,1,1,1,1,1,0,1,0,0,1,1,0,0,1,1,1,0])) = some code∧Run X (evT X) 22 m code (Hw o6 o7 o8 o10 o12 q u v w c l i) E ⟨.normal,HY o6 o7 o8 o10 o12 q v w c l i,E'⟩:=by
 obtain ⟨n0,n9⟩:=qC _ hu
 have hc:=iZ (l:=lcL) (y:=u) (by unfold lcL;rw [jL,iY];exact hu)
 have hf:=iZ (l:=flL) (y:=u) (by rw [iY];exact hu)
 obtain ⟨E',oa',g1,g2,g3⟩:=yg (x:=lcL.getD u 0) (I:=flL.getD u 0) (n:=(flL.getD u 0).toNat) (by omega) h.wr h.ok (by omega) (by omega)
 have hs:=iC (cs:=lcL) (ls:=flL) (y:=u) h.ok
 refine ⟨E',oa',h.step g2 g3 hs.1,g3,_,rfl,?_⟩
 have q6:=h.r6;have q8:=h.r8
 have huI:(u:Int) < 288:=by omega
 simp only [flO,dK] at q6 q8
 simp only [Hw,HY]
 generalize lcL.getD u 0 = v1 at *
 generalize flL.getD u 0 = v2 at *
 generalize l.map pxR = R at *
 generalize l.length = N at *
 generalize lcL = LC at *
 generalize flL = LL at *
 (refine ⟨0,?_⟩;simp (maxSteps:=2000000) -implicitDefEqProofs [-getElem?_pos,go_sem,eqV,aj,retag,q6,q8,huI,hu,hc,hf,g1])
theorem Ui {m i q u v w c:Nat} {l:List Px} (h:FxV E o6 o7 o8 o10 o12 oa s) (hl:s.k≤7000000) (hu:u < 32):∃ E' oa',FxV E' o6 o7 o8 o10 o12 oa' (uD s dcL flD u)∧Kpw E E' o12 oa oa'∧∃ code,((Try.f22.body).bind (aS [1,1,1,1,1,1,1,1,0,1,0,0,1,1,0,0,1,1,1,1,1,1,0])) = some code∧Run X (evT X) 22 m code (Hw o6 o7 o8 o10 o12 q u v w c l i) E ⟨.normal,HY o6 o7 o8 o10 o12 q v w c l i,E'⟩:=by
 obtain ⟨n0,n9⟩:=BK _ hu
 have hc:=iZ (l:=dcL) (y:=u) (by unfold dcL;rw [jL,pU];exact hu)
 have hf:=iZ (l:=flD) (y:=u) (by rw [pU];exact hu)
 obtain ⟨E',oa',g1,g2,g3⟩:=yg (x:=dcL.getD u 0) (I:=flD.getD u 0) (n:=(flD.getD u 0).toNat) (by omega) h.wr h.ok (by omega) (by omega)
 have hs:=iC (cs:=dcL) (ls:=flD) (y:=u) h.ok
 refine ⟨E',oa',h.step g2 g3 hs.1,g3,_,rfl,?_⟩
 have q6:=h.r7;have q8:=h.r10
 have huI:(u:Int) < 32:=by omega
 simp only [flO,dK] at q6 q8
 simp only [Hw,HY]
 generalize dcL.getD u 0 = v1 at *
 generalize flD.getD u 0 = v2 at *
 generalize l.map pxR = R at *
 generalize l.length = N at *
 generalize dcL = LC at *
 generalize flD = LL at *
 (refine ⟨0,?_⟩;simp (maxSteps:=2000000) -implicitDefEqProofs [-getElem?_pos,go_sem,eqV,aj,retag,q6,q8,huI,hu,hc,hf,g1])
theorem Uj {m i q v w c n:Nat} {x:Px} {l:List Px} (h:FxV E o6 o7 o8 o10 o12 oa s) (hl:s.k≤7000000) (hn:x.len = (n:Nat)) (hn2:n≤100000) (hv:v≤n) (hw:w≤60) (hq:E[q]? = some (some (pxO x))):∃ E' oa',FxV E' o6 o7 o8 o10 o12 oa' (cu s (x.len - (v:Nat)) w)∧Kpw E E' o12 oa oa'∧∃ code,((Try.f22.body).bind (aS [1,1,1,1,1,1,1,1,0,1,0,0,1,1,0,0,1,1,1,1,0])) = some code∧Run X (evT X) 22 m code (HY o6 o7 o8 o10 o12 q v w c l i) E ⟨.normal,wE o6 o7 o8 o10 o12 q c l i,E'⟩:=by
 obtain ⟨E',oa',g1,g2,g3⟩:=mQ (x:=x.len - (v:Nat)) (I:=(w:Nat)) (n:=w) rfl h.wr h.ok (by omega) hw
 refine ⟨E',oa',h.step g2 g3 (bT h.ok w).1,g3,_,rfl,?_⟩
 rw [hn] at g1
 have w1:IntKind.i64.wrap ((n:Int) - (v:Int)) = (n:Int) - (v:Int):=by rw [wrap_i64 (by omega) (by omega)]
 simp only [pxO,pxR,hn] at hq
 simp only [HY,wE]
 generalize l.map pxR = R at *
 generalize l.length = N at *
 (refine ⟨0,?_⟩;simp (maxSteps:=2000000) -implicitDefEqProofs [-getElem?_pos,go_sem,eqV,aj,hq,w1,g1])
theorem Uk {m i q v w c n:Nat} {x:Px} {l:List Px} (h:FxV E o6 o7 o8 o10 o12 oa s) (hl:s.k≤7000000) (hn:x.dist = (n:Nat)) (hn2:n≤100000) (hv:v≤n) (hw:w≤60) (hq:E[q]? = some (some (pxO x))):∃ E' oa',FxV E' o6 o7 o8 o10 o12 oa' (cu s (x.dist - (v:Nat)) w)∧Kpw E E' o12 oa oa'∧∃ code,((Try.f22.body).bind (aS [1,1,1,1,1,1,1,1,0,1,0,0,1,1,0,0,1,1,1,1,1,1,1])) = some code∧Run X (evT X) 22 m code (HY o6 o7 o8 o10 o12 q v w c l i) E ⟨.normal,mP o6 o7 o8 o10 o12 c l i,E'⟩:=by
 obtain ⟨E',oa',g1,g2,g3⟩:=mQ (x:=x.dist - (v:Nat)) (I:=(w:Nat)) (n:=w) rfl h.wr h.ok (by omega) hw
 refine ⟨E',oa',h.step g2 g3 (bT h.ok w).1,g3,_,rfl,?_⟩
 rw [hn] at g1
 have w1:IntKind.i64.wrap ((n:Int) - (v:Int)) = (n:Int) - (v:Int):=by rw [wrap_i64 (by omega) (by omega)]
 simp only [pxO,pxR,hn] at hq
 simp only [HY,mP]
 generalize l.map pxR = R at *
 generalize l.length = N at *
 (refine ⟨0,?_⟩;simp (maxSteps:=2000000) -implicitDefEqProofs [-getElem?_pos,go_sem,eqV,aj,hq,w1,g1])
end
end Go.Proofs.Yteblpjhkgdpchaa
namespace Go.Proofs.Yteblpjhkgdpchaa
open Go.AM
theorem BL {x:Px} (h:kS x = true) (h0:¬ x.len = 0):x.dist≤32768:=by
 unfold kS at h
 rw [if_neg h0] at h
 simp at h
 omega
theorem Fz {s:Ws} {x:Px} (h:iq s) (hm:kS x = true):iq (pxW s x)∧(pxW s x).k≤s.k + 40:=by
 unfold pxW
 by_cases h0:x.len = 0
 ·rw [if_pos h0]
  obtain ⟨h1,h2⟩:=iC (cs:=lcL) (ls:=flL) (y:=x.byte.toNat) h
  have:=qC x.byte.toNat (by have:=x.byte.toNat_lt;omega)
  exact ⟨h1,by omega⟩
 ·rw [if_neg h0]
  obtain ⟨n,d,hn,hd,n3,n258,d1⟩:=xY hm h0
  have hd2:=BL hm h0
  rw [hn,hd] at *
  simp only [Int.toNat_natCast] at *
  obtain ⟨a1,a2,a3,a4,a5⟩:=pV n (by omega) n3
  obtain ⟨b1,b2,b3,b4⟩:=lu d1 (by omega)
  obtain ⟨h1,h2⟩:=iC (cs:=lcL) (ls:=flL) (y:=(lenOf n).1) h
  obtain ⟨h3,h4⟩:=bT (x:=(n:Int) - ((lenOf n).2.1:Nat)) h1 (lenOf n).2.2
  obtain ⟨h5,h6⟩:=iC (cs:=dcL) (ls:=flD) (y:=(bU d).1) h3
  obtain ⟨h7,h8⟩:=bT (x:=(d:Int) - ((bU d).2.1:Nat)) h5 (bU d).2.2
  have:=qC (lenOf n).1 (by omega)
  have:=BK (bU d).1 (by omega)
  exact ⟨h7,by omega⟩
section
variable {E:AM.Heap} {o6 o7 o8 o10 o12:Nat} {oa:Option Nat} {s:Ws}
theorem Ri {m i c:Nat} {x:Px} {l:List Px} (h:FxV E o6 o7 o8 o10 o12 oa s) (hl:s.k≤6000000) (hx:l[i]? = some x) (hll:l.length≤100000) (hm:kS x = true):∃ E' oa',FxV E' o6 o7 o8 o10 o12 oa' (pxW s x)∧∃ code,((Try.f22.body).bind (aS [1,1,1,1,1,1,1,1,0,1,0,0,1,1])) = some code∧Run X (evT X) 22 m code (mP o6 o7 o8 o10 o12 c l i ++ [(49,.bool true)]) E ⟨.normal,mP o6 o7 o8 o10 o12 c l (i + 1),E'⟩:=by
 have hx':(l.map pxR)[i]? = some (pxR x):=by rw [List.getElem?_map,hx];rfl
 have hi:=iF hx
 have hiI:(i:Int) < (l.length:Int):=by omega
 have hlm:(l.map pxR).length = l.length:=by simp
 have FB:∃ code,((Try.f22.body).bind (aS [1,1,1,1,1,1,1,1,0,1,0,0,1,1,0,0,0])) = some code∧Run X (evT X) 22 m code (mP o6 o7 o8 o10 o12 c l i ++ [(49,.bool true)]) E ⟨.normal,wE o6 o7 o8 o10 o12 E.length c l i,E ++ [some (pxO x)]⟩:=by
  refine ⟨_,rfl,?_⟩
  simp only [mP,wE,pxO,pxR] at hx' ⊢
  generalize l.map pxR = R at *
  generalize l.length = N at *
  (refine ⟨0,?_⟩;simp (maxSteps:=2000000) -implicitDefEqProofs [-getElem?_pos,go_sem,eqV,aj,hx',hi,hiI,hlm,Q5,jI,retag,Fp,A8,splice,jy,scalars,scalar])
 have hF0:=h.cat [some (pxO x)]
 have hq0:(E ++ [some (pxO x)])[E.length]? = some (some (pxO x)):=by simp
 have hlt:=h.wr.lt
 generalize E ++ [some (pxO x)] = E0 at *
 have hqn:E.length ≠ o12∧∀ a,oa = some a→E.length ≠ a:=⟨by omega,fun a ha=>by have:=hlt.2 a ha;omega⟩
 generalize E.length = q at *
 have FC:∃ code,((Try.f22.body).bind (aS [1,1,1,1,1,1,1,1,0,1,0,0,1,1,0,0,1,0,0])) = some code∧Run X (evT X) 22 m code (wE o6 o7 o8 o10 o12 q c l i) E0 ⟨.normal,wE o6 o7 o8 o10 o12 q c l i ++ [(54,.bool (decide (x.len = 0)))],E0⟩:=by
  refine ⟨_,rfl,?_⟩
  simp only [wE,pxO,pxR] at hq0 ⊢
  generalize l.map pxR = R at *
  generalize l.length = N at *
  by_cases h0:x.len = 0
  ·rw [decide_eq_true h0]
   rw [h0] at hq0
   (refine ⟨0,?_⟩;simp (maxSteps:=2000000) -implicitDefEqProofs [-getElem?_pos,go_sem,eqV,aj,hq0])
  ·have h0b:(x.len == 0) = false:=by simpa using h0
   rw [decide_eq_false h0]
   (refine ⟨0,?_⟩;simp (maxSteps:=2000000) -implicitDefEqProofs [-getElem?_pos,go_sem,eqV,aj,hq0,h0,h0b])
 have w1:IntKind.i64.wrap ((i:Int) + 1) = ((i + 1:Nat):Int):=by rw [wrap_i64 (by omega) (by omega)];omega
 have Rj:∀ E',∃ code,((Try.f22.body).bind (aS [1,1,1,1,1,1,1,1,0,1,0,0,1,1,1])) = some code∧Run X (evT X) 22 m code (mP o6 o7 o8 o10 o12 c l i) E' ⟨.normal,mP o6 o7 o8 o10 o12 c l (i + 1),E'⟩:=by
  intro E'
  refine ⟨_,rfl,?_⟩
  simp only [mP]
  generalize l.map pxR = R at *
  generalize l.length = N at *
  generalize i + 1 = i1 at *
  (refine ⟨0,?_⟩;simp (maxSteps:=2000000) -implicitDefEqProofs [-getElem?_pos,go_sem,eqV,aj,w1])
 unfold pxW
 by_cases h0:x.len = 0
 ·rw [if_pos h0]
  rw [decide_eq_true h0] at FC
  obtain ⟨E1,oa1,g1,g2,g3⟩:=Ue (m:=m) (i:=i) (c:=c) (l:=l) (tl:=[(54,.bool true)]) hF0 (by omega) hq0
  refine ⟨E1,oa1,g1,_,rfl,?_⟩
  apply Run.seq (fr':=mP o6 o7 o8 o10 o12 c l i) (H':=E1)
  ·refine Run.fV ?_
   apply Run.seq (piece FB _ rfl)
   refine Run.bH ?_ (by simp)
   apply Run.seq (piece FC _ rfl)
   refine Run.cond (d:=true) (by simp [wE,aK,aI]) ?_
   exact Run.seq (piece g3 _ rfl) ⟨0,rfl⟩
  ·exact piece (Rj E1) _ rfl
 ·rw [if_neg h0]
  rw [decide_eq_false h0] at FC
  obtain ⟨n,d,hn,hd,n3,n258,d1⟩:=xY hm h0
  have hd2:=BL hm h0
  have en:x.len.toNat = n:=by omega
  have ed:x.dist.toNat = d:=by omega
  rw [en,ed]
  obtain ⟨a1,a2,a3,a4,a5⟩:=pV n (by omega) n3
  obtain ⟨b1,b2,b3,b4⟩:=lu d1 (by omega)
  have f1:=qC (lenOf n).1 (by omega)
  have f2:=BK (bU d).1 (by omega)
  have aap:=Uf (m:=m) (E:=E0) (o6:=o6) (o7:=o7) (o8:=o8) (o10:=o10) (o12:=o12) (i:=i) (c:=c) (l:=l) (tl:=[(54,.bool false)]) hn n258 hq0
  obtain ⟨E1,oa1,g1,g2,g3⟩:=Uh (m:=m) (i:=i) (q:=q) (u:=(lenOf n).1) (v:=(lenOf n).2.1) (w:=(lenOf n).2.2) (c:=c) (l:=l) hF0 (by omega) (by omega)
  have k1:=(iC (cs:=lcL) (ls:=flL) (y:=(lenOf n).1) h.ok).2
  have kq:∀ {E2:AM.Heap} {oa2:Option Nat},Kpw E0 E2 o12 oa oa2→E2[q]? = some (some (pxO x)):=fun hk=>by rw [hk.rest q (iF hq0) hqn.1 hqn.2];exact hq0
  obtain ⟨E2,oa2,g4,g5,g6⟩:=Uj (m:=m) (i:=i) (q:=q) (v:=(lenOf n).2.1) (w:=(lenOf n).2.2) (c:=c) (l:=l) g1 (by omega) hn (by omega) a3 (by omega) (kq g2)
  have k2:=(bT (x:=x.len - ((lenOf n).2.1:Nat)) g1.ok (lenOf n).2.2).2
  have aaq:=Ug (m:=m) (o6:=o6) (o7:=o7) (o8:=o8) (o10:=o10) (o12:=o12) (i:=i) (c:=c) (l:=l) hd d1 (by omega) (kq (g2.trans g5))
  obtain ⟨E3,oa3,g7,g8,g9⟩:=Ui (m:=m) (i:=i) (q:=q) (u:=(bU d).1) (v:=(bU d).2.1) (w:=(bU d).2.2) (c:=c) (l:=l) g4 (by omega) (by omega)
  have k3:=(iC (cs:=dcL) (ls:=flD) (y:=(bU d).1) g4.ok).2
  obtain ⟨E4,oa4,g10,g11,g12⟩:=Uk (m:=m) (i:=i) (q:=q) (v:=(bU d).2.1) (w:=(bU d).2.2) (c:=c) (l:=l) g7 (by omega) hd (by omega) b2 (by omega) (kq ((g2.trans g5).trans g8))
  refine ⟨E4,oa4,g10,_,rfl,?_⟩
  apply Run.seq (fr':=mP o6 o7 o8 o10 o12 c l i) (H':=E4)
  ·refine Run.block ?_ (by simp)
   apply Run.seq (piece FB _ rfl)
   apply Run.seq (fr':=wE o6 o7 o8 o10 o12 q c l i ++ [(54,.bool false)]) (H':=E0)
   ·apply Run.seq (piece FC _ rfl)
    exact Run.cond (d:=false) (by simp [wE,aK,aI]) ⟨0,rfl⟩
   apply Run.seq (piece aap _ rfl)
   apply Run.seq (piece g3 _ rfl)
   apply Run.seq (piece g6 _ rfl)
   apply Run.seq (piece aaq _ rfl)
   apply Run.seq (piece g9 _ rfl)
   exact piece g12 _ rfl
  ·exact piece (Rj E4) _ rfl
end
end Go.Proofs.Yteblpjhkgdpchaa
namespace Go.Proofs.Yteblpjhkgdpchaa
open Go.AM
theorem Ba:∀ {l:List Px} {o:List UInt8},(jY l o).2 = 0→∀ x ∈ l,kS x = true
 | [],_,_,x,hx=>by cases hx
 | y :: l,o,h,x,hx=>by
  unfold jY at h
  split at h
  ·cases h
  ·rename_i hm
   have hm:kS y = true:=by simpa using hm
   rcases List.mem_cons.1 hx with rfl | hx
   ·exact hm
   ·split at h
    ·exact Ba h x hx
    ·split at h
     ·cases h
     ·exact Ba h x hx
theorem yh:∀ (l:List Px) (s:Ws),iq s→(∀ x ∈ l,kS x = true)→iq (l.foldl pxW s)∧(l.foldl pxW s).k≤s.k + 40 * l.length
 | [],s,h,_=>⟨h,by simp⟩
 | x :: l,s,h,hm=>by
  obtain ⟨h1,h2⟩:=Fz h (hm x (List.mem_cons_self ..))
  obtain ⟨h3,h4⟩:=yh l (pxW s x) h1 fun y hy=>hm y (List.mem_cons_of_mem _ hy)
  exact ⟨h3,by simp only [List.foldl_cons,List.length_cons];omega⟩
section
variable {E:AM.Heap} {o6 o7 o8 o10 o12:Nat} {oa:Option Nat} {s:Ws}
theorem Rk {m c:Nat} {l:List Px} (h:FxV E o6 o7 o8 o10 o12 oa s) (hs:s.k≤100) (hll:l.length≤2000) (hm:∀ x ∈ l,kS x = true):∃ code,((Try.f22.body).bind (aS [1,1,1,1,1,1,1,1,0,1])) = some code∧au (Goes fun fr E'=>∃ oa',fr = mP o6 o7 o8 o10 o12 c l l.length ++ [(49,.bool false)]∧FxV E' o6 o7 o8 o10 o12 oa' (l.foldl pxW s)) X (evT X) 22 m code (mP o6 o7 o8 o10 o12 c l 0) E:=by
 refine ⟨_,rfl,?_⟩
 apply au.block
 refine au.lJ (I:=fun k fr E'=>∃ i oa' s',i≤l.length∧k = l.length - i∧fr = mP o6 o7 o8 o10 o12 c l i∧FxV E' o6 o7 o8 o10 o12 oa' s'∧s'.k≤100 + 40 * i∧(l.drop i).foldl pxW s' = l.foldl pxW s) ?_ (k:=l.length) ⟨0,oa,s,by omega,rfl,rfl,h,by omega,rfl⟩
 rintro k fr E' ⟨i,oa',s',hi,rfl,rfl,hF,hk,hf⟩
 by_cases hin:i = l.length
 ·rw [List.drop_of_length_le (by omega),List.foldl_nil] at hf
  refine au.of (o:=⟨.exit 0,mP o6 o7 o8 o10 o12 c l i ++ [(49,.bool false)],E'⟩) ?_ (.inr ⟨by simp,rfl,oa',by rw [hin],by rw [← hf];exact hF⟩)
  subst hin
  refine ⟨0,?_⟩
  simp only [mP]
  generalize l.map pxR = R at *
  generalize l.length = N at *
  simp (maxSteps:=2000000) -implicitDefEqProofs [-getElem?_pos,go_sem,eqV,aj]
 ·have hlt:i < l.length:=by omega
  have jB:(i:Int) < (l.length:Int):=by omega
  obtain ⟨x,hx⟩:∃ x,l[i]? = some x:=⟨_,List.getElem?_eq_getElem hlt⟩
  have hmx:=hm x (List.mem_of_getElem? hx)
  have hdrop:l.drop i = x :: l.drop (i + 1):=by
   rw [List.drop_eq_getElem_cons hlt]
   rw [List.getElem?_eq_getElem hlt] at hx
   rw [Option.some.inj hx]
  rw [hdrop,List.foldl_cons] at hf
  obtain ⟨E2,oa2,g1,g2⟩:=Ri (m:=m) (c:=c) hF (by omega) hx (by omega) hmx
  have hk2:=(Fz hF.ok hmx).2
  refine au.of (o:=⟨.normal,mP o6 o7 o8 o10 o12 c l (i + 1),E2⟩) ?_ (.inl ⟨rfl,l.length - (i + 1),by omega,i + 1,oa2,_,by omega,rfl,rfl,g1,by omega,hf⟩)
  apply Run.seq (fr':=mP o6 o7 o8 o10 o12 c l i ++ [(49,.bool true)]) (H':=E')
  ·simp only [mP]
   generalize l.map pxR = R at *
   generalize l.length = N at *
   (refine ⟨0,?_⟩;simp (maxSteps:=2000000) -implicitDefEqProofs [-getElem?_pos,go_sem,eqV,aj,jB,hlt])
  apply Run.seq (fr':=mP o6 o7 o8 o10 o12 c l i ++ [(49,.bool true)]) (H':=E')
  ·exact Run.cond (d:=true) (by simp [mP,aK,aI]) ⟨0,rfl⟩
  exact piece g2 _ rfl
theorem Ul {m c i:Nat} {l:List Px} {tl:AM.Frame} (h:FxV E o6 o7 o8 o10 o12 oa s) (hl:s.k≤7000000):∃ E' oa',FxV E' o6 o7 o8 o10 o12 oa' (uD s lcL flL 256)∧∃ code,((Try.f22.body).bind (aS [1,1,1,1,1,1,1,1,1,0])) = some code∧Run X (evT X) 22 m code (mP o6 o7 o8 o10 o12 c l i ++ tl) E ⟨.normal,[(12,.ptr o12 0 0 0)],E'⟩:=by
 obtain ⟨n0,n9⟩:=qC 256 (by omega)
 have hc:=iZ (l:=lcL) (y:=256) (by unfold lcL;rw [jL,iY];omega)
 have hf:=iZ (l:=flL) (y:=256) (by rw [iY];omega)
 obtain ⟨E',oa',g1,g2,g3⟩:=yg (x:=lcL.getD 256 0) (I:=flL.getD 256 0) (n:=(flL.getD 256 0).toNat) (by omega) h.wr h.ok (by omega) (by omega)
 have hs:=iC (cs:=lcL) (ls:=flL) (y:=256) h.ok
 refine ⟨E',oa',h.step g2 g3 hs.1,_,rfl,?_⟩
 have q6:=h.r6;have q8:=h.r8
 simp only [flO,dK] at q6 q8
 simp only [mP]
 generalize lcL.getD 256 0 = v1 at *
 generalize flL.getD 256 0 = v2 at *
 generalize l.map pxR = R at *
 generalize l.length = N at *
 generalize lcL = LC at *
 generalize flL = LL at *
 (refine ⟨0,?_⟩;simp (maxSteps:=2000000) -implicitDefEqProofs [-getElem?_pos,go_sem,eqV,aj,retag,q6,q8,hc,hf,g1])
theorem Um {m:Nat} (h:FxV E o6 o7 o8 o10 o12 oa s) (hne:s.o ≠ []):∃ a g ob,E[a]? = some (some ob)∧Rw (.pb s.o) g ob∧∃ code,((Try.f22.body).bind (aS [1,1,1,1,1,1,1,1,1,1,0])) = some code∧Run X (evT X) 22 m code [(12,.ptr o12 0 0 0)] E ⟨.normal,[(2,.sl a 0 s.o.length g),(3,.int .i64 0)],E⟩:=by
 obtain ⟨⟨vo,τ,a1,h0,ho⟩,hn⟩:=id h.wr
 cases hq:oa with
 | none=>rw [hq] at ho;exact absurd ho.1 hne
 | some a =>
  rw [hq] at ho
  obtain ⟨g,τ2,ob,hτ2,rfl,h3,h4⟩:=ho
  have ht:τ2 = 0:=hτ2.elim id id
  refine ⟨a,g,ob,h3,⟨h4.p,h4.g,h4.row,h4.ids,by rw [h4.tg,ht]⟩,_,rfl,?_⟩
  simp only [fM] at h0
  generalize s.o.length = N at *
  (refine ⟨0,?_⟩;simp (maxSteps:=2000000) -implicitDefEqProofs [-getElem?_pos,go_sem,eqV,aj,h0,aC])
end
end Go.Proofs.Yteblpjhkgdpchaa
namespace Go.Proofs.Yteblpjhkgdpchaa
open Go.AM
def qR:List Int→Int→Int × Int
 | [],s=>(s,0)
 | x :: r,s=>if 0≤x∧x≤15 then qR r (if 0 < x then IntKind.i64.wrap (s + IntKind.i64.wrap (2 ^ (min (15 - x).toNat 64))) else s) else (s,2)
def jG (l:List Int):Bool × Int :=
 if 320 < (l.length:Int) then (false,3) else
 if (qR l 0).2 = 0 then (if 32768 < (qR l 0).1 then (false,7) else ((qR l 0).1 == 32768,0)) else (false,2)
theorem u64_nonneg (n:Int):0≤IntKind.u64.wrap n:=by
 have h:IntKind.u64.wrap n = n % 18446744073709551616:=by
  simp [IntKind.wrap,IntKind.signed,IntKind.bits]
 rw [h]
 omega
def wI (n nx la:Int):Int:=if 0 < la then IntKind.i64.wrap (IntKind.i64.wrap (nx + 1) * 2 ^ (min (IntKind.u64.wrap (IntKind.i64.wrap (n - la))).toNat 64)) else nx
def rIn (n:Int):List Int→Nat→Int→Int→List Int→Int × Int × List Int
 | [],_,nx,la,o=>(nx,la,o)
 | x :: r,i,nx,la,o=>if x = n then rIn n r (i + 1) (wI n nx la) n (o.set i (wI n nx la)) else rIn n r (i + 1) nx la o
def wV (l:List Int):Nat→Nat→Int→Int→List Int→Int × Int × List Int
 | 0,_,nx,la,o=>(nx,la,o)
 | k + 1,n,nx,la,o=>wV l k (n + 1) (rIn n l 0 nx la o).1 (rIn n l 0 nx la o).2.1 (rIn n l 0 nx la o).2.2
def DV:List Int→Nat→List Int→List Int
 | [],_,o=>o
 | x :: r,i,o=>DV r (i + 1) (if x = 0 then o.set i (-1) else o)
def rJ (l:List Int):List Int:=DV l 0 (wV l 15 1 0 0 (List.replicate l.length 0)).2.2
theorem Bd (n:Int):∀ (l:List Int) (i:Nat) (nx la:Int) (o:List Int),(rIn n l i nx la o).2.2.length = o.length
 | [],_,_,_,_=>rfl
 | x :: r,i,nx,la,o=>by
  simp only [rIn]
  split
  ·rw [Bd n r];simp
  ·rw [Bd n r]
theorem H6 (l:List Int):∀ (k n:Nat) (nx la:Int) (o:List Int),(wV l k n nx la o).2.2.length = o.length
 | 0,_,_,_,_=>rfl
 | k + 1,n,nx,la,o=>by rw [wV,H6 l k,Bd]
theorem H7:∀ (l:List Int) (i:Nat) (o:List Int),(DV l i o).length = o.length
 | [],_,_=>rfl
 | x :: r,i,o=>by
  rw [DV,H7 r]
  split <;> simp
end Go.Proofs.Yteblpjhkgdpchaa
namespace Go.Proofs.Yteblpjhkgdpchaa
open Go.AM
def fine (l:List Int):Bool:=l.all fun x=>decide (0≤x∧x≤15)
theorem Ej:∀ (l:List Int) (s:Int),(qR l s).2 = if fine l then 0 else 2
 | [],n=>by simp [qR,fine]
 | x :: r,n=>by
  unfold qR
  by_cases h:0≤x∧x≤15
  ·rw [if_pos h,Ej r];simp [fine,h]
  ·rw [if_neg h];simp only [fine,List.all_cons,decide_eq_false h,Bool.false_and];rfl
def ct (l:List Int) (j:Nat):Int:=(l.count (j:Int):Nat)
end Go.Proofs.Yteblpjhkgdpchaa
namespace Go.Proofs.Yteblpjhkgdpchaa
open Go.AM
def fst (c:Nat→Int):Nat→Int
 | 0=>0
 | 1=>0
 | i + 2=>2 * (fst c (i + 1) + c (i + 1))
def code (l:List Int) (p:Nat):Int:=if 0 < l.getD p 0 then fst (ct l) (l.getD p 0).toNat + ct (l.take p) (l.getD p 0).toNat else -1
def Inv (l:List Int) (n:Nat) (m nx la:Int):Prop :=
 0≤la∧la≤n∧0≤nx∧(la = 0→nx = 0)∧(if 0 < la then (nx + 1) * 2 ^ (n - la.toNat) else nx) = fst (ct l) n + m
end Go.Proofs.Yteblpjhkgdpchaa
namespace Go.Proofs.Yteblpjhkgdpchaa
open Go.AM
theorem H8 {l:List Int} (he:(jG l).2 = 0):l.length≤320∧fine l = true:=by
 unfold jG at he
 rw [Ej] at he
 by_cases h:320 < (l.length:Int)
 ·rw [if_pos h] at he;cases he
 ·rw [if_neg h] at he
  by_cases hf:fine l = true
  ·exact ⟨by omega,hf⟩
  ·simp [hf] at he
end Go.Proofs.Yteblpjhkgdpchaa
namespace Go.Proofs.Yteblpjhkgdpchaa
open Go.AM
def mV (b:List UInt8) (i:Nat):Int:=((b.getD (i / 8) 0).toNat / 2 ^ (i % 8) % 2:Nat)
def mxL:Int→List Int→Int
 | m,[]=>m
 | m,x :: r=>mxL (if m < x then x else m) r
def t3 (r:Int × Int × Int):AV:=.tup [.int .i64 r.1,.int .i64 r.2.1,.int .i64 r.2.2]
end Go.Proofs.Yteblpjhkgdpchaa
namespace Go.Proofs.Yteblpjhkgdpchaa
open Go.AM
inductive Res (α:Type) where
 | ok (a:α) (k:Nat) (o:List UInt8)
 | err (e:Int)
abbrev PM (α:Type):=Nat→List UInt8→Res α
def aar {α:Type} (a:α):PM α:=fun k o=>.ok a k o
structure Blk where
 kind:Int
 last:Bool
 k:Nat
 n:Nat
end Go.Proofs.Yteblpjhkgdpchaa
namespace Go.Proofs.Yteblpjhkgdpchaa
open Go.AM
structure Loc {α:Type} (m:List UInt8→Int→PM α):Prop where
 up:∀ b mo k o a k' o',m b mo k o = .ok a k' o'→k≤8 * b.length→k≤k'∧k'≤8 * b.length∧(∃ x,o' = o ++ x)∧((o.length:Int)≤mo→(o'.length:Int)≤mo)
 same:∀ b b2 mo mo2 k o a k' o',m b mo k o = .ok a k' o'→k≤8 * b.length→(∀ i,i < k'→mV b2 i = mV b i)→k'≤8 * b2.length→(o'.length:Int)≤mo2→m b2 mo2 k o = .ok a k' o'
 cut:∀ b b2 mo k o a k' o',m b mo k o = .ok a k' o'→k≤8 * b.length→(∀ i,i < 8 * b2.length→mV b2 i = mV b i)→k≤8 * b2.length→8 * b2.length < k'→(o.length:Int)≤mo→m b2 mo k o = .err 4
 few:∀ b mo mo2 k o a k' o',m b mo k o = .ok a k' o'→k≤8 * b.length→(o.length:Int)≤mo2→mo2 < o'.length→m b mo2 k o = .err 3
theorem JM {α:Type} {a a':α} {k k':Nat} {o o':List UInt8} (h:Res.ok a k o = .ok a' k' o'):a = a'∧k = k'∧o = o':=by
 cases h;exact ⟨rfl,rfl,rfl⟩
theorem Loc.ret {α:Type} (a:α):Loc (fun _ _=>aar a) where
 up:=by
  intro b mo k o a' k' o' h hk
  obtain ⟨_,rfl,rfl⟩:=JM h
  exact ⟨Nat.le_refl _,hk,⟨[],by simp⟩,fun h=>h⟩
 same:=fun b b2 mo mo2 k o a k' o' h _ _ _ _=>h
 cut:=by
  intro b b2 mo k o a' k' o' h hk _ h2 h3
  obtain ⟨_,rfl,rfl⟩:=JM h
  omega
 few:=by
  intro b mo mo2 k o a' k' o' h hk h2 h3
  obtain ⟨_,rfl,rfl⟩:=JM h
  omega
end Go.Proofs.Yteblpjhkgdpchaa
namespace Go.Proofs.Yteblpjhkgdpchaa
open Go.AM
theorem VQ {y u k j:Nat} (hu:u < 2) (hy:y / 2 ^ k % 2 = 0):(y ||| u * 2 ^ k) / 2 ^ j % 2 = if j = k then u else y / 2 ^ j % 2:=by
 have e:∀ x i:Nat,x / 2 ^ i % 2 = if x.testBit i then 1 else 0:=by
  intro x i
  rw [Nat.testBit_eq_decide_div_mod_eq]
  by_cases h:x / 2 ^ i % 2 = 1
  ·simp [h]
  ·rw [if_neg (by simpa using h)];omega
 have hyk:y.testBit k = false:=by
  rw [Nat.testBit_eq_decide_div_mod_eq,hy];rfl
 rw [e,e,Nat.testBit_or]
 have hu2:u = 0∨u = 1:=by omega
 rcases hu2 with rfl | rfl
 ·rw [Nat.zero_mul,Nat.zero_testBit,Bool.or_false]
  by_cases hj:j = k
  ·subst hj;simp [hyk]
  ·simp [hj]
 ·rw [Nat.one_mul,Nat.testBit_two_pow]
  by_cases hj:j = k
  ·subst hj;simp
  ·have:¬ k = j:=fun h=>hj h.symm
   simp [hj,this]
def Cln (s:Ws):Prop:=∀ i,s.k≤i→mV s.o i = 0
structure Gd (s:Ws):Prop where
 ok:iq s
 cl:Cln s
structure Ext (s s':Ws):Prop where
 le:s.k≤s'.k
 at':∀ i,i < s.k→mV s'.o i = mV s.o i
theorem Ext.refl (s:Ws):Ext s s:=⟨Nat.le_refl _,fun _ _=>rfl⟩
theorem Ext.trans {s s1 s2:Ws} (h:Ext s s1) (h2:Ext s1 s2):Ext s s2:=⟨Nat.le_trans h.le h2.le,fun i hi=>by rw [h2.at' i (Nat.lt_of_lt_of_le hi h.le),h.at' i hi]⟩
theorem FD {s:Ws} {x:Int} (h:Gd s) (i:Nat):mV (dZ s x).o i = if i = s.k then x % 2 else mV s.o i:=by
 have hok:=h.ok
 unfold iq at hok
 have h0:∀ i,mV (if s.k % 8 = 0 then s.o ++ [0] else s.o) i = mV s.o i:=by
  intro i
  split
  ·unfold mV
   by_cases h1:i / 8 < s.o.length
   ·rw [List.getD_eq_getElem?_getD,List.getD_eq_getElem?_getD,List.getElem?_append_left h1]
   ·have h3:s.o.getD (i / 8) 0 = 0:=by rw [List.getD_eq_getElem?_getD,List.getElem?_eq_none (by omega)];rfl
    have h2:(s.o ++ [0]).getD (i / 8) 0 = 0:=by
     rw [List.getD_eq_getElem?_getD,List.getElem?_append_right (by omega)]
     cases i / 8 - s.o.length with
     | zero=>rfl
     | succ n=>rfl
    rw [h2,h3]
  ·rfl
 have hlen:s.k / 8 < (if s.k % 8 = 0 then s.o ++ [0] else s.o).length:=by
  split
  ·simp;omega
  ·omega
 have hcl:mV (if s.k % 8 = 0 then s.o ++ [0] else s.o) s.k = 0:=by rw [h0];exact h.cl _ (Nat.le_refl _)
 rw [← h0 i]
 unfold dZ
 simp only
 generalize (if s.k % 8 = 0 then s.o ++ [0] else s.o) = b at *
 unfold mV at *
 by_cases h8:i / 8 = s.k / 8
 ·rw [h8]
  have e1:(b.set (s.k / 8) (orB (b.getD (s.k / 8) 0) x (s.k % 8))).getD (s.k / 8) 0 = orB (b.getD (s.k / 8) 0) x (s.k % 8):=by
   rw [List.getD_eq_getElem?_getD,List.getElem?_set_self hlen];rfl
  rw [e1]
  generalize b.getD (s.k / 8) 0 = y at *
  have hx2:(x % 2).toNat < 2:=by omega
  have hkr:s.k % 8 < 8:=Nat.mod_lt _ (by omega)
  have hor:y.toNat ||| (x % 2).toNat * 2 ^ (s.k % 8) < 256:=Nat.or_lt_two_pow (n:=8) y.toNat_lt (Un hx2 hkr)
  have e2:(orB y x (s.k % 8)).toNat = y.toNat ||| (x % 2).toNat * 2 ^ (s.k % 8):=by
   unfold orB
   rw [UInt8.toNat_ofNat']
   exact Nat.mod_eq_of_lt hor
  rw [e2,VQ hx2 (by omega)]
  by_cases hi:i = s.k
  ·rw [if_pos (by rw [hi]),if_pos hi];omega
  ·rw [if_neg (by omega),if_neg hi]
 ·have e1:(b.set (s.k / 8) (orB (b.getD (s.k / 8) 0) x (s.k % 8))).getD (i / 8) 0 = b.getD (i / 8) 0:=by
   rw [List.getD_eq_getElem?_getD,List.getElem?_set_ne (Ne.symm h8),← List.getD_eq_getElem?_getD]
  rw [e1,if_neg (fun h=>h8 (by rw [h]))]
theorem Rl {s:Ws} {x:Int} (h:Gd s):Gd (dZ s x)∧Ext s (dZ s x):=by
 refine ⟨⟨vG h.ok,fun i hi=>?_⟩,Nat.le_succ _,fun i hi=>?_⟩
 ·have hi':s.k + 1≤i:=hi
  rw [FD h,if_neg (by omega)]
  exact h.cl i (by omega)
 ·rw [FD h,if_neg (by omega)]
theorem qU {s:Ws} {x:Int} (h:Gd s):∀ n,Gd (cu s x n)∧Ext s (cu s x n)∧∀ i,i < n→mV (cu s x n).o (s.k + i) = x / 2 ^ i % 2
 | 0=>⟨h,Ext.refl s,fun i hi=>absurd hi (by omega)⟩
 | n + 1=>by
  obtain ⟨h1,h2,h3⟩:=qU (x:=x) h n
  obtain ⟨h4,h5⟩:=Rl (x:=x / 2 ^ n) h1
  have hk:=(bT (x:=x) h.ok n).2
  refine ⟨h4,h2.trans h5,fun i hi=>?_⟩
  show mV (dZ _ _).o _ = _
  rw [FD h1]
  by_cases hin:i = n
  ·subst hin
   rw [if_pos hk.symm]
  ·rw [if_neg (by omega)]
   exact h3 i (by omega)
structure Agr (b:List UInt8) (s:Ws):Prop where
 le:s.k≤8 * b.length
 at':∀ i,i < s.k→mV b i = mV s.o i
theorem Agr.ext {b:List UInt8} {s s':Ws} (h:Ext s s') (h2:Agr b s'):Agr b s:=⟨Nat.le_trans h.le h2.le,fun i hi=>by rw [h2.at' i (Nat.lt_of_lt_of_le hi h.le),h.at' i hi]⟩
end Go.Proofs.Yteblpjhkgdpchaa
