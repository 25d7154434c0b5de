/- ZB to ZI: texts of this claim, one behind the other; what each shows stands at its head. -/
import Derived.Test.YtcllinmgllmpmaaMg10
set_option linter.unusedSimpArgs false
set_option linter.unusedVariables false
set_option maxRecDepth 100000
set_option maxHeartbeats 8000000
namespace Go.Proofs.Ytcllinmgllmpmaa
open Go.AM
theorem SK (H:AM.Heap):evT X 40 [.int .u32 1] H = some (.tup [.int .u32 1,.int .u32 0],H):=by
 have:=dX (Ev1.tried (C:=X) (T:=fun _ _ _=>none) Below.none (n:=20) (f:=40) (args:=[.int .u32 1]) (v:=.tup [.int .u32 1,.int .u32 0]) (N:=[]) (by kernel_rfl) H)
 simpa [dh,kG,ren,bn] using this
section
variable {c:Nat} {l:List UInt8}
def zW (c t:Nat) (l:List UInt8) (lo hi:Int) (i:Nat):AM.Frame:=[(5,.int .u32 lo),(6,.int .u32 hi),(18,.ro c (.pb l) t),(19,.int .i64 (l.length:Nat)),(20,.int .i64 (i:Nat))]
theorem OG:∀ (l:List UInt8) (i:Nat) (lo hi:Int) {x:UInt8},l[i]? = some x→lK lo hi (l.drop i) = lK (lo1 lo x) (hi1 lo hi x) (l.drop (i + 1)):=by
 intro l i lo hi x hx
 have hi':i < l.length:=eY hx
 rw [List.drop_eq_getElem_cons hi',lK]
 rw [List.getElem?_eq_getElem hi'] at hx
 rw [Option.some.inj hx]
theorem SL {t:Nat} (hl:l.length≤1000000):∃ code,Try.f25.body = some code∧Run X (evT X) 25 0 code [(0,.int .u32 1),(1,.ro c (.pb l) t)] [] ⟨.ret,[(4,.int .u32 (adl l:Nat))],[]⟩:=by
 refine ⟨_,rfl,?_⟩
 have hh:=SK []
 apply Run.seq (fr':=[(0,.int .u32 1),(1,.ro c (.pb l) t)]) (H':=[])
 ·(refine ⟨0,?_⟩;simp (maxSteps:=2000000) -implicitDefEqProofs [-getElem?_pos,go_sem,eqV,ah])
 apply Run.seq (fr':=[(1,.ro c (.pb l) t),(5,.int .u32 1),(6,.int .u32 0)]) (H':=[])
 ·(refine ⟨0,?_⟩;simp (maxSteps:=2000000) -implicitDefEqProofs [-getElem?_pos,go_sem,eqV,ah,hh])
 apply Run.seq (fr':=[(1,.ro c (.pb l) t),(5,.int .u32 1),(6,.int .u32 0)]) (H':=[])
 ·(refine ⟨0,?_⟩;simp (maxSteps:=2000000) -implicitDefEqProofs [-getElem?_pos,go_sem,eqV,ah])
 apply Run.seq (fr':=zW c t l (lK 1 0 l).1 (lK 1 0 l).2 l.length ++ [(21,.bool false)]) (H':=[])
 ·apply Run.seq (fr':=zW c t l 1 0 0) (H':=[])
  ·simp only [zW]
   generalize hL:l.length = L at *
   (refine ⟨0,?_⟩;simp (maxSteps:=2000000) -implicitDefEqProofs [-getElem?_pos,go_sem,eqV,ah,hL])
  apply Run.iP
  refine Run.qC (σ:=Nat × Int × Int) (fun s=>s.1≤l.length∧lK s.2.1 s.2.2 (l.drop s.1) = lK 1 0 l) (fun s=>zW c t l s.2.1 s.2.2 s.1) (fun _=>[]) (fun _=>⟨.exit 0,zW c t l (lK 1 0 l).1 (lK 1 0 l).2 l.length ++ [(21,.bool false)],[]⟩) (fun s=>l.length - s.1) ?_ (0,1,0) ⟨by simp,rfl⟩
  rintro ⟨i,lo,hi⟩ ⟨h1,h2⟩
  simp only at h1 h2 ⊢
  by_cases he:i = l.length
  ·right
   subst he
   rw [List.drop_length] at h2
   refine ⟨?_,by simp⟩
   rw [← h2]
   simp only [lK,zW]
   generalize hL:l.length = L at *
   (refine ⟨0,?_⟩;simp (maxSteps:=2000000) -implicitDefEqProofs [-getElem?_pos,go_sem,eqV,ah,hL])
  ·left
   have hlt:i < l.length:=by omega
   have jU:(i:Int) < (l.length:Int):=by omega
   obtain ⟨x,hx⟩:∃ x,l[i]? = some x:=⟨l[i],List.getElem?_eq_getElem hlt⟩
   rw [OG l i lo hi hx] at h2
   have w1:IntKind.i64.wrap ((i:Int) + 1) = ((i + 1:Nat):Int):=by rw [wrap_i64 (by omega) (by omega)];omega
   refine ⟨(i + 1,lo1 lo x,hi1 lo hi x),⟨by simp only;omega,h2⟩,?_,trivial,by simp only;omega⟩
   simp only
   apply Run.seq (fr':=zW c t l lo hi i ++ [(21,.bool true)]) (H':=[])
   ·simp only [zW]
    generalize hL:l.length = L at *
    (refine ⟨0,?_⟩;simp (maxSteps:=2000000) -implicitDefEqProofs [-getElem?_pos,go_sem,eqV,ah,jU,hL])
   apply Run.seq (fr':=zW c t l lo hi i ++ [(21,.bool true)]) (H':=[])
   ·exact Run.cond (d:=true) (by simp [zW,aF,au]) ⟨0,rfl⟩
   apply Run.seq (fr':=zW c t l (lo1 lo x) (hi1 lo hi x) i) (H':=[])
   ·refine Run.block ?_ (by simp)
    apply Run.seq (fr':=[(5,.int .u32 lo),(6,.int .u32 hi),(8,.int .u8 (x.toNat:Nat)),(18,.ro c (.pb l) t),(19,.int .i64 (l.length:Nat)),(20,.int .i64 (i:Nat))]) (H':=[])
    ·simp only [zW]
     generalize hL:l.length = L at *
     (refine ⟨0,?_⟩;simp (maxSteps:=2000000) -implicitDefEqProofs [-getElem?_pos,go_sem,eqV,ah,hx,jU,hlt,hL,retag])
    apply Run.seq (fr':=zW c t l (lo1 lo x) hi i) (H':=[]) ⟨0,rfl⟩
    exact ⟨0,rfl⟩
   ·simp only [zW]
    generalize i + 1 = i1 at *
    generalize l.length = L at *
    (refine ⟨0,?_⟩;simp (maxSteps:=2000000) -implicitDefEqProofs [-getElem?_pos,go_sem,eqV,ah,w1])
 rw [← Vb]
 generalize lK 1 0 l = r at *
 apply Run.seq (fr':=[(4,.int .u32 (LK r.1 r.2))]) (H':=[]) ⟨0,rfl⟩
 exact ⟨0,rfl⟩
theorem Qx {H:AM.Heap} {a:AV} (ha:dP H a = some (.pb l)) (hl:l.length≤1000000):evT X 25 [.int .u32 1,a] H = some (.int .u32 (adl l:Nat),H):=by
 obtain ⟨c,x,hx⟩:=fV (C:=X) (f:=25) (i:=1) rfl ha (fF 2)
 have hx2:=lH (C:=X) (f:=25) (i:=0) (a:=.int .u32 1) (H:=H) rfl rfl hx
 obtain ⟨code,hc,hr⟩:=SL (c:=c) (l:=l) (t:=2) hl
 refine dX (Ev1.wG (l:=[.int .u32 (adl l:Nat)]) (bU X) Try.func25 hc hx2 (by simp [aA,ids]) (by simp [dG]) rfl rfl rfl ?_)
 rw [abo]
 exact ⟨_,⟨rfl,rfl⟩,hr⟩
theorem Vd {H:AM.Heap} {a:AV} (ha:dP H a = some (.pb l)) (hl:l.length≤1000000):evT X 19 [a] H = some (.int .u32 (adl l:Nat),H):=by
 obtain ⟨c,x,hx⟩:=fV (C:=X) (f:=19) (i:=0) rfl ha (fF 1)
 have hm:=Qx (H:=[]) (a:=.ro c (.pb l) 1) (l:=l) rfl hl
 have hr:∃ code,Try.f19.body = some code∧Run X (evT X) 19 0 code [(0,.ro c (.pb l) 1)] [] ⟨.ret,[(2,.int .u32 (adl l:Nat))],[]⟩:=by
  refine ⟨_,rfl,0,?_⟩
  simp (maxSteps:=2000000) -implicitDefEqProofs [-getElem?_pos,go_sem,eqV,ah,hm]
 obtain ⟨code,hc,hr⟩:=hr
 refine dX (Ev1.wG (l:=[.int .u32 (adl l:Nat)]) (bU X) Try.func19 hc hx (by simp [aA,ids]) (by simp [dG]) rfl rfl rfl ?_)
 rw [YX]
 exact ⟨_,⟨rfl,rfl⟩,hr⟩
theorem abp (H:AM.Heap):dA X H 22 2 [(0,.int .u8 120),(1,.int .u8 1)] = some (.ro 1 (.pb [120,1]) 0,H):=by kernel_rfl
theorem agi (H:AM.Heap) (s:Nat):dA X H 22 4 [(0,.int .u8 (UInt8.ofNat (s / 16777216)).toNat),(1,.int .u8 (UInt8.ofNat (s / 65536)).toNat),(2,.int .u8 (UInt8.ofNat (s / 256)).toNat),(3,.int .u8 (UInt8.ofNat s).toNat)] = some (.ro 1 (.pb (be4 s)) 0,H):=by
 unfold be4
 generalize UInt8.ofNat (s / 16777216) = x0
 generalize UInt8.ofNat (s / 65536) = x1
 generalize UInt8.ofNat (s / 256) = x2
 generalize UInt8.ofNat s = x3
 have h0:(x0.toNat:Int) < 256:=by have:=x0.toNat_lt;omega
 have h1:(x1.toNat:Int) < 256:=by have:=x1.toNat_lt;omega
 have h2:(x2.toNat:Int) < 256:=by have:=x2.toNat_lt;omega
 have h3:(x3.toNat:Int) < 256:=by have:=x3.toNat_lt;omega
 simp [dA,jR,uN,mkRow,jO,dZ,cellsOf,scalars,scalar,aA,ids,aU,tags,dO,h0,h1,h2,h3]
theorem Xt {H:AM.Heap} {o g:Nat} {ob:AM.Obj} {l:List UInt8} (ho:H[o]? = some (some ob)) (hw:Rw (.pb l) g ob) (hne:l ≠ []) (hl:l.length≤100000):dw X H 22 (.ro 1 (.pb [120,1]) 0) (.sl o 0 l.length g) = some (.sl H.length 0 (120 :: 1 :: l).length 0,H ++ [some ⟨.pb (120 :: 1 :: l),0,none,1,true,false,0⟩]):=by
 have hr:fP X 5 (2 + l.length) = true:=by simp [fP];omega
 have he:2 + l.length = l.length + 1 + 1:=by omega
 have q1:=hw.p;have q2:=hw.g;have q4:=hw.ids;have q5:=hw.tg
 simp only [dw,vI,zX,Jp]
 simp [lV,pI,ah,rD,hr,rE,emB,aN,live,ho,q1,q2,q4,q5,jd,eX,hne,he ▸ hr,he]
end
end Go.Proofs.Ytcllinmgllmpmaa
namespace Go.Proofs.Ytcllinmgllmpmaa
open Go.AM
theorem Xu (F:Nat) (mo:Int) (h:0≤mo):vM (F + 1) [] mo = ([],0,4):=by
 unfold vM
 rw [if_neg (by omega)]
 rfl
theorem Xv {b:List UInt8} (hb:b.length≤65535):gq b ≠ []:=by
 intro e
 have h:=Hr (F:=b.length + 1) (b:=b) (r:=[]) (mo:=(b.length:Nat)) hb (Int.le_refl _) (by omega)
 rw [e,List.append_nil,Xu _ _ (by omega)] at h
 exact absurd (Prod.mk.inj (Prod.mk.inj h).2).2 (by decide)
section
variable {c:Nat} {b:List UInt8}
theorem byte_of (s:Nat):IntKind.u8.wrap ((s:Nat):Int) = (UInt8.ofNat s).toNat:=by
 rw [UInt8.toNat_ofNat']
 show ((s:Nat):Int) % 256 = ((s % 256:Nat):Int)
 omega
theorem SN {m:Nat} (hb:b.length≤1400):∃ code,Try.f11.body = some code∧aj (qo fun fr E=>∃ a g ob,au fr 2 = .sl a 0 (pY b).length g∧E[a]? = some (some ob)∧Rw (.pb (pY b)) g ob) X (evT X) 11 m code [(0,.ro c (.pb b) 1)] []:=by
 refine ⟨_,rfl,?_⟩
 have hs:=Vd (H:=[some (⟨.pb [],0,none,0,true,false,0⟩:AM.Obj)]) (a:=.ro c (.pb b) 1) (l:=b) rfl (by omega)
 obtain ⟨ob1,w1,e1⟩:=OH (H:=[some (⟨.pb [],0,none,0,true,false,0⟩:AM.Obj)]) (a:=.ro c (.pb b) 1) (b:=b) rfl hb
 have hlt:=OI b
 have hdl:=LM b
 have hA:dw X [some (⟨.pb [],0,none,0,true,false,0⟩:AM.Obj),some ob1] 22 (.ro 1 (.pb [120,1]) 0) (.sl 1 0 (gq b).length 0) = some (.sl 2 0 (120 :: 1 :: gq b).length 0,[some (⟨.pb [],0,none,0,true,false,0⟩:AM.Obj),some ob1,some ⟨.pb (120 :: 1 :: gq b),0,none,1,true,false,0⟩]):=Xt (H:=[some (⟨.pb [],0,none,0,true,false,0⟩:AM.Obj),some ob1]) (o:=1) rfl w1 (Xv (by omega)) (by omega)
 obtain ⟨ob2,w2,hB⟩:=OJ (C:=X) (T:=22) (e:=5) (H:=[some (⟨.pb [],0,none,0,true,false,0⟩:AM.Obj),some ob1,some ⟨.pb (120 :: 1 :: gq b),0,none,1,true,false,0⟩]) (o:=2) (g:=0) (ob:=⟨.pb (120 :: 1 :: gq b),0,none,1,true,false,0⟩) (l:=120 :: 1 :: gq b) (m:=be4 (adl b)) (src:=.ro 1 (.pb (be4 (adl b))) 0) vI SQ zX bytes5 Jp rfl ⟨rfl,rfl,rfl,rfl,rfl⟩ (.inl (by simp [lV,pI,rD])) (by simp [be4];omega)
 have hp:pY b = (120 :: 1 :: gq b) ++ be4 (adl b):=rfl
 have hlen:(pY b).length = (120 :: 1 :: gq b).length + (be4 (adl b)).length:=by rw [hp,List.length_append]
 rw [← hp] at w2
 rw [← hlen] at hB
 simp only [List.length_cons,List.length_nil,List.cons_append,List.nil_append] at e1
 apply aj.seq (fr':=[(0,.ro c (.pb b) 1)]) (H':=[some (⟨.pb [],0,none,0,true,false,0⟩:AM.Obj)])
 ·(refine ⟨0,?_⟩;simp (maxSteps:=2000000) -implicitDefEqProofs [-getElem?_pos,go_sem,eqV,ah,ak,rowOf,emB])
 generalize hr0:some (⟨.pb [],0,none,0,true,false,0⟩:AM.Obj) = r0 at *
 generalize hr1:some (⟨.pb (120 :: 1 :: gq b),0,none,1,true,false,0⟩:AM.Obj) = r1 at *
 apply aj.seq (fr':=[(0,.ro c (.pb b) 1),(3,.int .u32 (adl b:Nat))]) (H':=[r0])
 ·generalize adl b = s at *
  (refine ⟨0,?_⟩;simp (maxSteps:=2000000) -implicitDefEqProofs [-getElem?_pos,go_sem,eqV,ah,hs])
 have f3:((adl b:Nat):Int).fdiv 16777216 = ((adl b / 16777216:Nat):Int):=by rw [Int.fdiv_eq_ediv_of_nonneg _ (by omega)];omega
 have f2:((adl b:Nat):Int).fdiv 65536 = ((adl b / 65536:Nat):Int):=by rw [Int.fdiv_eq_ediv_of_nonneg _ (by omega)];omega
 have f1:((adl b:Nat):Int).fdiv 256 = ((adl b / 256:Nat):Int):=by rw [Int.fdiv_eq_ediv_of_nonneg _ (by omega)];omega
 have f3':((adl b:Nat):Int) / 16777216 = ((adl b / 16777216:Nat):Int):=by omega
 have f2':((adl b:Nat):Int) / 65536 = ((adl b / 65536:Nat):Int):=by omega
 have f1':((adl b:Nat):Int) / 256 = ((adl b / 256:Nat):Int):=by omega
 have g3:=byte_of (adl b / 16777216)
 have g2:=byte_of (adl b / 65536)
 have g1:=byte_of (adl b / 256)
 have g0:=byte_of (adl b)
 have hb4:=fun H=>agi H (adl b)
 apply aj.seq (fr':=[(3,.int .u32 (adl b:Nat)),(4,.sl 2 0 (120 :: 1 :: gq b).length 0)]) (H':=[r0,some ob1,r1])
 ·generalize (120 :: 1 :: gq b).length = N3 at *
  generalize (gq b).length = N at *
  generalize adl b = s at *
  (refine ⟨0,?_⟩;simp (maxSteps:=2000000) -implicitDefEqProofs [-getElem?_pos,go_sem,eqV,ah,abp,e1,hA,ak])
 refine aj.of (o:=⟨.ret,[(2,.sl 2 0 (pY b).length (0 + 1))],AM.upd [r0,some ob1,r1] 2 (some ob2)⟩) ?_ ⟨rfl,2,_,ob2,rfl,rfl,w2⟩
 refine ⟨0,?_⟩
 generalize (120 :: 1 :: gq b).length = N at *
 generalize (pY b).length = N2 at *
 generalize be4 (adl b) = q at *
 generalize (UInt8.ofNat (adl b / 16777216)).toNat = y3 at *
 generalize (UInt8.ofNat (adl b / 65536)).toNat = y2 at *
 generalize (UInt8.ofNat (adl b / 256)).toNat = y1 at *
 generalize (UInt8.ofNat (adl b)).toNat = y0 at *
 generalize adl b / 16777216 = z3 at *
 generalize adl b / 65536 = z2 at *
 generalize adl b / 256 = z1 at *
 generalize adl b = s at *
 simp (maxSteps:=2000000) -implicitDefEqProofs [-getElem?_pos,go_sem,eqV,ah,f3,f2,f1,f3',f2',f1',g3,g2,g1,g0,hb4,hB,ak]
theorem Qy {H:AM.Heap} {a:AV} (ha:dP H a = some (.pb b)) (hb:b.length≤1400):∃ ob,Rw (.pb (pY b)) 0 ob∧evT X 11 [a] H = some (.sl H.length 0 (pY b).length 0,H ++ [some ob]):=by
 obtain ⟨c,x,hx⟩:=fV (C:=X) (f:=11) (i:=0) rfl ha (fF 1)
 obtain ⟨code,hc,⟨out,⟨ho,a2,g,ob,h2,h4,hw⟩,hrun⟩⟩:=SN (m:=0) (c:=c) hb
 obtain ⟨ob',q1,q2⟩:=Ev1.Ve (C:=X) (H:=H) (bU X) (n:=(pY b).length) (l:=pY b) (rest:=[]) Try.func11 hc hx rfl (by simp [dG]) rfl rfl rfl (by
  rw [abq]
  refine ⟨out,⟨ho,a2,g,ob,?_,h4,hw⟩,hrun⟩
  show aP X out.fr out.H [.tmp 2] = _
  simp [aP,h2])
 exact ⟨ob',q1,dX q2⟩
end
end Go.Proofs.Ytcllinmgllmpmaa
namespace Go.Proofs.Ytcllinmgllmpmaa
open Go.AM
theorem abr {x:Nat} (h:x < 256):IntKind.u8.wrap ((AM.bits .u8 (x:Int) &&& AM.bits .u8 15).toNat:Nat) = ((x % 16:Nat):Int):=by
 have h1:(AM.bits .u8 15).toNat = 15:=by decide
 rw [BitVec.toNat_and,BL h,h1,show x &&& 15 = x % 16 from Nat.and_two_pow_sub_one_eq_mod x 4,wu8 (by omega)]
theorem Zm {x:Nat} (h:x < 256):IntKind.u8.wrap ((AM.bits .u8 (x:Int) &&& AM.bits .u8 1).toNat:Nat) = ((x % 2:Nat):Int):=by
 have h1:(AM.bits .u8 1).toNat = 1:=by decide
 rw [BitVec.toNat_and,BL h,h1,Nat.and_one_is_mod,wu8 (by omega)]
theorem abt {x y:Nat} (hx:x < 256) (hy:y < 256):IntKind.i64.wrap ((AM.bits .i64 ((x * 256:Nat):Int) ||| AM.bits .i64 (y:Int)).toNat:Nat) = ((x * 256 + y:Nat):Int):=by
 have hb:∀ v:Nat,v < 65536→(AM.bits .i64 (v:Int)).toNat = v:=fun v hv=>bits_nat (by omega)
 rw [BitVec.toNat_or,hb _ (by omega),hb _ (by omega)]
 have:x * 256 ||| y = x * 256 + y:=by
  rw [Nat.mul_comm]
  exact (Nat.two_pow_add_eq_or_of_lt (i:=8) hy x).symm
 rw [this,wrap_i64 (by omega) (by omega)]
section
variable {c:Nat} {b:List UInt8}
theorem SS {m:Nat} (hb:b.length≤1000000):∃ code,Try.f12.body = some code∧Run X (evT X) 12 m code [(0,.ro c (.pb b) 1)] [] ⟨.ret,[(2,.int .i64 (qc b))],[]⟩:=by
 refine ⟨_,rfl,?_⟩
 apply Run.seq (fr':=[(0,.ro c (.pb b) 1)]) (H':=[])
 ·(refine ⟨0,?_⟩;simp (maxSteps:=2000000) -implicitDefEqProofs [-getElem?_pos,go_sem,eqV,ah])
 unfold qc
 by_cases h2:b.length < 2
 ·rw [if_pos h2]
  have h2I:(b.length:Int) < 2:=by omega
  refine ⟨0,?_⟩
  generalize hN:b.length = N at *
  simp (maxSteps:=2000000) -implicitDefEqProofs [-getElem?_pos,go_sem,eqV,ah,h2,h2I,hN]
 rw [if_neg h2]
 have h2I:¬ (b.length:Int) < 2:=by omega
 apply Run.seq (fr':=[(0,.ro c (.pb b) 1),(5,.bool false)]) (H':=[])
 ·apply Run.seq (fr':=[(0,.ro c (.pb b) 1),(5,.bool false)]) (H':=[])
  ·generalize hN:b.length = N at *
   (refine ⟨0,?_⟩;simp (maxSteps:=2000000) -implicitDefEqProofs [-getElem?_pos,go_sem,eqV,ah,h2,h2I,hN])
  ·exact Run.cond (d:=false) (by simp [aF,au]) ⟨0,rfl⟩
 obtain ⟨x,hx⟩:∃ x,b[0]? = some x:=⟨_,List.getElem?_eq_getElem (by omega)⟩
 obtain ⟨y,hy⟩:∃ x,b[1]? = some x:=⟨_,List.getElem?_eq_getElem (by omega)⟩
 have gx:b.getD 0 0 = x:=by rw [List.getD_eq_getElem?_getD,hx];rfl
 have gy:b.getD 1 0 = y:=by rw [List.getD_eq_getElem?_getD,hy];rfl
 rw [gx,gy]
 have l0:0 < b.length:=by omega
 have l1:1 < b.length:=by omega
 have l0I:(0:Int) < (b.length:Int):=by omega
 have l1I:(1:Int) < (b.length:Int):=by omega
 have bx:=x.toNat_lt
 have by':=y.toNat_lt
 have a1:=abr bx
 have a2:((x.toNat:Nat):Int).fdiv 16 = ((x.toNat / 16:Nat):Int):=by rw [Int.fdiv_eq_ediv_of_nonneg _ (by omega)];omega
 have a2':((x.toNat:Nat):Int) / 16 = ((x.toNat / 16:Nat):Int):=by omega
 have a3:((y.toNat:Nat):Int).fdiv 32 = ((y.toNat / 32:Nat):Int):=by rw [Int.fdiv_eq_ediv_of_nonneg _ (by omega)];omega
 have a3':((y.toNat:Nat):Int) / 32 = ((y.toNat / 32:Nat):Int):=by omega
 have a4:=Zm (x:=y.toNat / 32) (by omega)
 have a5:IntKind.i64.wrap ((x.toNat:Nat):Int) = ((x.toNat:Nat):Int):=wrap_i64 (by omega) (by omega)
 have a6:IntKind.i64.wrap (((x.toNat:Nat):Int) * 256) = ((x.toNat * 256:Nat):Int):=by rw [wrap_i64 (by omega) (by omega)];omega
 have a7:IntKind.i64.wrap ((y.toNat:Nat):Int) = ((y.toNat:Nat):Int):=wrap_i64 (by omega) (by omega)
 have a8:=abt bx by'
 have a9:((x.toNat * 256 + y.toNat:Nat):Int).tmod 31 = (((x.toNat * 256 + y.toNat) % 31:Nat):Int):=by rw [Int.tmod_eq_emod_of_nonneg (by omega)];omega
 have a9':((x.toNat * 256 + y.toNat:Nat):Int) % 31 = (((x.toNat * 256 + y.toNat) % 31:Nat):Int):=by omega
 have aw:IntKind.i64.wrap (((x.toNat * 256 + y.toNat) % 31:Nat):Int) = (((x.toNat * 256 + y.toNat) % 31:Nat):Int):=wrap_i64 (by omega) (by omega)
 have ha1:x.toNat % 16 < 256:=by omega
 generalize hu1:x.toNat % 16 = u1 at *
 generalize hu2:x.toNat / 16 = u2 at *
 generalize hu3:y.toNat / 32 % 2 = u3 at *
 generalize hu4:(x.toNat * 256 + y.toNat) % 31 = u4 at *
 generalize hu5:y.toNat / 32 = u5 at *
 generalize hu6:x.toNat * 256 + y.toNat = u6 at *
 generalize hu7:x.toNat * 256 = u7 at *
 simp only [go_sem] at a1 a4 a8
 have h3:∃ code,((Try.f12.body).bind (aI [1,1,0,0])) = some code∧Run X (evT X) 12 m code [(0,.ro c (.pb b) 1),(5,.bool false)] [] ⟨.normal,[(39,.bool (decide (u1 ≠ 8∨7 < u2∨u3 ≠ 0∨u4 ≠ 0)))],[]⟩:=by
  refine ⟨_,rfl,?_⟩
  generalize hN:b.length = N at *
  by_cases c1:u1 = 8
  ·by_cases c2:7 < u2
   ·have c2I:(7:Int) < (u2:Int):=by omega
    rw [decide_eq_true (.inr (.inl c2))]
    (refine ⟨0,?_⟩;simp (maxSteps:=2000000) -implicitDefEqProofs [-getElem?_pos,go_sem,eqV,ah,hN,hx,hy,l0,l1,l0I,l1I,a1,a2,a2',c1,c2,c2I,retag])
   ·have c2I:¬ (7:Int) < (u2:Int):=by omega
    by_cases c3:u3 = 0
    ·by_cases c4:u4 = 0
     ·rw [decide_eq_false (by omega)]
      (refine ⟨0,?_⟩;simp (maxSteps:=2000000) -implicitDefEqProofs [-getElem?_pos,go_sem,eqV,ah,hN,hx,hy,l0,l1,l0I,l1I,a1,a2,a2',a3,a3',a4,a5,a6,a7,a8,a9,a9',aw,c1,c2,c2I,c3,c4,retag])
     ·have c4I:((u4:Nat):Int) ≠ 0:=by omega
      have c4b:(((u4:Nat):Int) != 0) = true:=by simpa using c4
      rw [decide_eq_true (.inr (.inr (.inr c4)))]
      (refine ⟨0,?_⟩;simp (maxSteps:=2000000) -implicitDefEqProofs [-getElem?_pos,go_sem,eqV,ah,hN,hx,hy,l0,l1,l0I,l1I,a1,a2,a2',a3,a3',a4,a5,a6,a7,a8,a9,a9',aw,c1,c2,c2I,c3,c4,c4I,c4b,retag])
    ·have c3b:(((u3:Nat):Int) != 0) = true:=by simpa using c3
     rw [decide_eq_true (.inr (.inr (.inl c3)))]
     (refine ⟨0,?_⟩;simp (maxSteps:=2000000) -implicitDefEqProofs [-getElem?_pos,go_sem,eqV,ah,hN,hx,hy,l0,l1,l0I,l1I,a1,a2,a2',a3,a3',a4,c1,c2,c2I,c3,c3b,retag])
  ·have c1b:(((u1:Nat):Int) != 8) = true:=by simp;omega
   rw [decide_eq_true (.inl c1)]
   (refine ⟨0,?_⟩;simp (maxSteps:=2000000) -implicitDefEqProofs [-getElem?_pos,go_sem,eqV,ah,hN,hx,hy,l0,l1,l0I,l1I,a1,c1,c1b,retag])
 by_cases hc:u1 ≠ 8∨7 < u2∨u3 ≠ 0∨u4 ≠ 0
 ·rw [decide_eq_true hc] at h3
  rw [if_pos hc]
  refine Run.bH ?_ (by simp)
  apply Run.seq (piece h3 _ rfl)
  refine ⟨0,?_⟩
  simp (maxSteps:=2000000) -implicitDefEqProofs [-getElem?_pos,go_sem,eqV,ah]
 ·rw [decide_eq_false hc] at h3
  rw [if_neg hc]
  apply Run.seq (fr':=[(39,.bool false)]) (H':=[])
  ·apply Run.seq (piece h3 _ rfl)
   exact Run.cond (d:=false) (by simp [aF,au]) ⟨0,rfl⟩
  refine ⟨0,?_⟩
  simp (maxSteps:=2000000) -implicitDefEqProofs [-getElem?_pos,go_sem,eqV,ah]
theorem Xw {H:AM.Heap} {a:AV} (ha:dP H a = some (.pb b)) (hb:b.length≤1000000):evT X 12 [a] H = some (.int .i64 (qc b),H):=by
 obtain ⟨c,x,hx⟩:=fV (C:=X) (f:=12) (i:=0) rfl ha (fF 1)
 obtain ⟨code,hc,hr⟩:=SS (m:=0) (c:=c) hb
 refine dX (Ev1.wG (l:=[.int .i64 (qc b)]) (bU X) Try.func12 hc hx (by simp [aA,ids]) (by simp [dG]) rfl rfl rfl ?_)
 rw [abu]
 exact ⟨_,⟨rfl,rfl⟩,hr⟩
end
end Go.Proofs.Ytcllinmgllmpmaa
namespace Go.Proofs.Ytcllinmgllmpmaa
open Go.AM
theorem OL (c c2:Nat) (a b:List UInt8):∃ code,Try.f10.body = some code ∧
  Run X (evT X) 10 0 code [(0,.ro c (.pb a) 1),(1,.ro c2 (.pb b) 2)] [] ⟨.ret,[(4,.bool (a == b))],[]⟩:=by
 refine ⟨_,rfl,0,?_⟩
 simp (maxSteps:=2000000) -implicitDefEqProofs [-getElem?_pos,go_sem,eqV,ah,qJ,LQ]
theorem coD {p:AV} {b:List UInt8} {c t:Nat} {r:List AV} {ts:List TypeId} (hp:PB p b):coerce X (.ro c p t :: r) (22 :: ts) = .ro c (.pb b) t :: coerce X r ts:=by
 rcases hp with rfl | ⟨rfl,rfl⟩
 ·simp [coerce]
 ·simp [coerce,bT]
theorem Vf {H:AM.Heap} {a a2:AV} {l m:List UInt8} (h:Byt H a l) (h2:Byt H a2 m):evT X 10 [a,a2] H = some (.bool (l == m),H):=by
 obtain ⟨c2,p2,x2,hp2,_,hx2⟩:=LU (C:=X) (f:=10) (i:=1) rfl h2 (fF 2)
 obtain ⟨c,p,x,hp,_,hx⟩:=LU (C:=X) (f:=10) (i:=0) rfl h hx2
 obtain ⟨code,hcode,hr⟩:=OL c c2 l m
 refine dX (Ev1.wG (l:=[.bool (l == m)]) (bU X) Try.func10 hcode hx (by simp [aA,ids,hp.ids,hp2.ids]) (by simp [dG]) rfl rfl rfl ?_)
 rw [abv,coD hp,coD hp2]
 exact ⟨_,⟨rfl,rfl⟩,hr⟩
end Go.Proofs.Ytcllinmgllmpmaa
namespace Go.Proofs.Ytcllinmgllmpmaa
open Go.AM
theorem OM {x y k P:Nat} (hP:2 ^ k = P) (hy:y < P) (hx:x * P + y < 4294967296):IntKind.u32.wrap ((AM.bits .u32 ((x * P:Nat):Int) ||| AM.bits .u32 ((y:Nat):Int)).toNat:Nat) = ((x * P + y:Nat):Int):=by
 have hb:∀ v:Nat,v < 4294967296→(AM.bits .u32 (v:Int)).toNat = v:=by
  intro v hv
  unfold AM.bits
  rw [BitVec.toNat_ofInt]
  show ((v:Int) % 4294967296).toNat = v
  omega
 rw [BitVec.toNat_or,hb _ (by omega),hb _ (by omega)]
 subst hP
 have:x * 2 ^ k ||| y = x * 2 ^ k + y:=by
  rw [Nat.mul_comm]
  exact (Nat.two_pow_add_eq_or_of_lt (i:=k) hy x).symm
 rw [this,wrap_u32 (by omega) (by omega)]
theorem abw {F:Nat} {b out:List UInt8} {mo n:Int} (h0:0≤mo) (h:vM F b mo = (out,n,0)):∃ N:Nat,n = (N:Nat)∧N≤b.length∧(out.length:Int)≤mo:=by
 unfold vM at h
 rw [if_neg (by omega)] at h
 cases hb:qp b mo F F 0 [] with
 | err e =>
  rw [hb] at h
  simp only [Prod.mk.injEq] at h
  obtain ⟨rfl,rfl,_⟩:=h
  exact ⟨0,rfl,Nat.zero_le _,by simpa using h0⟩
 | ok L k o =>
  rw [hb] at h
  simp only [Prod.mk.injEq] at h
  obtain ⟨rfl,rfl,_⟩:=h
  obtain ⟨u1,u2,_,u4⟩:=(Qz F F).up b mo _ _ _ _ _ hb (by omega)
  exact ⟨_,rfl,by omega,u4 (by simpa using h0)⟩
theorem Xx {H:AM.Heap} {a:AV} {l:List UInt8} (h:BM H a l) (hl:l.length≤1000000):evT X 19 [a] H = some (.int .u32 (adl l:Nat),H):=by
 rcases h with ⟨o,g,τ,ob,rfl,ho,hw⟩ | ⟨rfl,τ,rfl⟩
 ·refine Vd ?_ hl
  simp only [dP,live,ho,hw.g,if_true,hw.ids,hw.p,jd]
  simp
 ·have hl:aG X 19 H 0 [.ro 0 .pn τ] = some ([.ro 0 .pn 1],[⟨[],[τ]⟩]):=by
   have hr:X.rw 19 0 = false:=rfl
   rw [aG]
   ·simp [hr,dS,dN,aG]
   ·exact fun _ _ _ _ h=>by cases h
  have hm:=Qx (H:=[]) (a:=.ro 0 (.pb []) 1) (l:=[]) rfl (by simp)
  have hr:∃ code,Try.f19.body = some code∧Run X (evT X) 19 0 code [(0,.ro 0 (.pb []) 1)] [] ⟨.ret,[(2,.int .u32 (adl []:Nat))],[]⟩:=by
   refine ⟨_,rfl,0,?_⟩
   simp (maxSteps:=2000000) -implicitDefEqProofs [-getElem?_pos,go_sem,eqV,ah,hm]
  obtain ⟨code,hc,hr⟩:=hr
  refine dX (Ev1.wG (l:=[.int .u32 (adl []:Nat)]) (bU X) Try.func19 hc hl (by simp [aA,ids]) (by simp [dG]) rfl rfl rfl ?_)
  rw [YX,coD (.inr ⟨rfl,rfl⟩)]
  exact ⟨_,⟨rfl,rfl⟩,hr⟩
theorem Vg {f:Nat} {fn:Func} {code:Code} {H:AM.Heap} {a:AV} {b out:List UInt8} {x:Int} {rest:List AV} (hF:X.P.funcs[f]? = some fn) (hb:fn.body = some code) (h0:X.rw f 0 = false) (h1:X.rw f 1 = false) (ha:dP H a = some (.pb b)) (hri:aA rest = []) (hrt:aU rest = []) (hnt:eU rest = true) (hne:rest ≠ [])
  (ht:aj (qo fun fr E=>∃ v,aP X fr E fn.results.toList = some (v :: rest)∧SV E out v) X (evT X) f 0 code (numbered 0 (coerce X [.ro (rC H a) (.pb b) 1,.int .i64 x] (aJ X f))) []) :
  ∃ v R,evT X f [a,.int .i64 x] H = some (.tup (v :: rest),H ++ R)∧BM (H ++ R) v out:=by
 have hl:aG X f H 0 [a,.int .i64 x] = some ([.ro (rC H a) (.pb b) 1,.int .i64 x],[⟨slO a,[BN H a]⟩,⟨[],[]⟩]):=by
  have q1:=Ht (k:=1) ha
  have e2:aG X f H 1 [.int .i64 x] = some ([.int .i64 x],[⟨[],[]⟩]):=by simp [aG,h1,dS,dN,tags]
  rw [aG]
  simp only [h0,Nat.zero_add,q1,e2]
  exact fun _ _ _ _ h=>by cases h
 have hres:∀ v:AV,eU (v :: rest) = true→aO (v :: rest) = .tup (v :: rest):=by
  intro v hv
  cases rest with
  | nil=>exact absurd rfl hne
  | cons y r=>simp [aO,hv]
 obtain ⟨o,⟨ho,v,hr,hv⟩,hrun⟩:=ht
 rcases hv with ⟨q,g,τ,ob,hτ,rfl,hq,hw⟩ | ⟨rfl,rfl⟩
 ·obtain ⟨τ',ob',q1,q3,_⟩:=Ev1.newT (C:=X) (bU X) (tg0:=BN H a) (bo:=slO a) (n:=out.length) (p:=.pb out) (rest:=rest) hF hb hl rfl rfl (by simp [dG]) hri hrt hnt rfl rfl (by simp) ⟨o,⟨ho,q,g,τ,ob,hτ,hr,hq,hw⟩,hrun⟩
  rw [hres _ (by simpa [eU] using hnt)] at q1
  exact ⟨_,[some ob'],dX q1,.inl ⟨H.length,0,τ',ob',rfl,List.getElem?_concat_length,q3⟩⟩
 ·have Xy:eU (.ro 0 .pn 1 :: rest) = true:=by simpa [eU] using hnt
  have htN:∀ l:List AV,aU l = []→l.flatMap Ed = []:=by
   intro l hl
   refine List.eq_nil_iff_forall_not_mem.2 fun t ht=>?_
   obtain ⟨y,hy,ht⟩:=List.mem_flatMap.1 ht
   have:=iI hy t (A8 ht)
   rw [hl] at this
   cases this
  have q1:=Ev1.bV (C:=X) (bU X) (tg0:=BN H a) (bo:=slO a) (l:=.ro 0 .pn 1 :: rest) hF hb hl rfl rfl (by simp [dG]) ⟨o,⟨ho,hr⟩,hrun⟩ (by rw [hres _ Xy];simp [ids,aA,hri]) (by rw [hres _ Xy];simp [tags,aU,hrt]) (by
   rw [hres _ Xy]
   simp only [tq,List.flatMap_cons,htN _ hrt]
   rfl)
  rw [hres _ Xy] at q1
  refine ⟨.ro 0 .pn (BN H a),[],?_,.inr ⟨rfl,_,rfl⟩⟩
  rw [List.append_nil]
  refine dX ?_
  have e2:bn (fun _ _=>none) (fun k=>if k = 1 then BN H a else 0) rest = rest:=fE rest hri (fun t ht=>by rw [hrt] at ht;cases ht)
  simpa [ren,bn,e2] using q1
end Go.Proofs.Ytcllinmgllmpmaa
namespace Go.Proofs.Ytcllinmgllmpmaa
open Go.AM
def vN:Option AM.Obj:=some (⟨.pb [],0,none,0,true,false,0⟩:AM.Obj)
section
variable {c:Nat} {b:List UInt8} {mo:Int} {E:AM.Heap}
theorem Vh (E:AM.Heap):SV (E ++ [vN]) [] (.sl E.length 0 0 0):=.inl ⟨E.length,0,0,_,.inl rfl,rfl,List.getElem?_concat_length,⟨rfl,rfl,rfl,rfl,rfl⟩⟩
def upX (F:Nat) (b:List UInt8) (mo:Int) (fr:AM.Frame) (E:AM.Heap):Prop:=∃ v,aP X fr E Try.f8.results.toList = some [v,.int .i64 (wH F b mo).2]∧SV E (wH F b mo).1 v
theorem xG {F:Nat} {e:Int} (h:wH F b mo = ([],e)):upX F b mo [(4,.sl E.length 0 0 0),(5,.int .i64 e)] (E ++ [vN]):=by
 refine ⟨.sl E.length 0 0 0,?_,?_⟩
 ·rw [h];rfl
 ·rw [h];exact Vh E
theorem Xz {m:Nat} {c':Nat} {v:AV} {r:List UInt8} {d:Bool} {x0 x1 x2 x3:UInt8} {z0 u1 u2 z1 z2 z3:Nat} (hr:4≤r.length) (h0:r[0]? = some x0) (h1:r[1]? = some x1) (h2:r[2]? = some x2) (h3:r[3]? = some x3)
  (w0:IntKind.u32.wrap ((x0.toNat:Nat):Int) = (x0.toNat:Nat)) (w1:IntKind.u32.wrap ((x1.toNat:Nat):Int) = (x1.toNat:Nat)) (w2:IntKind.u32.wrap ((x2.toNat:Nat):Int) = (x2.toNat:Nat)) (w3:IntKind.u32.wrap ((x3.toNat:Nat):Int) = (x3.toNat:Nat))
  (s0:IntKind.u32.wrap (((x0.toNat:Nat):Int) * 16777216) = (z0:Nat)) (s1:IntKind.u32.wrap (((x1.toNat:Nat):Int) * 65536) = (u1:Nat)) (s2:IntKind.u32.wrap (((x2.toNat:Nat):Int) * 256) = (u2:Nat))
  (o1:IntKind.u32.wrap ((AM.bits .u32 ((z0:Nat):Int) ||| AM.bits .u32 ((u1:Nat):Int)).toNat:Nat) = (z1:Nat)) (o2:IntKind.u32.wrap ((AM.bits .u32 ((z1:Nat):Int) ||| AM.bits .u32 ((u2:Nat):Int)).toNat:Nat) = (z2:Nat)) (o3:IntKind.u32.wrap ((AM.bits .u32 ((z2:Nat):Int) ||| AM.bits .u32 ((x3.toNat:Nat):Int)).toNat:Nat) = (z3:Nat)) :
  ∃ code,((Try.f8.body).bind (aI [1,1,1,1,1,1,1,0,0])) = some code∧Run X (evT X) 8 m code [(0,.ro c' (.pb r) 1),(7,v),(35,.bool d)] E ⟨.normal,[(0,.ro c' (.pb r) 1),(7,v),(10,.int .u32 (z3:Nat))],E⟩:=by
 refine ⟨_,rfl,?_⟩
 have l0:0 < r.length:=by omega
 have l1:1 < r.length:=by omega
 have l2:2 < r.length:=by omega
 have l3:3 < r.length:=by omega
 have l0I:(0:Int) < (r.length:Int):=by omega
 have l1I:(1:Int) < (r.length:Int):=by omega
 have l2I:(2:Int) < (r.length:Int):=by omega
 have l3I:(3:Int) < (r.length:Int):=by omega
 simp only [go_sem] at w0 w1 w2 w3 s0 s1 s2 o1 o2 o3
 generalize hN:r.length = N at *
 (refine ⟨0,?_⟩;simp (maxSteps:=2000000) -implicitDefEqProofs [-getElem?_pos,go_sem,eqV,ah,hN,h0,h1,h2,h3,l0,l1,l2,l3,l0I,l1I,l2I,l3I,w0,w1,w2,w3,s0,s1,s2,o1,o2,o3,retag])
theorem Zn {m:Nat} {c':Nat} {v:AV} {r:List UInt8} {d:Bool} (hr:4≤r.length):∃ code,((Try.f8.body).bind (aI [1,1,1,1,1,1,1,0,0])) = some code∧Run X (evT X) 8 m code [(0,.ro c' (.pb r) 1),(7,v),(35,.bool d)] E ⟨.normal,[(0,.ro c' (.pb r) 1),(7,v),(10,.int .u32 (un4 r:Nat))],E⟩:=by
 obtain ⟨x0,h0⟩:∃ x,r[0]? = some x:=⟨_,List.getElem?_eq_getElem (by omega)⟩
 obtain ⟨x1,h1⟩:∃ x,r[1]? = some x:=⟨_,List.getElem?_eq_getElem (by omega)⟩
 obtain ⟨x2,h2⟩:∃ x,r[2]? = some x:=⟨_,List.getElem?_eq_getElem (by omega)⟩
 obtain ⟨x3,h3⟩:∃ x,r[3]? = some x:=⟨_,List.getElem?_eq_getElem (by omega)⟩
 have e:un4 r = x0.toNat * 16777216 + x1.toNat * 65536 + x2.toNat * 256 + x3.toNat:=by
  unfold un4
  simp only [List.getD_eq_getElem?_getD,h0,h1,h2,h3,Option.getD_some]
 have b0:=x0.toNat_lt;have b1:=x1.toNat_lt;have b2:=x2.toNat_lt;have b3:=x3.toNat_lt
 have o1:=OM (x:=x0.toNat) (y:=x1.toNat * 65536) (k:=24) (P:=16777216) (by decide) (by omega) (by omega)
 have o2:=OM (x:=x0.toNat * 256 + x1.toNat) (y:=x2.toNat * 256) (k:=16) (P:=65536) (by decide) (by omega) (by omega)
 have o3:=OM (x:=(x0.toNat * 256 + x1.toNat) * 256 + x2.toNat) (y:=x3.toNat) (k:=8) (P:=256) (by decide) (by omega) (by omega)
 have t2:(x0.toNat * 256 + x1.toNat) * 65536 = x0.toNat * 16777216 + x1.toNat * 65536:=by omega
 have t3:((x0.toNat * 256 + x1.toNat) * 256 + x2.toNat) * 256 = x0.toNat * 16777216 + x1.toNat * 65536 + x2.toNat * 256:=by omega
 rw [t2] at o2
 rw [t3] at o3
 rw [e]
 exact Xz hr h0 h1 h2 h3 (wrap_u32 (by omega) (by omega)) (wrap_u32 (by omega) (by omega)) (wrap_u32 (by omega) (by omega)) (wrap_u32 (by omega) (by omega))
  (by rw [wrap_u32 (by omega) (by omega)];omega) (by rw [wrap_u32 (by omega) (by omega)];omega) (by rw [wrap_u32 (by omega) (by omega)];omega) o1 o2 o3
theorem LV {m F:Nat} (hb:b.length≤100000) (hm:mo≤1000000) (hF:8 * b.length < F) (hF2:F≤1000000):∃ code,Try.f8.body = some code∧aj (qo (upX F b mo)) X (evT X) 8 m code [(0,.ro c (.pb b) 1),(1,.int .i64 mo)] []:=by
 refine ⟨_,rfl,?_⟩
 apply aj.seq (fr':=[(0,.ro c (.pb b) 1),(1,.int .i64 mo)]) (H':=[vN])
 ·(refine ⟨0,?_⟩;simp (maxSteps:=2000000) -implicitDefEqProofs [-getElem?_pos,go_sem,eqV,ah,ak,rowOf,emB,vN])
 have hE1:[vN].length = 1:=rfl
 generalize [vN] = E1 at *
 apply aj.assoc
 by_cases h0:mo < 0
 ·apply aj.seq (fr':=[(0,.ro c (.pb b) 1),(1,.int .i64 mo),(12,.bool true)]) (H':=E1)
  ·(refine ⟨0,?_⟩;simp (maxSteps:=2000000) -implicitDefEqProofs [-getElem?_pos,go_sem,eqV,ah,h0])
  refine aj.yQ ?_ (fun o ho=>by rw [ho.1];simp)
  refine aj.yt (by simp [aF,au]) ?_
  refine aj.of (o:=⟨.ret,[(4,.sl E1.length 0 0 0),(5,.int .i64 2)],E1 ++ [vN]⟩) ⟨0,?_⟩ ⟨rfl,xG (by unfold wH;rw [if_pos h0])⟩
  simp (maxSteps:=2000000) -implicitDefEqProofs [-getElem?_pos,go_sem,eqV,ah,ak,rowOf,emB,vN]
 apply aj.seq (fr':=[(0,.ro c (.pb b) 1),(1,.int .i64 mo),(12,.bool false)]) (H':=E1)
 ·(refine ⟨0,?_⟩;simp (maxSteps:=2000000) -implicitDefEqProofs [-getElem?_pos,go_sem,eqV,ah,h0])
 apply aj.seq (fr':=[(0,.ro c (.pb b) 1),(1,.int .i64 mo),(12,.bool false)]) (H':=E1)
 ·exact Run.cond (d:=false) (by simp [aF,au]) ⟨0,rfl⟩
 have hH:=Xw (H:=E1) (a:=.ro c (.pb b) 1) (b:=b) rfl (by omega)
 apply aj.assoc
 apply aj.seq (fr':=[(0,.ro c (.pb b) 1),(1,.int .i64 mo),(6,.int .i64 (qc b))]) (H':=E1)
 ·generalize qc b = hd at *
  (refine ⟨0,?_⟩;simp (maxSteps:=2000000) -implicitDefEqProofs [-getElem?_pos,go_sem,eqV,ah,hH])
 apply aj.assoc
 by_cases h1:¬ qc b = 0
 ·have h1b:(qc b != 0) = true:=by simpa using h1
  have he:wH F b mo = ([],qc b):=by unfold wH;rw [if_neg h0,if_pos h1]
  generalize qc b = hd at *
  apply aj.seq (fr':=[(0,.ro c (.pb b) 1),(1,.int .i64 mo),(6,.int .i64 hd),(16,.bool true)]) (H':=E1)
  ·(refine ⟨0,?_⟩;simp (maxSteps:=2000000) -implicitDefEqProofs [-getElem?_pos,go_sem,eqV,ah,h1,h1b])
  refine aj.yQ ?_ (fun o ho=>by rw [ho.1];simp)
  refine aj.yt (by simp [aF,au]) ?_
  refine aj.of (o:=⟨.ret,[(4,.sl E1.length 0 0 0),(5,.int .i64 hd)],E1 ++ [vN]⟩) ⟨0,?_⟩ ⟨rfl,xG he⟩
  simp (maxSteps:=2000000) -implicitDefEqProofs [-getElem?_pos,go_sem,eqV,ah,ak,rowOf,emB,vN]
 have h1:qc b = 0:=Classical.not_not.1 h1
 rw [h1]
 have hlen2:2≤b.length:=by
  refine Classical.byContradiction fun hc=>?_
  unfold qc at h1
  rw [if_pos (by omega)] at h1
  exact absurd h1 (by decide)
 apply aj.seq (fr':=[(0,.ro c (.pb b) 1),(1,.int .i64 mo),(6,.int .i64 0),(16,.bool false)]) (H':=E1)
 ·(refine ⟨0,?_⟩;simp (maxSteps:=2000000) -implicitDefEqProofs [-getElem?_pos,go_sem,eqV,ah])
 apply aj.seq (fr':=[(0,.ro c (.pb b) 1),(1,.int .i64 mo),(6,.int .i64 0),(16,.bool false)]) (H':=E1)
 ·exact Run.cond (d:=false) (by simp [aF,au]) ⟨0,rfl⟩
 obtain ⟨out,n,e,v,R1,hI,q2,q3⟩:=LW (F:=F) (H:=E1) (a:=.ro (if c = 0 then 0 else c) (.pb (b.drop 2)) 1) (b:=b.drop 2) (mo:=mo) rfl (by rw [List.length_drop];omega) hm (by omega) (by rw [List.length_drop];omega) hF2
 have hu:wH F b mo = if e ≠ 0 then ([],e) else if (b.drop (2 + n.toNat)).length < 4 then ([],4) else if un4 (b.drop (2 + n.toNat)) ≠ adl out then ([],8) else if 4 < (b.drop (2 + n.toNat)).length then ([],5) else (out,0):=by
  unfold wH
  rw [if_neg h0,h1,if_neg (by simp),hI]
 generalize E1 ++ R1 = F1 at *
 have hA:=q3.asg (by simp [BN])
 have hv:=q3.v
 generalize hE2:F1 = E2 at *
 apply aj.seq (fr':=[(0,.ro c (.pb b) 1),(7,v),(8,.int .i64 n),(9,.int .i64 e)]) (H':=E2)
 ·have hA':=hA
  simp only [ak,vI] at hA'
  have hlI:(2:Int)≤(b.length:Int):=by omega
  have hd:(b.drop 2).take (b.length - 2) = b.drop 2:=List.take_of_length_le (by rw [List.length_drop];omega)
  generalize hN:b.length = N at *
  (refine ⟨0,?_⟩;simp (maxSteps:=2000000) -implicitDefEqProofs [-getElem?_pos,go_sem,eqV,ah,qK,bound,jd,hN,hlI,hlen2,hd,q2,hA',Zo])
 clear q2
 apply aj.assoc
 by_cases he:¬ e = 0
 ·have heb:(e != 0) = true:=by simpa using he
  rw [if_pos he] at hu
  apply aj.seq (fr':=[(0,.ro c (.pb b) 1),(7,v),(8,.int .i64 n),(9,.int .i64 e),(27,.bool true)]) (H':=E2)
  ·(refine ⟨0,?_⟩;simp (maxSteps:=2000000) -implicitDefEqProofs [-getElem?_pos,go_sem,eqV,ah,he,heb])
  refine aj.yQ ?_ (fun o ho=>by rw [ho.1];simp)
  refine aj.yt (by simp [aF,au]) ?_
  refine aj.of (o:=⟨.ret,[(4,.sl E2.length 0 0 0),(5,.int .i64 e)],E2 ++ [vN]⟩) ⟨0,?_⟩ ⟨rfl,xG hu⟩
  simp (maxSteps:=2000000) -implicitDefEqProofs [-getElem?_pos,go_sem,eqV,ah,ak,rowOf,emB,vN]
 have he:e = 0:=Classical.not_not.1 he
 subst he
 rw [if_neg (by simp)] at hu
 obtain ⟨N,rfl,hN1,hN2⟩:=abw (by omega) hI
 rw [List.length_drop] at hN1
 rw [Int.toNat_natCast] at hu
 apply aj.seq (fr':=[(0,.ro c (.pb b) 1),(7,v),(8,.int .i64 (N:Nat)),(9,.int .i64 0),(27,.bool false)]) (H':=E2)
 ·(refine ⟨0,?_⟩;simp (maxSteps:=2000000) -implicitDefEqProofs [-getElem?_pos,go_sem,eqV,ah])
 apply aj.seq (fr':=[(0,.ro c (.pb b) 1),(7,v),(8,.int .i64 (N:Nat)),(9,.int .i64 0),(27,.bool false)]) (H':=E2)
 ·exact Run.cond (d:=false) (by simp [aF,au]) ⟨0,rfl⟩
 apply aj.seq (fr':=[(0,.ro (if c = 0 then 0 else c) (.pb (b.drop (2 + N))) 1),(7,v)]) (H':=E2)
 ·have w1:IntKind.i64.wrap (2 + (N:Int)) = ((2 + N:Nat):Int):=by rw [wrap_i64 (by omega) (by omega)];omega
  have hle:2 + N≤b.length:=by omega
  have agj:((2 + N:Nat):Int)≤(b.length:Int):=by omega
  have hd:(b.drop (2 + N)).take (b.length - (2 + N)) = b.drop (2 + N):=List.take_of_length_le (by rw [List.length_drop];omega)
  generalize 2 + N = N2 at *
  generalize hL:b.length = L at *
  (refine ⟨0,?_⟩;simp (maxSteps:=2000000) -implicitDefEqProofs [-getElem?_pos,go_sem,eqV,ah,qK,bound,jd,w1,hle,agj,hL,hd,ak])
 generalize b.drop (2 + N) = r at *
 generalize (if c = 0 then 0 else c) = c' at *
 apply aj.assoc
 by_cases h4:r.length < 4
 ·have h4I:(r.length:Int) < 4:=by omega
  rw [if_pos h4] at hu
  apply aj.seq (fr':=[(0,.ro c' (.pb r) 1),(7,v),(35,.bool true)]) (H':=E2)
  ·generalize hL:r.length = L at *
   (refine ⟨0,?_⟩;simp (maxSteps:=2000000) -implicitDefEqProofs [-getElem?_pos,go_sem,eqV,ah,h4I,h4,hL])
  refine aj.yQ ?_ (fun o ho=>by rw [ho.1];simp)
  refine aj.yt (by simp [aF,au]) ?_
  refine aj.of (o:=⟨.ret,[(4,.sl E2.length 0 0 0),(5,.int .i64 4)],E2 ++ [vN]⟩) ⟨0,?_⟩ ⟨rfl,xG hu⟩
  simp (maxSteps:=2000000) -implicitDefEqProofs [-getElem?_pos,go_sem,eqV,ah,ak,rowOf,emB,vN]
 have h4I:¬ (r.length:Int) < 4:=by omega
 rw [if_neg h4] at hu
 apply aj.seq (fr':=[(0,.ro c' (.pb r) 1),(7,v),(35,.bool false)]) (H':=E2)
 ·generalize hL:r.length = L at *
  (refine ⟨0,?_⟩;simp (maxSteps:=2000000) -implicitDefEqProofs [-getElem?_pos,go_sem,eqV,ah,h4I,h4,hL])
 apply aj.seq (fr':=[(0,.ro c' (.pb r) 1),(7,v),(35,.bool false)]) (H':=E2)
 ·exact Run.cond (d:=false) (by simp [aF,au]) ⟨0,rfl⟩
 apply aj.assoc
 apply aj.seq (piece (Zn (by omega)) _ rfl)
 have hS:=Xx hv (by omega)
 have ha1:=OI out
 apply aj.assoc
 by_cases h8:¬ un4 r = adl out
 ·have h8b:(((un4 r:Nat):Int) != ((adl out:Nat):Int)) = true:=by simp;omega
  have h8I:¬ ((un4 r:Nat):Int) = ((adl out:Nat):Int):=by omega
  rw [if_pos h8] at hu
  generalize un4 r = x1 at *
  generalize adl out = x2 at *
  apply aj.seq (fr':=[(0,.ro c' (.pb r) 1),(7,v),(61,.bool true)]) (H':=E2)
  ·(refine ⟨0,?_⟩;simp (maxSteps:=2000000) -implicitDefEqProofs [-getElem?_pos,go_sem,eqV,ah,hS,h8,h8I,h8b])
  refine aj.yQ ?_ (fun o ho=>by rw [ho.1];simp)
  refine aj.yt (by simp [aF,au]) ?_
  refine aj.of (o:=⟨.ret,[(4,.sl E2.length 0 0 0),(5,.int .i64 8)],E2 ++ [vN]⟩) ⟨0,?_⟩ ⟨rfl,xG hu⟩
  simp (maxSteps:=2000000) -implicitDefEqProofs [-getElem?_pos,go_sem,eqV,ah,ak,rowOf,emB,vN]
 have h8:un4 r = adl out:=Classical.not_not.1 h8
 rw [if_neg (by simp [h8])] at hu
 rw [h8]
 apply aj.seq (fr':=[(0,.ro c' (.pb r) 1),(7,v),(61,.bool false)]) (H':=E2)
 ·generalize adl out = x2 at *
  (refine ⟨0,?_⟩;simp (maxSteps:=2000000) -implicitDefEqProofs [-getElem?_pos,go_sem,eqV,ah,hS])
 apply aj.seq (fr':=[(0,.ro c' (.pb r) 1),(7,v),(61,.bool false)]) (H':=E2)
 ·exact Run.cond (d:=false) (by simp [aF,au]) ⟨0,rfl⟩
 apply aj.assoc
 by_cases h5:4 < r.length
 ·have h5I:(4:Int) < (r.length:Int):=by omega
  rw [if_pos h5] at hu
  apply aj.seq (fr':=[(7,v),(64,.bool true)]) (H':=E2)
  ·generalize hL:r.length = L at *
   (refine ⟨0,?_⟩;simp (maxSteps:=2000000) -implicitDefEqProofs [-getElem?_pos,go_sem,eqV,ah,h5I,h5,hL])
  refine aj.yQ ?_ (fun o ho=>by rw [ho.1];simp)
  refine aj.yt (by simp [aF,au]) ?_
  refine aj.of (o:=⟨.ret,[(4,.sl E2.length 0 0 0),(5,.int .i64 5)],E2 ++ [vN]⟩) ⟨0,?_⟩ ⟨rfl,xG hu⟩
  simp (maxSteps:=2000000) -implicitDefEqProofs [-getElem?_pos,go_sem,eqV,ah,ak,rowOf,emB,vN]
 have h5I:¬ (4:Int) < (r.length:Int):=by omega
 rw [if_neg h5] at hu
 apply aj.seq (fr':=[(7,v),(64,.bool false)]) (H':=E2)
 ·generalize hL:r.length = L at *
  (refine ⟨0,?_⟩;simp (maxSteps:=2000000) -implicitDefEqProofs [-getElem?_pos,go_sem,eqV,ah,h5I,h5,hL])
 apply aj.seq (fr':=[(7,v),(64,.bool false)]) (H':=E2)
 ·exact Run.cond (d:=false) (by simp [aF,au]) ⟨0,rfl⟩
 refine aj.of (o:=⟨.ret,[(4,v),(5,.int .i64 0)],E2⟩) ⟨0,?_⟩ ⟨rfl,v,?_,?_⟩
 ·have hA':=hA
  simp only [ak,vI] at hA'
  simp (maxSteps:=2000000) -implicitDefEqProofs [-getElem?_pos,go_sem,eqV,ah,hA',Zo]
 ·rw [hu];rfl
 ·rw [hu]
  exact q3
theorem Hu {F:Nat} {H:AM.Heap} {a:AV} (ha:dP H a = some (.pb b)) (hb:b.length≤100000) (hm:mo≤1000000) (hF:8 * b.length < F) (hF2:F≤1000000) :
  ∃ v R,evT X 8 [a,.int .i64 mo] H = some (.tup [v,.int .i64 (wH F b mo).2],H ++ R)∧BM (H ++ R) v (wH F b mo).1:=by
 obtain ⟨code,hc,hT⟩:=LV (m:=0) (c:=rC H a) (b:=b) (mo:=mo) hb hm hF hF2
 exact Vg (rest:=[.int .i64 (wH F b mo).2]) Try.func8 hc rfl rfl ha rfl rfl rfl (by simp) (by
  rw [agk]
  exact hT)
end
end Go.Proofs.Ytcllinmgllmpmaa
namespace Go.Proofs.Ytcllinmgllmpmaa
open Go.AM
theorem XA {H:AM.Heap} {o g:Nat} {ob:AM.Obj} {l:List UInt8} (n:Nat) (ho:H[o]? = some (some ob)) (hw:Rw (.pb l) g ob) (hn:n≤l.length):dP H (.sl o 0 n g) = some (.pb (l.take n)):=by
 simp only [dP,live,ho,hw.g,if_true,hw.ids,hw.p,jd]
 simp [hn]
theorem abx:wH 200 [120,1,75,4,0,0,98,0,98] 1 = ([97],0):=by kernel_rfl
theorem Zp:pY [97] = [120,1,75,4,0,0,98,0,98]:=by kernel_rfl
theorem YZ (H:AM.Heap):dA X H 22 9 [(0,.int .u8 120),(1,.int .u8 1),(2,.int .u8 75),(3,.int .u8 4),(4,.int .u8 0),(5,.int .u8 0),(6,.int .u8 98),(7,.int .u8 0),(8,.int .u8 98)] = some (.ro 1 (.pb [120,1,75,4,0,0,98,0,98]) 0,H):=by kernel_rfl
theorem aby (H:AM.Heap):dA X H 22 1 [(0,.int .u8 97)] = some (.ro 1 (.pb [97]) 0,H):=by kernel_rfl
theorem LX:∃ code,Try.f9.body = some code∧aj (qo fun fr H=>aP X fr H Try.f9.results.toList = some [.bool true]) X (evT X) 9 0 code [] []:=by
 refine ⟨_,rfl,?_⟩
 apply aj.seq (fr':=[]) (H':=[])
 ·(refine ⟨0,?_⟩;simp (maxSteps:=2000000) -implicitDefEqProofs [-getElem?_pos,go_sem,eqV,ah])
 obtain ⟨v,R,q2,q3⟩:=Hu (F:=200) (H:=[]) (a:=.ro 1 (.pb [120,1,75,4,0,0,98,0,98]) 0) (b:=[120,1,75,4,0,0,98,0,98]) (mo:=1) rfl (by simp) (by omega) (by simp) (by omega)
 rw [abx] at q2 q3
 obtain ⟨o,g,τ,ob,rfl,h1,w1⟩:=q3.sl (by simp)
 simp only [List.nil_append,List.length_cons,List.length_nil] at q2 h1
 apply aj.seq (fr':=[(1,.sl o 0 1 g),(2,.int .i64 0)]) (H':=R)
 ·(refine ⟨0,?_⟩;simp (maxSteps:=2000000) -implicitDefEqProofs [-getElem?_pos,go_sem,eqV,ah,YZ,q2,ak])
 obtain ⟨ob2,w2,e2⟩:=Qy (H:=R) (a:=.ro 1 (.pb [97]) 0) (b:=[97]) rfl (by simp)
 rw [Zp] at w2 e2
 have s2:=Vf (H:=R ++ [some ob2]) (a:=.sl R.length 0 9 0) (a2:=.ro 1 (.pb [120,1,75,4,0,0,98,0,98]) 0) (Byt.whole (l:=[120,1,75,4,0,0,98,0,98]) (List.getElem?_concat_length) w2) (Byt.ro (.inl rfl) (fun h=>by omega))
 rw [beq_self_eq_true] at s2
 simp only [List.length_cons,List.length_nil] at e2
 have h1':(R ++ [some ob2])[o]? = some (some ob):=by rw [List.getElem?_append_left (eY h1)];exact h1
 have a1:=w1.p;have a2:=w1.g;have a3:=w1.ids
 generalize R.length = n at *
 generalize R ++ [some ob2] = H2 at *
 refine aj.of (o:=⟨.ret,[(0,.bool true)],H2⟩) ?_ ⟨rfl,rfl⟩
 refine ⟨0,?_⟩
 simp (maxSteps:=2000000) -implicitDefEqProofs [-getElem?_pos,go_sem,eqV,ah,YZ,aby,e2,s2,h1',a1,a2,a3,qJ,LQ,jd]
theorem SX (H:AM.Heap):evT X 9 [] H = some (.bool true,H):=by
 obtain ⟨code,hc,ht⟩:=LX
 exact dX (Ev1.wG (l:=[.bool true]) (bU X) Try.func9 hc rfl rfl (by simp [dG]) rfl rfl rfl ht)
theorem XB {F:Nat} {H:AM.Heap} {a:AV} {b:List UInt8} {mo:Int} (ha:dP H a = some (.pb b)) (hb:b.length≤100000) (hm:mo≤1000000) (hF:8 * b.length < F) (hF2:F≤1000000) :
  ∃ v v' H1 H',evT X 8 [a,.int .i64 mo] H = some (.tup [v,.int .i64 (wH F b mo).2],H1)∧ak X H1 22 v = (v',H')∧BM H' v' (wH F b mo).1∧H.length≤H'.length∧∀ j,j < H.length→H'[j]? = H[j]?:=by
 obtain ⟨v,R,h1,h2⟩:=Hu (F:=F) (H:=H) ha hb hm hF hF2
 obtain ⟨v',H',h3,h4,h5,h6⟩:=h2.asg
 refine ⟨v,v',H ++ R,H',h1,h3,h4,by simp at h5;omega,fun j hj=>?_⟩
 rw [h6 j (by simp;omega),List.getElem?_append_left hj]
end Go.Proofs.Ytcllinmgllmpmaa
namespace Go.Proofs.Ytcllinmgllmpmaa
open Go.AM
def kH (y:UInt8) (z:Nat):UInt8:=y ^^^ UInt8.ofNat z
def DJ (k:Nat) (l:List UInt8):Nat→List UInt8
 | 0=>l
 | i + 1=>(DJ k l i).set (l.length - 1 - i) (kH ((DJ k l i).getD (l.length - 1 - i) 0) (k / 2 ^ (8 * i)))
theorem LY (k:Nat) (l:List UInt8):∀ i,(DJ k l i).length = l.length
 | 0=>rfl
 | i + 1=>by simp [DJ,LY k l i]
theorem zY {y:UInt8} {z:Nat} (h:kH y z = y):z % 256 = 0:=by
 have h1:UInt8.ofNat z = 0:=by
  have h2:y ^^^ kH y z = y ^^^ y:=by rw [h]
  unfold kH at h2
  rw [← UInt8.xor_assoc,UInt8.xor_self,UInt8.zero_xor] at h2
  exact h2
 have h3:=congrArg UInt8.toNat h1
 rw [UInt8.toNat_ofNat'] at h3
 exact h3
theorem Vj (k:Nat) (D:List UInt8) (a b c d:UInt8):DJ k (D ++ [a,b,c,d]) 4 = D ++ [kH a (k / 2 ^ (8 * 3)),kH b (k / 2 ^ (8 * 2)),kH c (k / 2 ^ (8 * 1)),kH d (k / 2 ^ (8 * 0))]:=by
 have hl:(D ++ [a,b,c,d]).length = D.length + 4:=by simp
 have set:∀ (r:List UInt8) (j:Nat) (x:UInt8),(D ++ r).set (D.length + j) x = D ++ r.set j x:=by
  intro r j x
  rw [List.set_append_right _ _ (by omega)]
  congr 2
  omega
 have get:∀ (r:List UInt8) (j:Nat),(D ++ r).getD (D.length + j) 0 = r.getD j 0:=by
  intro r j
  rw [List.getD_eq_getElem?_getD,List.getElem?_append_right (by omega),List.getD_eq_getElem?_getD]
  congr 2
  omega
 simp only [DJ]
 rw [hl,show D.length + 4 - 1 - 0 = D.length + 3 by omega,show D.length + 4 - 1 - 1 = D.length + 2 by omega,show D.length + 4 - 1 - 2 = D.length + 1 by omega,show D.length + 4 - 1 - 3 = D.length + 0 by omega]
 simp only [set,get]
 rfl
theorem OO {s k:Nat} (hs:s < 4294967296) (hk:k < 4294967296) (hk0:k ≠ 0):un4 [kH (UInt8.ofNat (s / 16777216)) (k / 2 ^ (8 * 3)),kH (UInt8.ofNat (s / 65536)) (k / 2 ^ (8 * 2)),kH (UInt8.ofNat (s / 256)) (k / 2 ^ (8 * 1)),kH (UInt8.ofNat s) (k / 2 ^ (8 * 0))] ≠ s:=by
 intro h
 have hb:=XC hs []
 unfold be4 at hb
 unfold un4 at h hb
 simp only [List.cons_append,List.nil_append,List.getD_cons_zero,List.getD_cons_succ] at h hb
 generalize UInt8.ofNat (s / 16777216) = a at *
 generalize UInt8.ofNat (s / 65536) = b at *
 generalize UInt8.ofNat (s / 256) = c at *
 generalize UInt8.ofNat s = d at *
 have a1:=a.toNat_lt;have b1:=b.toNat_lt;have c1:=c.toNat_lt;have d1:=d.toNat_lt
 have e1:=(kH a (k / 2 ^ (8 * 3))).toNat_lt;have e2:=(kH b (k / 2 ^ (8 * 2))).toNat_lt;have e3:=(kH c (k / 2 ^ (8 * 1))).toNat_lt;have e4:=(kH d (k / 2 ^ (8 * 0))).toNat_lt
 have q1:=zY (y:=a) (z:=k / 2 ^ (8 * 3)) (UInt8.toNat_inj.1 (by omega))
 have q2:=zY (y:=b) (z:=k / 2 ^ (8 * 2)) (UInt8.toNat_inj.1 (by omega))
 have q3:=zY (y:=c) (z:=k / 2 ^ (8 * 1)) (UInt8.toNat_inj.1 (by omega))
 have q4:=zY (y:=d) (z:=k / 2 ^ (8 * 0)) (UInt8.toNat_inj.1 (by omega))
 have q1:k / 16777216 % 256 = 0:=q1
 have q2:k / 65536 % 256 = 0:=q2
 have q3:k / 256 % 256 = 0:=q3
 have q4:k / 1 % 256 = 0:=q4
 omega
section
variable {c:Nat} {b:List UInt8} {k:Nat} {E:AM.Heap}
def zt5 (c:Nat) (b:List UInt8) (k n i:Nat):AM.Frame:=[(0,.ro c (.pb b) 1),(1,.int .u32 (k:Nat)),(5,.sl 0 0 n 0),(6,.int .i64 (i:Nat))]
theorem Zq {m n i:Nat} {L:List UInt8} {y:UInt8} {ob:AM.Obj} {d:Bool} (ho:E[0]? = some (some ob)) (hw:Rw (.pb L) 0 ob) (hn:L.length = n) (hn4:4≤n) (hnb:n≤1000000) (hi:i < 4) (hy:L[n - 1 - i]? = some y) (hk:k < 4294967296) :
  ∃ ob',Rw (.pb (L.set (n - 1 - i) (kH y (k / 2 ^ (8 * i))))) 0 ob'∧∃ code,((Try.f6.body).bind (aI [1,1,1,1,1,0,1,0,0,1,0,0])) = some code∧Run X (evT X) 6 m code (zt5 c b k n i ++ [(24,.bool d)]) E ⟨.normal,zt5 c b k n i,AM.upd E 0 (some ob')⟩:=by
 have q1:=hw.p;have q2:=hw.g;have q4:=hw.ids;have q5:=hw.tg
 refine ⟨{ ob with p:=.pb (L.set (n - 1 - i) (kH y (k / 2 ^ (8 * i)))) },⟨rfl,hw.g,hw.row,hw.ids,hw.tg⟩,_,rfl,?_⟩
 have w1:IntKind.i64.wrap ((n:Int) - 1) = ((n - 1:Nat):Int):=by rw [wrap_i64 (by omega) (by omega)];omega
 have w2:IntKind.i64.wrap (((n - 1:Nat):Int) - (i:Int)) = ((n - 1 - i:Nat):Int):=by rw [wrap_i64 (by omega) (by omega)];omega
 have w3:IntKind.u64.wrap (i:Int) = (i:Int):=wrap_u64 (by omega) (by omega)
 have w4:IntKind.u64.wrap (8 * (i:Int)) = ((8 * i:Nat):Int):=by rw [wrap_u64 (by omega) (by omega)];omega
 have w5:((k:Nat):Int).fdiv (2 ^ min (8 * i) 32) = ((k / 2 ^ (8 * i):Nat):Int):=by
  rw [Nat.min_eq_left (by omega),Int.fdiv_eq_ediv_of_nonneg _ (Int.le_of_lt (Int.pow_pos (by omega)))]
  push_cast
  rfl
 have w6:=byte_of (k / 2 ^ (8 * i))
 have w7:IntKind.u8.wrap ((AM.bits .u8 ((y.toNat:Nat):Int) ^^^ AM.bits .u8 ((UInt8.ofNat (k / 2 ^ (8 * i))).toNat:Nat)).toNat:Nat) = ((kH y (k / 2 ^ (8 * i))).toNat:Int):=by
  unfold kH
  rw [BitVec.toNat_xor,BL y.toNat_lt,BL (UInt8.toNat_lt _),← UInt8.toNat_xor,wu8 (UInt8.toNat_lt _)]
 have hj:n - 1 - i < n:=by omega
 have hjI:((n - 1 - i:Nat):Int) < (n:Int):=by omega
 have h8:((kH y (k / 2 ^ (8 * i))).toNat:Int) < 256:=by have:=(kH y (k / 2 ^ (8 * i))).toNat_lt;omega
 have hz:UInt8.ofNat (kH y (k / 2 ^ (8 * i))).toNat = kH y (k / 2 ^ (8 * i)):=by simp
 have hi8:¬ ((8 * i:Nat):Int) < 0:=by omega
 have t8:(((8 * i:Nat):Int)).toNat = 8 * i:=Int.toNat_natCast _
 generalize kH y (k / 2 ^ (8 * i)) = u at *
 generalize (UInt8.ofNat (k / 2 ^ (8 * i))).toNat = z at *
 generalize k / 2 ^ (8 * i) = kz at *
 generalize 8 * i = i8 at *
 generalize hj0:n - 1 - i = j at *
 generalize n - 1 = n1 at *
 simp only [zt5]
 simp only [go_sem] at w6 w7
 refine ⟨0,?_⟩
 simp (maxSteps:=2000000) -implicitDefEqProofs [-getElem?_pos,go_sem,eqV,ah,retag,ho,q1,q2,q4,q5,hn,hy,w1,w2,w3,w4,w5,w6,w7,hj,hjI,h8,hz,t8,hi8]
theorem LZ (hk:k < 4294967296):∃ code,Try.f6.body = some code ∧
  aj (qo fun fr H=>au fr 4 = .bool true) X (evT X) 6 0 code [(0,.ro c (.pb b) 1),(1,.int .u32 (k:Nat))] []:=by
 refine ⟨_,rfl,?_⟩
 have hL:=SX []
 apply aj.seq (fr':=[(0,.ro c (.pb b) 1),(1,.int .u32 (k:Nat))]) (H':=[])
 ·(refine ⟨0,?_⟩;simp (maxSteps:=2000000) -implicitDefEqProofs [-getElem?_pos,go_sem,eqV,ah])
 apply aj.assoc
 apply aj.seq (fr':=[(0,.ro c (.pb b) 1),(1,.int .u32 (k:Nat)),(10,.bool false)]) (H':=[])
 ·(refine ⟨0,?_⟩;simp (maxSteps:=2000000) -implicitDefEqProofs [-getElem?_pos,go_sem,eqV,ah,hL])
 apply aj.seq (fr':=[(0,.ro c (.pb b) 1),(1,.int .u32 (k:Nat)),(10,.bool false)]) (H':=[])
 ·exact Run.cond (d:=false) (by simp [aF,au]) ⟨0,rfl⟩
 clear hL
 apply aj.assoc
 by_cases hbig:(1200:Int) < (b.length:Int)∨k = 0
 ·apply aj.seq (fr':=[(0,.ro c (.pb b) 1),(1,.int .u32 (k:Nat)),(17,.bool true)]) (H':=[])
  ·by_cases h1:(1200:Int) < (b.length:Int)
   ·generalize hN:b.length = N at *
    (refine ⟨0,?_⟩;simp (maxSteps:=2000000) -implicitDefEqProofs [-getElem?_pos,go_sem,eqV,ah,h1,hN])
   ·have h2:=hbig.resolve_left h1
    have h2I:((k:Nat):Int) = 0:=by omega
    generalize hN:b.length = N at *
    (refine ⟨0,?_⟩;simp (maxSteps:=2000000) -implicitDefEqProofs [-getElem?_pos,go_sem,eqV,ah,h1,h2,h2I,hN])
  refine aj.of (o:=⟨.ret,[(4,.bool true)],[]⟩) ⟨0,?_⟩ ⟨rfl,rfl⟩
  simp (maxSteps:=2000000) -implicitDefEqProofs [-getElem?_pos,go_sem,eqV,ah]
 have hb:¬ (1200:Int) < (b.length:Int):=fun h=>hbig (.inl h)
 have hm:¬ k = 0:=fun h=>hbig (.inr h)
 have hmI:¬ (k:Int) = 0:=by omega
 have hmb:((k:Int) == 0) = false:=by simpa using hm
 have hbl:b.length≤1200:=by omega
 apply aj.seq (fr':=[(0,.ro c (.pb b) 1),(1,.int .u32 (k:Nat)),(17,.bool false)]) (H':=[])
 ·generalize hN:b.length = N at *
  (refine ⟨0,?_⟩;simp (maxSteps:=2000000) -implicitDefEqProofs [-getElem?_pos,go_sem,eqV,ah,hb,hm,hmI,hmb,hN])
 apply aj.seq (fr':=[(0,.ro c (.pb b) 1),(1,.int .u32 (k:Nat)),(17,.bool false)]) (H':=[])
 ·exact Run.cond (d:=false) (by simp [aF,au]) ⟨0,rfl⟩
 obtain ⟨ob1,w1,e1⟩:=Qy (H:=[]) (a:=.ro c (.pb b) 1) (b:=b) rfl (by omega)
 have hpl:=SY b
 have hdl:=LM b
 have k0:([some ob1]:AM.Heap)[0]? = some (some ob1):=rfl
 have hl0:([some ob1]:AM.Heap).length = 1:=rfl
 simp only [List.length_nil,List.nil_append] at e1
 have g0:=w1.g
 -- the bytes turned
 have htr:DJ k (pY b) 4 = [120,1] ++ gq b ++ [kH (UInt8.ofNat (adl b / 16777216)) (k / 2 ^ (8 * 3)),kH (UInt8.ofNat (adl b / 65536)) (k / 2 ^ (8 * 2)),kH (UInt8.ofNat (adl b / 256)) (k / 2 ^ (8 * 1)),kH (UInt8.ofNat (adl b)) (k / 2 ^ (8 * 0))]:=Vj k _ _ _ _ _
 have hun:=XD (F:=60000) (b:=b) (r:=[kH (UInt8.ofNat (adl b / 16777216)) (k / 2 ^ (8 * 3)),kH (UInt8.ofNat (adl b / 65536)) (k / 2 ^ (8 * 2)),kH (UInt8.ofNat (adl b / 256)) (k / 2 ^ (8 * 1)),kH (UInt8.ofNat (adl b)) (k / 2 ^ (8 * 0))]) (by omega) (by omega) rfl (OO (OI b) hk hm)
 rw [← htr] at hun
 clear htr
 have htl:=LY k (pY b)
 generalize hP:pY b = P at *
 apply aj.seq (fr':=[(0,.ro c (.pb b) 1),(1,.int .u32 (k:Nat)),(5,.sl 0 0 P.length 0)]) (H':=[some ob1])
 ·generalize P.length = N1 at *
  (refine ⟨0,?_⟩;simp (maxSteps:=2000000) -implicitDefEqProofs [-getElem?_pos,go_sem,eqV,ah,e1,ak])
 clear e1
 generalize ([some ob1]:AM.Heap) = E0 at *
 apply aj.assoc
 apply aj.seq (fr':=[(0,.ro c (.pb b) 1),(1,.int .u32 (k:Nat)),(5,.sl 0 0 P.length 0),(22,.bool false)]) (H':=E0)
 ·have h4:¬ (P.length:Int) < 4:=by omega
  generalize P.length = N1 at *
  (refine ⟨0,?_⟩;simp (maxSteps:=2000000) -implicitDefEqProofs [-getElem?_pos,go_sem,eqV,ah,k0,g0,h4])
 apply aj.seq (fr':=[(0,.ro c (.pb b) 1),(1,.int .u32 (k:Nat)),(5,.sl 0 0 P.length 0),(22,.bool false)]) (H':=E0)
 ·exact Run.cond (d:=false) (by simp [aF,au]) ⟨0,rfl⟩
 apply aj.assoc
 apply aj.seq (fr':=zt5 c b k P.length 0) (H':=E0)
 ·simp only [zt5]
  generalize P.length = N1 at *
  (refine ⟨0,?_⟩;simp (maxSteps:=2000000) -implicitDefEqProofs [-getElem?_pos,go_sem,eqV,ah])
 apply aj.andThen (P:=fun fr H=>∃ ob2,fr = zt5 c b k P.length 4 ++ [(24,.bool false)]∧H[0]? = some (some ob2)∧Rw (.pb (DJ k P 4)) 0 ob2)
 ·apply aj.block
  refine aj.kF (I:=fun q fr H=>∃ i ob2,i≤4∧q = 4 - i∧fr = zt5 c b k P.length i∧H[0]? = some (some ob2)∧Rw (.pb (DJ k P i)) 0 ob2) ?_ (k:=4) ⟨0,ob1,by omega,rfl,rfl,k0,w1⟩
  rintro q fr H ⟨i,ob2,hi,rfl,rfl,h0,hw⟩
  by_cases h4:i = 4
  ·subst h4
   refine aj.of (o:=⟨.exit 0,zt5 c b k P.length 4 ++ [(24,.bool false)],H⟩) ?_ (.inr ⟨by simp,rfl,ob2,rfl,h0,hw⟩)
   refine Run.bH ?_ (by simp)
   apply Run.seq (fr':=zt5 c b k P.length 4 ++ [(24,.bool false)]) (H':=H)
   ·simp only [zt5]
    generalize P.length = N1 at *
    (refine ⟨0,?_⟩;simp (maxSteps:=2000000) -implicitDefEqProofs [-getElem?_pos,go_sem,eqV,ah])
   ·exact Run.cond (d:=false) (by simp [zt5,aF,au]) ⟨0,rfl⟩
  ·have hlt:i < 4:=by omega
   have jU:(i:Int) < 4:=by omega
   obtain ⟨y,hy⟩:∃ y,(DJ k P i)[P.length - 1 - i]? = some y:=⟨_,List.getElem?_eq_getElem (by rw [htl];omega)⟩
   obtain ⟨ob3,w3,hr⟩:=Zq (m:=0) (c:=c) (b:=b) (d:=true) h0 hw (htl i) (by omega) (by omega) hlt hy hk
   have hyd:(DJ k P i).getD (P.length - 1 - i) 0 = y:=by rw [List.getD_eq_getElem?_getD,hy];rfl
   refine aj.of (o:=⟨.normal,zt5 c b k P.length (i + 1),AM.upd H 0 (some ob3)⟩) ?_ (.inl ⟨rfl,4 - (i + 1),by omega,i + 1,ob3,by omega,rfl,rfl,setAt h0,by rw [DJ,hyd];exact w3⟩)
   have w9:IntKind.i64.wrap ((i:Int) + 1) = ((i + 1:Nat):Int):=by rw [wrap_i64 (by omega) (by omega)];omega
   apply Run.seq (fr':=zt5 c b k P.length i ++ [(24,.bool true)]) (H':=H)
   ·apply Run.seq (fr':=zt5 c b k P.length i ++ [(24,.bool true)]) (H':=H)
    ·simp only [zt5]
     generalize P.length = N1 at *
     (refine ⟨0,?_⟩;simp (maxSteps:=2000000) -implicitDefEqProofs [-getElem?_pos,go_sem,eqV,ah,jU,hlt])
    ·exact Run.cond (d:=true) (by simp [zt5,aF,au]) ⟨0,rfl⟩
   apply Run.seq (fr':=zt5 c b k P.length i) (H':=AM.upd H 0 (some ob3))
   ·refine Run.block ?_ (by simp)
    exact piece hr _ rfl
   ·generalize i + 1 = i1 at *
    simp only [zt5]
    generalize P.length = N1 at *
    (refine ⟨0,?_⟩;simp (maxSteps:=2000000) -implicitDefEqProofs [-getElem?_pos,go_sem,eqV,ah,w9])
 rintro fr H ⟨ob2,rfl,h0,hw⟩
 have hp2:=XA P.length h0 hw (by rw [htl];exact Nat.le_refl _)
 rw [← htl 4,List.take_length] at hp2
 obtain ⟨v0,v,F1,E1,q1,q2,hv,hl1,hk1⟩:=XB (F:=60000) (mo:=(b.length:Nat)) hp2 (by rw [htl];omega) (by omega) (by rw [htl];omega) (by omega)
 rw [hun] at q1 hv
 rw [htl 4] at q1
 simp only at q1 hv
 apply aj.seq (fr':=[(7,v),(8,.int .i64 8)]) (H':=E1)
 ·simp only [ak,vI] at q2
  simp only [zt5]
  generalize P.length = N1 at *
  generalize hN:b.length = N at *
  (refine ⟨0,?_⟩;simp (maxSteps:=2000000) -implicitDefEqProofs [-getElem?_pos,go_sem,eqV,ah,hN,q1,q2,Zo])
 refine aj.of (o:=⟨.ret,[(4,.bool true)],E1⟩) ⟨0,?_⟩ ⟨rfl,rfl⟩
 rcases hv with ⟨o,g,τ,ob,rfl,ho,hw⟩ | ⟨_,τ,rfl⟩
 ·have hg:=hw.g
  simp (maxSteps:=2000000) -implicitDefEqProofs [-getElem?_pos,go_sem,eqV,ah,ho,hg]
 ·simp (maxSteps:=2000000) -implicitDefEqProofs [-getElem?_pos,go_sem,eqV,ah]
end
end Go.Proofs.Ytcllinmgllmpmaa
