/- EI to IR: texts of this claim, one behind the other; what each shows stands at its head. -/
import Derived.Test.YtbodincpjijdiaaAm4
import Derived.Test.YtbodincpjijdiaaMg4
set_option linter.unusedSimpArgs false
set_option linter.unusedVariables false
set_option maxRecDepth 100000
set_option maxHeartbeats 8000000
namespace Go.Proofs.Ytbodincpjijdiaa
open Go.AM
def Eu (x:Pc):Px:=⟨(x.len:Nat),(x.dist:Nat),x.byte⟩
theorem Rk (L:List Pc):(L.map Eu).map pxR = L.map pcR:=by
 rw [List.map_map]
 rfl
def ku (b:List UInt8):List Px:=(lQ b b.length [] 0).map Eu
def dP (b:List UInt8):List UInt8:=if (fP b).length < (iF (ku b)).1.length then fP b else (iF (ku b)).1
theorem yN (b:List UInt8):∀ (f:Nat) (M:Pls) (p:Nat),(lQ b f M p).length≤f
 | 0,_,_=>Nat.le_refl _
 | f + 1,M,p=>by
  unfold lQ
  split
  ·have:=yN b f (qF b M p (max 1 (dO b M p).len)) (p + max 1 (dO b M p).len)
   simp
   omega
  ·simp
theorem Rl {H:AM.Heap} {o g es:Nat} {ob:AM.Obj} {l:List AV} (ho:H[o]? = some (some ob)) (hw:Rw (.pr es l) g ob):gq H (.sl o 0 l.length g) = some (.pr es l):=by
 simp [gq,live,ho,hw.g,hw.ids,hw.p,iw]
section
variable {c:Nat} {b:List UInt8}
theorem Ie {m:Nat} (hb:b.length≤1400):∃ code,Try.f35.body = some code∧aj (jV fun fr E=>∃ a g ob,au fr 2 = .sl a 0 (dP b).length g∧E[a]? = some (some ob)∧Rw (.pb (dP b)) g ob) X (evT X) 35 m code [(0,.ro c (.pb b) 1)] []:=by
 refine ⟨_,rfl,?_⟩
 apply aj.seq (fr':=[(0,.ro c (.pb b) 1)]) (H':=[some (⟨.pb [],0,none,0,true,false,0⟩:AM.Obj)])
 ·(refine ⟨0,?_⟩;simp (maxSteps:=2000000) -implicitDefEqProofs [-getElem?_pos,go_sem,eqV,ah,ak,rowOf,WA])
 obtain ⟨ob1,w1,e1⟩:=OJ (H:=[some (⟨.pb [],0,none,0,true,false,0⟩:AM.Obj)]) (a:=.ro c (.pb b) 1) (b:=b) rfl hb
 have hlen:=yN b b.length [] 0
 obtain ⟨ob2,w2,e2⟩:=OD (H:=[some (⟨.pb [],0,none,0,true,false,0⟩:AM.Obj),some ob1]) (a:=.sl 1 0 (lQ b b.length [] 0).length 0) (l:=ku b) (by
  unfold ku
  rw [Rk]
  have:=Rl (H:=[some (⟨.pb [],0,none,0,true,false,0⟩:AM.Obj),some ob1]) (o:=1) rfl w1
  rwa [List.length_map] at this) (by unfold ku;rw [List.length_map];omega)
 obtain ⟨ob3,w3,e3⟩:=KL (H:=[some (⟨.pb [],0,none,0,true,false,0⟩:AM.Obj),some ob1,some ob2]) (a:=.ro c (.pb b) 1) (b:=b) rfl (by omega)
 simp only [List.length_cons,List.length_nil,List.cons_append,List.nil_append] at e1 e2 e3
 unfold dP
 have g2:=w2.g;have g3:=w3.g
 generalize hr0:some (⟨.pb [],0,none,0,true,false,0⟩:AM.Obj) = r0 at *
 apply aj.seq (fr':=[(0,.ro c (.pb b) 1),(3,.sl 2 0 (iF (ku b)).1.length 0)]) (H':=[r0,some ob1,some ob2])
 ·generalize (lQ b b.length [] 0).length = N1 at *
  generalize (iF (ku b)).1.length = N2 at *
  generalize (iF (ku b)).2 = er at *
  (refine ⟨0,?_⟩;simp (maxSteps:=2000000) -implicitDefEqProofs [-getElem?_pos,go_sem,eqV,ah,e1,e2,ak])
 apply aj.assoc
 apply aj.seq (fr':=[(3,.sl 2 0 (iF (ku b)).1.length 0),(5,.sl 3 0 (fP b).length 0)]) (H':=[r0,some ob1,some ob2,some ob3])
 ·generalize (iF (ku b)).1.length = N2 at *
  generalize (fP b).length = N3 at *
  (refine ⟨0,?_⟩;simp (maxSteps:=2000000) -implicitDefEqProofs [-getElem?_pos,go_sem,eqV,ah,e3,ak])
 apply aj.assoc
 by_cases hlt:(fP b).length < (iF (ku b)).1.length
 ·rw [if_pos hlt]
  have hI:((fP b).length:Int) < ((iF (ku b)).1.length:Int):=by omega
  refine aj.of (o:=⟨.ret,[(2,.sl 3 0 (fP b).length 0)],[r0,some ob1,some ob2,some ob3]⟩) ?_ ⟨rfl,3,0,ob3,rfl,rfl,w3⟩
  generalize (iF (ku b)).1.length = N2 at *
  generalize (fP b).length = N3 at *
  apply Run.seq (fr':=[(3,.sl 2 0 N2 0),(5,.sl 3 0 N3 0),(18,.bool true)]) (H':=[r0,some ob1,some ob2,some ob3])
  ·(refine ⟨0,?_⟩;simp (maxSteps:=2000000) -implicitDefEqProofs [-getElem?_pos,go_sem,eqV,ah,g2,g3,hI,hlt])
  ·refine ⟨0,?_⟩
   simp (maxSteps:=2000000) -implicitDefEqProofs [-getElem?_pos,go_sem,eqV,ah,ak]
 ·rw [if_neg hlt]
  have hI:¬ ((fP b).length:Int) < ((iF (ku b)).1.length:Int):=by omega
  refine aj.of (o:=⟨.ret,[(2,.sl 2 0 (iF (ku b)).1.length 0)],[r0,some ob1,some ob2,some ob3]⟩) ?_ ⟨rfl,2,0,ob2,rfl,rfl,w2⟩
  generalize (iF (ku b)).1.length = N2 at *
  generalize (fP b).length = N3 at *
  apply Run.seq (fr':=[(3,.sl 2 0 N2 0),(5,.sl 3 0 N3 0),(18,.bool false)]) (H':=[r0,some ob1,some ob2,some ob3])
  ·(refine ⟨0,?_⟩;simp (maxSteps:=2000000) -implicitDefEqProofs [-getElem?_pos,go_sem,eqV,ah,g2,g3,hI,hlt])
  ·refine ⟨0,?_⟩
   simp (maxSteps:=2000000) -implicitDefEqProofs [-getElem?_pos,go_sem,eqV,ah,ak]
theorem Nc {H:AM.Heap} {a:AV} (ha:gq H a = some (.pb b)) (hb:b.length≤1400):∃ ob,Rw (.pb (dP b)) 0 ob∧evT X 35 [a] H = some (.sl H.length 0 (dP b).length 0,H ++ [some ob]):=by
 obtain ⟨c,x,hx⟩:=dS (C:=X) (f:=35) (i:=0) rfl ha (bU 1)
 obtain ⟨code,hc,⟨out,⟨ho,a2,g,ob,h2,h4,hw⟩,hrun⟩⟩:=Ie (m:=0) (c:=c) hb
 obtain ⟨ob',q1,q2⟩:=Ev1.wZ (C:=X) (H:=H) (bn X) (n:=(dP b).length) (l:=dP b) (rest:=[]) Try.func35 hc hx rfl (by simp [bW]) rfl rfl rfl (by
  rw [Y1]
  refine ⟨out,⟨ho,a2,g,ob,?_,h4,hw⟩,hrun⟩
  show aQ X out.fr out.H [.tmp 2] = _
  simp [aQ,h2])
 exact ⟨ob',q1,dA q2⟩
end
end Go.Proofs.Ytbodincpjijdiaa
namespace Go.Proofs.Ytbodincpjijdiaa
open Go.AM
theorem Gd.one:Gd ⟨8,[1]⟩:=⟨rfl,fun i hi=>by
 unfold jJ
 have:1≤i / 8:=by have hi':8≤i:=hi;omega
 obtain ⟨q,hq⟩:∃ q,i / 8 = q + 1:=⟨i / 8 - 1,by omega⟩
 simp only [hq]
 simp⟩
theorem Vh {B o:List UInt8} {x:UInt8} {j:Nat} (h:B[j]? = some x):pV B 8 (8 * j) o = .ok (x.toNat:Nat) (8 * (j + 1)) o:=by
 have hj:j < B.length:=eY h
 have:=BP (b:=B) (k:=8 * j) (o:=o) (x:=((x.toNat:Nat):Int)) 8 (by omega) (fun i hi=>by
  unfold jJ
  have e1:(8 * j + i) / 8 = j:=by omega
  have e2:(8 * j + i) % 8 = i:=by omega
  rw [e1,e2,List.getD_eq_getElem?_getD,h]
  push_cast
  rfl)
 have hx:=x.toNat_lt
 have hm:((x.toNat:Nat):Int) % 2 ^ 8 = (x.toNat:Nat):=Int.emod_eq_of_lt (by omega) (by omega)
 rw [this,hm]
 rfl
theorem Ox {B b:List UInt8} {mo:Int} {d:Nat} (hB:∀ i,i < b.length→B[d + i]? = b[i]?) (hm:(b.length:Int)≤mo):∀ n i,i + n = b.length→KD (iD (pV B 8) fun c=>F5 mo (UInt8.ofNat c.toNat)) n (8 * (d + i)) (b.take i) = .ok () (8 * (d + b.length)) b
 | 0,i,h=>by
  have:i = b.length:=by omega
  subst this
  rw [List.take_length]
  rfl
 | n + 1,i,h=>by
  have hi:i < b.length:=by omega
  have hx:b[i]? = some b[i]:=List.getElem?_eq_getElem hi
  have h1:=Vh (o:=b.take i) (x:=b[i]) ((hB i hi).trans hx)
  have h2:F5 mo (UInt8.ofNat (((b[i].toNat:Nat):Int)).toNat) (8 * (d + i + 1)) (b.take i) = .ok () (8 * (d + i + 1)) (b.take (i + 1)):=by
   unfold F5
   rw [if_pos (by rw [List.length_take];omega),List.take_add_one,hx]
   simp
  unfold KD
  rw [dW (by rw [dW h1];exact h2)]
  exact Ox hB hm n (i + 1) (by omega)
theorem xP {b:List UInt8}:Gd (tV b)∧(tV b).k = 40∧(tV b).o.length = 5:=by
 unfold tV
 rw [f13]
 obtain ⟨a1,_,_⟩:=fO (x:=(b.length:Nat)) Gd.one 16
 obtain ⟨a2,_,_⟩:=fO (x:=-(b.length:Int) - 1) a1 16
 have k1:=(bV (x:=(b.length:Nat)) Gd.one.ok 16).2
 have k2:=(bV (x:=-(b.length:Int) - 1) a1.ok 16).2
 have hk:(bI (bI ⟨8,[1]⟩ (b.length:Nat) 16) (-(b.length:Int) - 1) 16).k = 40:=by rw [k2,k1]
 have:=a2.ok
 unfold gQ at this
 exact ⟨a2,hk,by rw [this,hk]⟩
theorem zB (b:List UInt8):(fP b).length = b.length + 5:=by
 unfold fP
 rw [List.length_append,xP.2.2]
 omega
theorem Vj {F:Nat} {b r:List UInt8} {mo:Int} (hb:b.length≤65535) (hm:(b.length:Int)≤mo) (hF:0 < F):∃ L,F7 (fP b ++ r) mo F F 0 [] = .ok L (8 * (fP b).length) b:=by
 obtain ⟨F,rfl⟩:∃ g,F = g + 1:=⟨F - 1,by omega⟩
 obtain ⟨w1,w2,w3⟩:=xP (b:=b)
 have hlen:(fP b ++ r).length = 5 + b.length + r.length:=by rw [List.length_append,zB];omega
 have hag:Agr (fP b ++ r) (tV b):=⟨by rw [w2];omega,fun i hi=>by
  unfold jJ fP
  rw [List.append_assoc,List.getD_eq_getElem?_getD,List.getElem?_append_left (by rw [w2] at hi;omega),← List.getD_eq_getElem?_getD]⟩
 have hB:∀ i,i < b.length→(fP b ++ r)[5 + i]? = b[i]?:=by
  intro i hi
  unfold fP
  rw [List.append_assoc,List.getElem?_append_right (by omega),w3,show 5 + i - 5 = i by omega,List.getElem?_append_left hi]
 have hs:tV b = bI (bI ⟨8,[1]⟩ (b.length:Nat) 16) (-(b.length:Int) - 1) 16:=by unfold tV;rw [f13]
 rw [zB]
 generalize fP b ++ r = B at *
 rw [hs] at hag w2
 obtain ⟨a1,b1,_⟩:=fO (x:=(b.length:Nat)) Gd.one 16
 obtain ⟨a2,b2,_⟩:=fO (x:=-(b.length:Int) - 1) a1 16
 have x1:=Agr.ext b2 hag
 have x0:=Agr.ext b1 x1
 have bits:∀ i,i < 8→jJ B i = jJ [1] i:=x0.at'
 have r1:pV B 1 0 [] = .ok 1 1 []:=by
  have:=BP (b:=B) (k:=0) (o:=[]) (x:=1) 1 (by omega) (fun i hi=>by
   have:i = 0:=by omega
   subst this
   rw [bits 0 (by omega)];rfl)
  exact this
 have r2:pV B 2 1 [] = .ok 0 3 []:=by
  have:=BP (b:=B) (k:=1) (o:=[]) (x:=0) 2 (by omega) (fun i hi=>by
   have:i = 0∨i = 1:=by omega
   rcases this with rfl | rfl
   ·rw [bits 1 (by omega)];rfl
   ·rw [bits 2 (by omega)];rfl)
  exact this
 have r3:=qW (o:=[]) Gd.one x1
 have r4:=qW (o:=[]) a1 hag
 rw [w2] at r4
 have e3:((b.length:Nat):Int) % 2 ^ 16 = (b.length:Nat):=Int.emod_eq_of_lt (by omega) (by omega)
 have e4:(-(b.length:Int) - 1) % 2 ^ 16 = 65535 - (b.length:Nat):=by
  show (-(b.length:Int) - 1) % 65536 = _
  omega
 rw [e3] at r3
 rw [e4] at r4
 have r5:=Ox (B:=B) (d:=5) hB hm b.length 0 (by omega)
 have aj9:TK B mo 3 [] = .ok () (8 * (5 + b.length)) b:=by
  unfold TK
  rw [dW (show Yo 3 [] = .ok () 8 [] from rfl),dW r3,dW r4,if_pos (by omega)]
  exact r5
 have hbl:Qj B mo (F + 1) 0 [] = .ok ⟨0,true,0,b.length⟩ (8 * (5 + b.length)) b:=by
  unfold Qj
  rw [dW r1,dW r2]
  have hk:Qi B mo (F + 1) 0 = TK B mo:=by unfold Qi;rw [if_pos rfl]
  rw [hk,dW aj9]
  rfl
 rw [show 8 * (b.length + 5) = 8 * (5 + b.length) by omega]
 refine ⟨[⟨0,true,0,b.length⟩],?_⟩
 unfold F7
 rw [dW hbl,if_pos rfl]
 rfl
theorem Kv {b:List UInt8} {i k:Nat}:∀ (f n j:Nat),n≤j→j < bM b i k f n→b[i + j]? = b[k + j]?
 | 0,n,j,h1,h2=>by unfold bM at h2;omega
 | f + 1,n,j,h1,h2=>by
  unfold bM at h2
  split at h2
  ·rename_i hc
   by_cases hj:j = n
   ·subst hj;exact hc.2.2
   ·exact Kv f (n + 1) j (by omega) h2
  ·omega
theorem FV (b:List UInt8) (p:Nat):∀ (L:List Nat) (s:Nat × Nat),(∀ x ∈ L,x < p)→oQ b p L s = s∨∃ x ∈ L,p - x≤32768∧oQ b p L s = (bM b x p 258 0,p - x)
 | [],s,_=>.inl rfl
 | y :: L,s,h=>by
  unfold oQ
  split
  ·rename_i hc
   rcases FV b p L (if s.1 < bM b y p 258 0 then (bM b y p 258 0,p - y) else s) (fun x hx=>h x (List.mem_cons_of_mem _ hx)) with e | ⟨x,hx,h1,h2⟩
   ·rw [e]
    split
    ·exact .inr ⟨y,List.mem_cons_self ..,hc.1,rfl⟩
    ·exact .inl rfl
   ·exact .inr ⟨x,List.mem_cons_of_mem _ hx,h1,h2⟩
  ·exact .inl rfl
theorem Vk {b:List UInt8} {p d:Nat} (hd:1≤d) (hdp:d≤p):∀ n,p + n≤b.length→(∀ j,j < n→b[p - d + j]? = b[p + j]?)→iE d n (b.take p) = b.take (p + n):=by
 suffices H:∀ n q,p≤q→q + n≤b.length→(∀ j,p≤j→j < q + n→b[j - d]? = b[j]?)→iE d n (b.take q) = b.take (q + n) by
  intro n h1 h2
  exact H n p (Nat.le_refl _) h1 fun j hj hj2=>by
   have:=h2 (j - p) (by omega)
   rw [show p - d + (j - p) = j - d by omega,show p + (j - p) = j by omega] at this
   exact this
 intro n
 induction n with
 | zero=>intro q _ _ _;rfl
 | succ n ih =>
  intro q hq h1 h2
  unfold iE
  have hx:b[q]? = some b[q]:=List.getElem?_eq_getElem (by omega)
  have e:(b.take q).getD ((b.take q).length - d) 0 = b[q]:=by
   rw [List.length_take,Nat.min_eq_left (by omega),List.getD_eq_getElem?_getD,List.getElem?_take,if_pos (by omega),h2 q hq (by omega),hx]
   rfl
  rw [e]
  have e2:b.take q ++ [b[q]] = b.take (q + 1):=by rw [List.take_add_one,hx];rfl
  rw [e2,ih (q + 1) (by omega) (by omega) fun j hj hj2=>h2 j hj (by omega),show q + 1 + n = q + (n + 1) by omega]
theorem Nh {b:List UInt8} {M:Pls} {p:Nat} (hM:zG M p) (hp:p < b.length):(3≤(dO b M p).len∧(dO b M p).len≤258∧1≤(dO b M p).dist∧(dO b M p).dist≤32768∧(dO b M p).dist≤p∧(dO b M p).byte = 0∧iE (dO b M p).dist (dO b M p).len (b.take p) = b.take (p + (dO b M p).len))∨(dO b M p = ⟨0,0,b.getD p 0⟩):=by
 have hfit:=qZ (M:=M) hp
 unfold dO at hfit ⊢
 by_cases h3:3≤(jo b M p).1
 ·rw [if_pos h3] at hfit ⊢
  left
  simp only at hfit ⊢
  have MQ:=(Ir (M:=M) (Nat.le_of_lt hp)).2
  unfold jo at h3 hfit MQ ⊢
  split at h3
  ·rename_i hp3
   rw [if_pos hp3] at hfit MQ ⊢
   have hL:∀ x ∈ (lkM M (jP b p)).reverse,x < p:=by
    intro x hx
    rw [List.mem_reverse] at hx
    unfold lkM at hx
    split at hx
    ·rename_i j hj
     obtain ⟨_,l,hl⟩:=rX hj
     rw [Nat.sub_zero] at hl
     rw [List.getD_eq_getElem?_getD,hl] at hx
     exact (hM.2 _ (List.mem_of_getElem? hl)).2.2 x hx
    ·cases hx
   rcases FV b p _ (0,0) hL with e | ⟨x,hx,h1,e⟩
   ·rw [e] at h3;simp at h3
   ·have hxp:=hL x hx
    rw [e] at h3 hfit MQ ⊢
    simp only at h3 hfit MQ ⊢
    refine ⟨h3,MQ,by omega,h1,by omega,trivial,?_⟩
    refine Vk (by omega) (by omega) _ (by omega) fun j hj=>?_
    rw [show p - (p - x) + j = x + j by omega]
    exact Kv 258 0 j (by omega) hj
  ·simp at h3
 ·rw [if_neg h3]
  exact .inr rfl
theorem Vl (y:UInt8) (L:List Px) (o:List UInt8):iy (Eu ⟨0,0,y⟩ :: L) o = iy L (o ++ [y]):=by
 conv=>lhs;unfold iy
 have hm:jy (Eu ⟨0,0,y⟩) = true:=by unfold jy Eu;rfl
 have h0:(Eu ⟨0,0,y⟩).len = 0:=rfl
 rw [if_neg (by rw [hm];simp),if_pos h0]
 rfl
theorem Kw {b:List UInt8}:∀ (f:Nat) (M:Pls) (p:Nat),zG M p→p≤b.length→b.length≤p + f→iy ((lQ b f M p).map Eu) (b.take p) = (b,0)
 | 0,M,p,hM,hp,hf=>by
  have:p = b.length:=by omega
  subst this
  unfold lQ
  rw [List.take_length]
  rfl
 | f + 1,M,p,hM,hp,hf=>by
  unfold lQ
  by_cases hlt:p < b.length
  ·rw [if_pos hlt,List.map_cons]
   have hmx:1≤max 1 (dO b M p).len:=Nat.le_max_left ..
   have ih:=Kw f (qF b M p (max 1 (dO b M p).len)) (p + max 1 (dO b M p).len) (hM.up _) (qZ hlt) (by omega)
   generalize lQ b f (qF b M p (max 1 (dO b M p).len)) (p + max 1 (dO b M p).len) = R at *
   rcases Nh hM hlt with ⟨h1,h2,h3,h4,h5,h6,h7⟩ | h
   ·have hmax:max 1 (dO b M p).len = (dO b M p).len:=by omega
    rw [hmax] at ih
    unfold iy
    have hmay:jy (Eu (dO b M p)) = true:=by
     unfold jy Eu
     simp only
     rw [if_neg (by omega),h6]
     simp
     omega
    rw [if_neg (by simp [hmay])]
    unfold Eu
    simp only
    rw [if_neg (by omega),if_neg (by rw [List.length_take];omega)]
    simp only [Int.toNat_natCast]
    rw [h7]
    exact ih
   ·rw [h] at ih ⊢
    have hx:b[p]? = some b[p]:=List.getElem?_eq_getElem hlt
    have hg:b.getD p 0 = b[p]:=by rw [List.getD_eq_getElem?_getD,hx];rfl
    rw [Vl,hg]
    have e2:b.take p ++ [b[p]] = b.take (p + 1):=by rw [List.take_add_one,hx];rfl
    rw [e2]
    exact ih
  ·rw [if_neg hlt]
   have:p = b.length:=by omega
   subst this
   rw [List.take_length]
   rfl
theorem P9 (b:List UInt8):iy (ku b) [] = (b,0):=Kw b.length [] 0 ⟨Nat.le_refl _,fun y hy=>by cases hy⟩ (Nat.zero_le _) (by omega)
theorem Agr.app {s:Ws} (h:gQ s) (r:List UInt8):Agr (s.o ++ r) s:=by
 unfold gQ at h
 refine ⟨by rw [List.length_append];omega,fun i hi=>?_⟩
 unfold jJ
 rw [List.getD_eq_getElem?_getD,List.getElem?_append_left (by omega),← List.getD_eq_getElem?_getD]
theorem Vm (l:List Px):Gd (BX l):=by
 unfold BX
 obtain ⟨a1,_,_⟩:=fO (x:=1) Gd.nil 1
 obtain ⟨a2,_,_⟩:=fO (x:=1) a1 2
 exact (pX (F9 l a2).1).1
theorem Tt {F:Nat} {out r:List UInt8} {mo:Int} {l:List Px} (he:iy l [] = (out,0)) (hm:(out.length:Int)≤mo) (hF:l.length < F):∃ L k,F7 ((iF l).1 ++ r) mo F F 0 [] = .ok L k out∧(k + 7) / 8 = (iF l).1.length:=by
 have hf:(iF l).1 = (BX l).o:=by unfold iF;rw [he];rfl
 have hg:=(Vm l).ok
 obtain ⟨L,h⟩:=TT (F:=F) he (Agr.app hg r) hm hF
 rw [hf]
 unfold gQ at hg
 exact ⟨L,_,h,hg.symm⟩
theorem Qa {F:Nat} {b r:List UInt8} {mo:Int} (hb:b.length≤65535) (hm:(b.length:Int)≤mo) (hF:b.length < F):∃ L k,F7 (dP b ++ r) mo F F 0 [] = .ok L k b∧(k + 7) / 8 = (dP b).length:=by
 unfold dP
 split
 ·obtain ⟨L,h⟩:=Vj (F:=F) (r:=r) hb hm (by omega)
  exact ⟨L,_,h,by omega⟩
 ·refine Tt (P9 b) hm ?_
  have:=yN b b.length [] 0
  unfold ku
  rw [List.length_map]
  omega
theorem Qb {F:Nat} {b r:List UInt8} {mo:Int} (hb:b.length≤65535) (hm:(b.length:Int)≤mo) (hF:b.length < F):Qk F (dP b ++ r) mo = (b,(((dP b).length:Nat):Int),0):=by
 obtain ⟨L,k,h,hk⟩:=Qa (F:=F) (r:=r) hb hm hF
 rw [TU ⟨L,h⟩ hm,hk]
theorem I5 (b:List UInt8):(dP b).length≤b.length + 5:=by
 unfold dP
 split
 ·rw [zB];exact Nat.le_refl _
 ·rename_i h
  rw [zB] at h
  omega
end Go.Proofs.Ytbodincpjijdiaa
namespace Go.Proofs.Ytbodincpjijdiaa
open Go.AM
def lo1 (lo:Int) (b:UInt8):Int:=(IntKind.u32.wrap (lo + IntKind.u32.wrap (b.toNat:Int))).tmod 65521
def hi1 (lo hi:Int) (b:UInt8):Int:=(IntKind.u32.wrap (hi + lo1 lo b)).tmod 65521
def iK:Int→Int→List UInt8→Int × Int
 | lo,hi,[]=>(lo,hi)
 | lo,hi,b :: r=>iK (lo1 lo b) (hi1 lo hi b) r
def Ce (lo hi:Int):Int:=IntKind.u32.wrap ((AM.bits .u32 (IntKind.u32.wrap (hi * 2 ^ (min 16 32))) ||| AM.bits .u32 lo).toNat)
def adl (l:List UInt8):Nat:=(Ce (iK 1 0 l).1 (iK 1 0 l).2).toNat
theorem vJ (n:Int):0≤IntKind.u32.wrap n∧IntKind.u32.wrap n < 4294967296:=by
 have h:IntKind.u32.wrap n = n % 4294967296:=by
  simp [IntKind.wrap,IntKind.signed,IntKind.bits]
 rw [h]
 omega
theorem KP (l:List UInt8):Ce (iK 1 0 l).1 (iK 1 0 l).2 = (adl l:Nat):=by
 unfold adl Ce
 have:=vJ (((AM.bits .u32 (IntKind.u32.wrap ((iK 1 0 l).2 * 2 ^ (min 16 32))) ||| AM.bits .u32 (iK 1 0 l).1).toNat:Nat):Int)
 omega
theorem Rn (l:List UInt8):adl l < 4294967296:=by
 have h1:=KP l
 unfold Ce at h1
 have:=vJ (((AM.bits .u32 (IntKind.u32.wrap ((iK 1 0 l).2 * 2 ^ (min 16 32))) ||| AM.bits .u32 (iK 1 0 l).1).toNat:Nat):Int)
 omega
def be4 (s:Nat):List UInt8:=[UInt8.ofNat (s / 16777216),UInt8.ofNat (s / 65536),UInt8.ofNat (s / 256),UInt8.ofNat s]
def fG (b:List UInt8):List UInt8:=[120,1] ++ dP b ++ be4 (adl b)
end Go.Proofs.Ytbodincpjijdiaa
namespace Go.Proofs.Ytbodincpjijdiaa
open Go.AM
structure Is where
 k:Nat
 o:List UInt8
 e:Int
def Am (c:Nat) (b:List UInt8) (mo:Int) (s:Is) (vo:AV) (τ1 τ:Nat):AM.Obj:=⟨.pc [.ro c (.pb b) τ1,.int .i64 (s.k:Nat),vo,.int .i64 mo,.int .i64 s.e],0,some 5,1,false,true,τ⟩
def OuV (t:Nat) (H:AM.Heap) (oa:Option Nat) (vo:AV) (l:List UInt8):Prop:=match oa with
 | none=>l = []∧∃ τ,(τ = 0∨τ = t)∧vo = .ro 0 .pn τ
 | some a=>∃ g τ ob,(τ = 0∨τ = t)∧vo = .sl a 0 l.length g∧H[a]? = some (some ob)∧RwT (.pb l) g τ ob
structure IrV (c:Nat) (b:List UInt8) (mo:Int) (t:Nat) (H:AM.Heap) (o:Nat) (oa:Option Nat) (s:Is):Prop where
 bx:∃ vo τ1 τ,(τ1 = 0∨τ1 = t)∧(τ = 0∨τ = t)∧H[o]? = some (some (Am c b mo s vo τ1 τ))∧OuV t H oa vo s.o
 ne:∀ a,oa = some a→a ≠ o
def irS (c:Nat) (b:List UInt8) (mo:Int) (s:Is):Bool→List AM.Obj
 | false=>[Am c b mo s (.ro 0 .pn 0) 0 0]
 | true=>[Am c b mo s (.sl 1 0 s.o.length 0) 0 0,⟨.pb s.o,0,none,0,true,false,0⟩]
section
variable {c:Nat} {b:List UInt8} {mo:Int} {t:Nat} {H:AM.Heap} {o:Nat} {oa:Option Nat} {s:Is}
theorem IrV.img (h:IrV c b mo t H o oa s):∃ π,Img t H π (irS c b mo s oa.isSome)∧π.map Prod.fst = o :: oa.toList∧π[0]? = some (o,0):=by
 obtain ⟨⟨vo,τ1,τ,hτ1,hτ,h0,ho⟩,hne⟩:=h
 cases oa with
 | none =>
  obtain ⟨hl,τ2,hτ2,rfl⟩:=ho
  refine ⟨[(o,0)],⟨rfl,?_,?_⟩,rfl,rfl⟩
  ·intro j k oj gj ok gk h1 h2 _
   have:=eY h1;have:=eY h2
   simp at *;omega
  ·intro k ob0 hk
   cases k with
   | succ k=>simp [irS] at hk
   | zero =>
    obtain rfl:=Option.some.inj hk
    refine ⟨o,0,_,rfl,h0,⟨?_,rfl,rfl,rfl,fun _=>⟨rfl,rfl,rfl⟩,hτ,?_⟩⟩
    ·simp [Am,ren,bZ,tz]
    ·intro k hk
     simp [Am,tags,bQ] at hk
     rcases hk with rfl | rfl
     ·exact hτ1
     ·exact hτ2
 | some a =>
  obtain ⟨g,τ2,ob,hτ2,rfl,ha,hw⟩:=ho
  have hao:=hne a rfl
  refine ⟨[(o,0),(a,g)],⟨rfl,?_,?_⟩,rfl,rfl⟩
  ·intro j k oj gj ok gk h1 h2 e
   match j,k,h1,h2 with
   | 0,0,_,_=>rfl
   | 1,1,_,_=>rfl
   | 0,1,h1,h2=>simp at h1 h2;omega
   | 1,0,h1,h2=>simp at h1 h2;omega
   | j + 2,_,h1,_=>simp at h1
   | 0,k + 2,_,h2=>simp at h2
   | 1,k + 2,_,h2=>simp at h2
  ·intro k ob0 hk
   match k,hk with
   | 0,hk =>
    obtain rfl:=Option.some.inj hk
    refine ⟨o,0,_,rfl,h0,⟨?_,rfl,rfl,rfl,fun _=>⟨rfl,rfl,rfl⟩,hτ,?_⟩⟩
    ·simp [Am,ren,bZ,tz,jI,idN]
    ·intro k hk
     simp [Am,tags,bQ] at hk
     rw [hk];exact hτ1
   | 1,hk =>
    obtain rfl:=Option.some.inj hk
    refine ⟨a,g,ob,rfl,ha,⟨by rw [hw.p];rfl,hw.g,hw.row,hw.ids,(fun h=>by cases h),by rw [hw.tg];exact hτ2,?_⟩⟩
    intro k hk
    rw [hw.p] at hk
    simp [tags] at hk
   | k + 2,hk=>simp [irS] at hk
theorem IrV.xg {π:List (Nat × Nat)} {r:Bool} (h:Img t H π (irS c b mo s r)) (h0:π[0]? = some (o,0)) (hr:r = false→s.o = []):∃ oa,IrV c b mo t H o oa s∧π.map Prod.fst = o :: oa.toList∧oa.isSome = r∧(∀ a,oa = some a→∃ g,π[1]? = some (a,g)):=by
 obtain ⟨o',g',ob,q1,q2,q3⟩:=h.ob 0 _ (by cases r <;> rfl:(irS c b mo s r)[0]? = some (Am c b mo s (if r then .sl 1 0 s.o.length 0 else .ro 0 .pn 0) 0 0))
 rw [h0] at q1
 simp only [Option.some.injEq,Prod.mk.injEq] at q1
 obtain ⟨rfl,rfl⟩:=q1
 obtain ⟨b1,b2,_⟩:=q3.bx rfl
 obtain ⟨p,g,cap,z,row,idb,tg⟩:=ob
 have r2:=q3.gen;have r3:=q3.row;have r4:=q3.ids;have r5:=q3.tg;have r6:=q3.tp;have r1:=q3.p
 simp only [Am] at r1 r2 r3 r4 r5 r6 b1 b2
 subst r2 r3 r4 b1 b2
 simp only [ren,bZ] at r1
 obtain ⟨l1,rfl,k1⟩:=xK r1
 obtain ⟨x1,l2,rfl,e1,k2⟩:=gu k1
 obtain ⟨x2,l3,rfl,e2,k3⟩:=gu k2
 obtain ⟨x3,l4,rfl,e3,k4⟩:=gu k3
 obtain ⟨x4,l5,rfl,e4,k5⟩:=gu k4
 obtain ⟨x5,l6,rfl,e5,k6⟩:=gu k5
 obtain rfl:=oH k6
 obtain ⟨τ1,rfl⟩:=xJ e1
 obtain rfl:=ql e2
 obtain rfl:=ql e4
 obtain rfl:=ql e5
 have hτ1:τ1 = 0∨τ1 = t:=r6 τ1 (by simp [tags,bQ])
 cases r with
 | false =>
  simp only [Bool.false_eq_true,if_false,ren] at e3
  obtain ⟨τ2,rfl⟩:=xJ e3
  have hτ2:τ2 = 0∨τ2 = t:=r6 τ2 (by simp [tags,bQ])
  have hl:=h.len
  refine ⟨none,⟨⟨_,τ1,tg,hτ1,r5,q2,hr rfl,τ2,hτ2,rfl⟩,fun a h=>by cases h⟩,?_,rfl,fun a h=>by cases h⟩
  match π,hl,h0 with
  | [x],_,h0=>simp at h0;subst h0;rfl
 | true =>
  obtain ⟨a,g,ob,p1,p2,p3⟩:=h.ob 1 _ rfl
  simp only [if_true,ren,jI,p1] at e3
  obtain rfl:=CS e3
  have hl:=h.len
  have hne:a ≠ o:=fun e=>by have:=h.nd 1 0 a g o 0 p1 h0 e;omega
  have ep:=p3.p
  simp only [ren] at ep
  refine ⟨some a,⟨⟨_,τ1,tg,hτ1,r5,q2,g,ob.tg,ob,p3.tg,rfl,p2,GH ep,p3.gen,p3.row,p3.ids,rfl⟩,fun a' h=>by cases h;exact hne⟩,?_,rfl,fun a' h=>by cases h;exact ⟨g,p1⟩⟩
  match π,hl,h0,p1 with
  | [x,y],_,h0,p1=>simp at h0 p1;subst h0 p1;rfl
end
end Go.Proofs.Ytbodincpjijdiaa
namespace Go.Proofs.Ytbodincpjijdiaa
open Go.AM
structure Kpt (H H':AM.Heap) (o:Nat) (oa oa':Option Nat):Prop where
 len:H.length≤H'.length
 same:∀ a,oa = some a→oa' = some a
 new:∀ a,oa = none→oa' = some a→H.length≤a
 rest:∀ j,j < H.length→j ≠ o→(∀ a,oa = some a→j ≠ a)→H'[j]? = H[j]?
theorem Kpt.refl (H:AM.Heap) (o:Nat) (oa:Option Nat):Kpt H H o oa oa:=⟨Nat.le_refl _,fun _ h=>h,fun a h h2=>(by rw [h] at h2;cases h2),fun _ _ _ _=>rfl⟩
theorem Kpt.trans {H H1 H2:AM.Heap} {o:Nat} {oa oa1 oa2:Option Nat} (h:Kpt H H1 o oa oa1) (h2:Kpt H1 H2 o oa1 oa2):Kpt H H2 o oa oa2 where
 len:=Nat.le_trans h.len h2.len
 same:=fun a ha=>h2.same a (h.same a ha)
 new:=by
  intro a ha ha2
  cases h1:oa1 with
  | none=>exact Nat.le_trans h.len (h2.new a h1 ha2)
  | some x =>
   have:=h2.same x h1
   rw [ha2] at this
   cases this
   exact h.new a ha h1
 rest:=by
  intro j hj hjo hja
  rw [h2.rest j (Nat.lt_of_lt_of_le hj h.len) hjo ?_,h.rest j hj hjo hja]
  intro a ha
  cases h1:oa with
  | none=>have:=h.new a h1 ha;omega
  | some x =>
   have:=h.same x h1
   rw [ha] at this
   cases this
   exact hja a h1
theorem Kpt.upd {H:AM.Heap} {o:Nat} {oa:Option Nat} (x:Option AM.Obj):Kpt H (AM.upd H o x) o oa oa where
 len:=by simp [AM.upd]
 same:=fun _ h=>h
 new:=fun a h h2=>by rw [h] at h2;cases h2
 rest:=fun j hj hjo _=>by unfold AM.upd;rw [List.getElem?_set_ne (Ne.symm hjo)]
theorem Kpt.cat {H:AM.Heap} {o:Nat} {oa:Option Nat} (r:AM.Heap):Kpt H (H ++ r) o oa oa where
 len:=by simp
 same:=fun _ h=>h
 new:=fun a h h2=>by rw [h] at h2;cases h2
 rest:=fun j hj hjo _=>List.getElem?_append_left hj
def Ky (b:List UInt8) (mo:Int) (s:Is):Prop:=s.k≤8 * b.length∧(s.o.length:Int)≤mo
def oK (b:List UInt8) (mo:Int) {α:Type} (m:PM α) (d:α) (s s':Is) (a:α):Prop :=
 Ky b mo s'∧if s.e = 0 then (match m s.k s.o with
  | .ok x k o=>s' = ⟨k,o,0⟩∧a = x
  | .err e=>s'.e = e∧e ≠ 0∧a = d) else s' = s∧a = d
section
variable {b:List UInt8} {mo:Int} {α β:Type} {s s1 s2:Is}
theorem oK.bnd {m:PM α} {f:α→PM β} {d x:α} {d2 y:β} (h:oK b mo m d s s1 x) (h2:oK b mo (f x) d2 s1 s2 y):oK b mo (iD m f) d2 s s2 y:=by
 refine ⟨h2.1,?_⟩
 have h1:=h.2
 have h3:=h2.2
 by_cases he:s.e = 0
 ·rw [if_pos he] at h1 ⊢
  unfold iD
  cases hm:m s.k s.o with
  | ok a k o =>
   rw [hm] at h1
   obtain ⟨rfl,rfl⟩:=h1
   simpa using h3
  | err e =>
   rw [hm] at h1
   obtain ⟨h4,h5,rfl⟩:=h1
   rw [if_neg (by rw [h4];exact h5)] at h3
   obtain ⟨rfl,rfl⟩:=h3
   exact ⟨h4,h5,rfl⟩
 ·rw [if_neg he] at h1 ⊢
  obtain ⟨rfl,rfl⟩:=h1
  rw [if_neg he] at h3
  exact h3
theorem oK.ret {a d:α} (hs:Ky b mo s) (h:s.e ≠ 0→a = d):oK b mo (wX a) d s s a:=by
 refine ⟨hs,?_⟩
 by_cases he:s.e = 0
 ·rw [if_pos he]
  exact ⟨by rw [← he],rfl⟩
 ·rw [if_neg he]
  exact ⟨rfl,h he⟩
theorem oK.map {m:PM α} {d x:α} (g:α→β) (h:oK b mo m d s s1 x):oK b mo (iD m fun a=>wX (g a)) (g d) s s1 (g x):=by
 have h1:=h.2
 refine ⟨h.1,?_⟩
 by_cases he:s.e = 0
 ·rw [if_pos he] at h1 ⊢
  unfold iD
  cases hm:m s.k s.o with
  | ok a k o =>
   rw [hm] at h1
   obtain ⟨rfl,rfl⟩:=h1
   exact ⟨rfl,rfl⟩
  | err e =>
   rw [hm] at h1
   obtain ⟨h4,h5,rfl⟩:=h1
   exact ⟨h4,h5,rfl⟩
 ·rw [if_neg he] at h1 ⊢
  obtain ⟨rfl,rfl⟩:=h1
  exact ⟨rfl,rfl⟩
theorem oK.stop {m:PM α} {d:α} (hs:Ky b mo s) (he:s.e ≠ 0):oK b mo m d s s d:=⟨hs,by rw [if_neg he];exact ⟨rfl,rfl⟩⟩
theorem oK.fine {m:PM α} {d x:α} (h:oK b mo m d s s1 x) (he:s1.e = 0):s.e = 0∧m s.k s.o = .ok x s1.k s1.o:=by
 have h1:=h.2
 by_cases h0:s.e = 0
 ·rw [if_pos h0] at h1
  cases hm:m s.k s.o with
  | ok a k o =>
   rw [hm] at h1
   obtain ⟨rfl,rfl⟩:=h1
   exact ⟨h0,rfl⟩
  | err e =>
   rw [hm] at h1
   exact absurd (h1.1.symm.trans he) h1.2.1
 ·rw [if_neg h0] at h1
  exact absurd (h1.1 ▸ he) h0
theorem oK.err {m:PM α} {d x:α} (h:oK b mo m d s s1 x) (h0:s.e = 0) (he:s1.e ≠ 0):m s.k s.o = .err s1.e∧x = d:=by
 have h1:=h.2
 rw [if_pos h0] at h1
 cases hm:m s.k s.o with
 | ok a k o =>
  rw [hm] at h1
  obtain ⟨rfl,rfl⟩:=h1
  exact absurd rfl he
 | err e =>
  rw [hm] at h1
  exact ⟨by rw [h1.1],h1.2.2⟩
theorem oK.Yd {m:PM α} {d:α} {e:Int} (hs:Ky b mo s1) (h0:s.e = 0) (hm:m s.k s.o = .err e) (he:s1.e = e) (hne:e ≠ 0):oK b mo m d s s1 d:=⟨hs,by rw [if_pos h0,hm];exact ⟨he,hne,rfl⟩⟩
end
def VZ (s:Is) (e:Int):Is:=if s.e = 0 then { s with e:=e } else s
theorem oK.bad {b:List UInt8} {mo:Int} {α:Type} {s:Is} {e:Int} {d:α} (hs:Ky b mo s) (he:e ≠ 0):oK b mo (wG e) d s (VZ s e) d:=by
 unfold VZ
 by_cases h0:s.e = 0
 ·rw [if_pos h0]
  exact oK.Yd (e:=e) ⟨hs.1,hs.2⟩ h0 rfl rfl he
 ·rw [if_neg h0]
  exact oK.stop hs h0
section
variable {c:Nat} {b:List UInt8} {mo:Int} {t:Nat} {H:AM.Heap} {o:Nat} {oa:Option Nat} {s:Is}
theorem OuV.upd {vo:AV} {l:List UInt8} {x:Option AM.Obj} (h:OuV t H oa vo l) (hne:∀ a,oa = some a→a ≠ o):OuV t (AM.upd H o x) oa vo l:=by
 cases oa with
 | none=>exact h
 | some a =>
  obtain ⟨g,τ,ob,h1,h2,h3,h4⟩:=h
  exact ⟨g,τ,ob,h1,h2,zF h3 (Ne.symm (hne a rfl)),h4⟩
theorem IrV.set {s':Is} {vo:AV} {τ1 τ:Nat} (hne:∀ a,oa = some a→a ≠ o) (h1:τ1 = 0∨τ1 = t) (h2:τ = 0∨τ = t) (ho:o < H.length) (hv:OuV t H oa vo s'.o):IrV c b mo t (AM.upd H o (some (Am c b mo s' vo τ1 τ))) o oa s' :=
 ⟨⟨vo,τ1,τ,h1,h2,by unfold AM.upd;rw [List.getElem?_set_self ho],hv.upd hne⟩,hne⟩
theorem IrV.lt (h:IrV c b mo t H o oa s):o < H.length∧∀ a,oa = some a→a < H.length:=by
 obtain ⟨⟨vo,τ1,τ,_,_,h0,ho⟩,_⟩:=h
 refine ⟨eY h0,fun a ha=>?_⟩
 subst ha
 obtain ⟨g,τ,ob,_,_,h3,_⟩:=ho
 exact eY h3
theorem IrV.keep {H':AM.Heap} (h:IrV c b mo t H o oa s) (h1:H'[o]? = H[o]?) (h2:∀ a,oa = some a→H'[a]? = H[a]?):IrV c b mo t H' o oa s:=by
 obtain ⟨⟨vo,τ1,τ,a1,a2,h0,ho⟩,hne⟩:=h
 refine ⟨⟨vo,τ1,τ,a1,a2,by rw [h1];exact h0,?_⟩,hne⟩
 cases oa with
 | none=>exact ho
 | some a =>
  obtain ⟨g,τ,ob,b1,b2,b3,b4⟩:=ho
  exact ⟨g,τ,ob,b1,b2,by rw [h2 a rfl];exact b3,b4⟩
theorem IrV.cat {r:AM.Heap} (h:IrV c b mo t H o oa s):IrV c b mo t (H ++ r) o oa s:=h.keep (List.getElem?_append_left h.lt.1) fun a ha=>List.getElem?_append_left (h.lt.2 a ha)
theorem IrV.other {j:Nat} {x:Option AM.Obj} (h:IrV c b mo t H o oa s) (h1:j ≠ o) (h2:∀ a,oa = some a→j ≠ a):IrV c b mo t (AM.upd H j x) o oa s :=
 h.keep (by unfold AM.upd;rw [List.getElem?_set_ne h1]) fun a ha=>by unfold AM.upd;rw [List.getElem?_set_ne (h2 a ha)]
theorem OuV.app {vo:AV} {l:List UInt8} (y:UInt8) (h:OuV t H oa vo l) (hH:0 < H.length) (hne:∀ a,oa = some a→a ≠ 0) (hl:l.length≤10000000):∃ v' H' oa',bD X H 22 vo (.ro 1 (.pb [y]) 0) = some (v',H')∧OuV t H' oa' v' (l ++ [y])∧Kpt H H' 0 oa oa'∧H'[0]? = H[0]?∧(∀ a,oa' = some a→a ≠ 0):=by
 cases oa with
 | none =>
  obtain ⟨rfl,τ,hτ,rfl⟩:=h
  have hat:(H ++ [some (⟨.pb [y],0,none,0,true,false,0⟩:AM.Obj)])[H.length]? = some (some ⟨.pb [y],0,none,0,true,false,0⟩):=by simp
  refine ⟨.sl H.length 0 1 0,H ++ [some ⟨.pb [y],0,none,0,true,false,0⟩],some H.length,?_,⟨0,0,_,.inl rfl,rfl,hat,⟨rfl,rfl,rfl,rfl,rfl⟩⟩,⟨by simp,fun a h=>(by cases h),fun a _ h=>(by cases h;exact Nat.le_refl _),fun j hj _ _=>List.getElem?_append_left hj⟩,List.getElem?_append_left hH,fun a h=>by cases h;omega⟩
  simp only [bD,kK,kL,qC]
  simp [gU,jF,ah,kM,fK,og,bJ,aK]
 | some a =>
  obtain ⟨g,τ,ob,hτ,rfl,ho,hw⟩:=h
  obtain ⟨ob',w1,w2⟩:=BA (C:=X) (T:=22) (e:=5) (src:=.ro 1 (.pb [y]) 0) (m:=[y]) kK rV kL bytes5 qC ho hw (.inl (by simp [gU,jF,kM])) (by simp;omega)
  refine ⟨_,_,some a,w2,⟨g + 1,τ,ob',hτ,by simp,setAt ho,w1⟩,⟨by simp [AM.upd],fun a' h=>h,fun a' h=>(by cases h),fun j hj h0 hja=>by unfold AM.upd;rw [List.getElem?_set_ne (Ne.symm (hja a rfl))]⟩,by unfold AM.upd;rw [List.getElem?_set_ne (hne a rfl)],hne⟩
end
end Go.Proofs.Ytbodincpjijdiaa
namespace Go.Proofs.Ytbodincpjijdiaa
open Go.AM
section
variable {c:Nat} {b:List UInt8} {mo:Int} {t:Nat} {H:AM.Heap} {o:Nat} {oa:Option Nat} {s:Is}
end
end Go.Proofs.Ytbodincpjijdiaa
namespace Go.Proofs.Ytbodincpjijdiaa
open Go.AM
end Go.Proofs.Ytbodincpjijdiaa
namespace Go.Proofs.Ytbodincpjijdiaa
open Go.AM
end Go.Proofs.Ytbodincpjijdiaa
namespace Go.Proofs.Ytbodincpjijdiaa
open Go.AM
end Go.Proofs.Ytbodincpjijdiaa
namespace Go.Proofs.Ytbodincpjijdiaa
open Go.AM
end Go.Proofs.Ytbodincpjijdiaa
namespace Go.Proofs.Ytbodincpjijdiaa
open Go.AM
end Go.Proofs.Ytbodincpjijdiaa
namespace Go.Proofs.Ytbodincpjijdiaa
open Go.AM
section
variable {c:Nat} {b:List UInt8} {a m:Int} {n f l:List Int} {t tb tn:Nat} {pre:AM.Heap}
end
end Go.Proofs.Ytbodincpjijdiaa
namespace Go.Proofs.Ytbodincpjijdiaa
open Go.AM
section
variable {c:Nat} {b:List UInt8} {a m:Int} {n f l:List Int} {t tb tn:Nat} {pre:AM.Heap}
end
end Go.Proofs.Ytbodincpjijdiaa
namespace Go.Proofs.Ytbodincpjijdiaa
open Go.AM
section
variable {c:Nat} {b:List UInt8} {a m:Int} {n f l:List Int} {t tn:Nat} {pre:AM.Heap}
end
end Go.Proofs.Ytbodincpjijdiaa
namespace Go.Proofs.Ytbodincpjijdiaa
open Go.AM
section
variable {c:Nat} {b:List UInt8} {m:Int} {n f l:List Int} {t tn:Nat} {pre:AM.Heap}
end
end Go.Proofs.Ytbodincpjijdiaa
namespace Go.Proofs.Ytbodincpjijdiaa
open Go.AM
end Go.Proofs.Ytbodincpjijdiaa
namespace Go.Proofs.Ytbodincpjijdiaa
open Go.AM
end Go.Proofs.Ytbodincpjijdiaa
namespace Go.Proofs.Ytbodincpjijdiaa
open Go.AM
end Go.Proofs.Ytbodincpjijdiaa
namespace Go.Proofs.Ytbodincpjijdiaa
open Go.AM
section
variable {c:Nat} {b:List UInt8} {mo:Int} {t:Nat} {H:AM.Heap} {o:Nat} {oa:Option Nat} {s:Is}
end
end Go.Proofs.Ytbodincpjijdiaa
namespace Go.Proofs.Ytbodincpjijdiaa
open Go.AM
theorem Vo {T e:Nat} {H:AM.Heap} (hT:und X T = .slice e) (hs:sizeT X e = 1) (hb:bf X e = 8) (hz:bC X e = true) {o g t:Nat} {ob:AM.Obj} {l:List Int} {y:Int}
  (ho:H[o]? = some (some ob)) (h:RwT (.pi .i64 l) g t ob) (hn:l.length≤10000000) :
  ∃ ob',RwT (.pi .i64 (l ++ [y])) (g + 1) t ob'∧bD X H T (.sl o 0 l.length g) (.ro 1 (.pi .i64 [y]) 0) = some (.sl o 0 (l.length + 1) (g + 1),upd H o (some ob')):=by
 have hlive:live H o g = some ob:=by simp [live,ho,h.g]
 have hroom:fK X e (l.length + 1) = true:=by simp [fK,hb];omega
 have hj:fA t 0 = some t:=by
  unfold fA
  by_cases h0:t = 0
  ·rw [if_pos h0,h0]
  ·rw [if_neg h0,if_pos (.inl rfl)]
 have hsrc:gU H (.ro 1 (.pi .i64 [y]) 0) = some (.pi .i64 [y],0):=by simp [gU,jF,kM]
 refine ⟨{ ob with p:=.pi .i64 (l ++ [y]),g:=g + 1,cap:=(match ob.cap with | some c=>if 0 + l.length + AM.ah (.pi .i64 [y])≤c then some (c - 0) else none | none=>none),z:=(if AM.ah ob.p = 0 then ob.z else 1),tg:=t },⟨rfl,rfl,h.row,h.ids,rfl⟩,?_⟩
 unfold bD
 simp only [hT,hs,hz,hsrc,hlive,h.row,h.ids,h.p,h.tg]
 simp only [show ¬ ((1:Nat) = 0∨true = false) by simp,if_false]
 have hc:True∧True∧0 + l.length = AM.ah (.pi .i64 l)∧aK (.pi .i64 l) = 1∧fK X e (l.length + AM.ah (.pi .i64 [y])) = true:=⟨trivial,trivial,by simp [AM.ah],rfl,by simpa [AM.ah] using hroom⟩
 rw [if_pos hc]
 simp only [iw,Nat.zero_add,Nat.le_refl,if_true,List.drop_zero,List.take_length,og,hj,aK]
 simp [AM.ah]
 rfl
def LsV (t:Nat) (H:AM.Heap) (la:Option Nat) (lv:AV) (l:List Int):Prop:=match la with
 | none=>l = []∧∃ τ,(τ = 0∨τ = t)∧lv = .ro 0 .pn τ
 | some a=>∃ g τ ob,(τ = 0∨τ = t)∧lv = .sl a 0 l.length g∧H[a]? = some (some ob)∧RwT (.pi .i64 l) g τ ob
def bxO (v:AV) (τ:Nat):AM.Obj:=⟨.pc [v],0,some 1,1,false,true,τ⟩
structure AgV (c:Nat) (b:List UInt8) (mo n:Int) (t:Nat) (H:AM.Heap) (lb nb rb o:Nat) (la oa:Option Nat) (acc:List Int) (s:Is):Prop where
 l:∃ lv τ,(τ = 0∨τ = t)∧H[lb]? = some (some (bxO lv τ))∧LsV t H la lv acc
 n:∃ τ,(τ = 0∨τ = t)∧H[nb]? = some (some (bxO (.int .i64 n) τ))
 r:∃ τ,(τ = 0∨τ = t)∧H[rb]? = some (some (bxO (.ptr o 0 0 0) τ))
 d:IrV c b mo t H o oa s
 nd:([lb,nb,rb,o] ++ la.toList ++ oa.toList).Nodup
structure AgS (c:Nat) (b:List UInt8) (mo n:Int) (S:List AM.Obj) (lb nb rb o:Nat) (la oa:Option Nat) (acc:List Int) (s:Is):Prop where
 l:S[lb]? = some (bxO (match la with | none=>.ro 0 .pn 0 | some a=>.sl a 0 acc.length 0) 0)
 pl:match la with | none=>acc = [] | some a=>S[a]? = some ⟨.pi .i64 acc,0,none,0,true,false,0⟩
 n:S[nb]? = some (bxO (.int .i64 n) 0)
 r:S[rb]? = some (bxO (.ptr o 0 0 0) 0)
 d:S[o]? = some (Am c b mo s (match oa with | none=>.ro 0 .pn 0 | some a=>.sl a 0 s.o.length 0) 0 0)
 po:match oa with | none=>s.o = [] | some a=>S[a]? = some ⟨.pb s.o,0,none,0,true,false,0⟩
 nd:([lb,nb,rb,o] ++ la.toList ++ oa.toList).Nodup
section
variable {c:Nat} {b:List UInt8} {mo n:Int} {t:Nat} {H:AM.Heap} {lb nb rb o:Nat} {la oa:Option Nat} {acc:List Int} {s:Is} {π:List (Nat × Nat)} {S:List AM.Obj}
theorem Img.bx1 (h:Img t H π S) {k:Nat} {v:AV} (hk:S[k]? = some (bxO v 0)):π[k]? = some (sg π k,0)∧∃ x τ,(τ = 0∨τ = t)∧H[sg π k]? = some (some (bxO x τ))∧ren idN tz x = ren (jI π) tz v∧∀ u ∈ tags x,u = 0∨u = t:=by
 obtain ⟨o,g,ob,h1,h2,h3⟩:=h.ob k _ hk
 obtain ⟨rfl,p,τ,rfl,hτ,hp,ht⟩:=Like.box h3
 have hs:=kD h1
 rw [hs]
 simp only [ren,bZ] at hp
 obtain ⟨l1,rfl,k1⟩:=xK hp
 obtain ⟨x,l2,rfl,e1,k2⟩:=gu k1
 obtain rfl:=oH k2
 exact ⟨h1,x,τ,hτ,h2,e1,fun u hu=>ht u (by simpa [tags,bQ] using hu)⟩
theorem Tv (h:Img t H π S) {l:List Nat} (hn:l.Nodup) (hl:∀ x ∈ l,x < S.length):(l.map (sg π)).Nodup:=by
 rw [List.nodup_iff_pairwise_ne,List.pairwise_map]
 refine List.Pairwise.imp_of_mem ?_ (List.nodup_iff_pairwise_ne.1 hn)
 intro a b ha hb hne e
 exact hne (h.Gz (hl a ha) (hl b hb) e)
theorem AgV.xg (h:Img t H π S) (hs:AgS c b mo n S lb nb rb o la oa acc s):AgV c b mo n t H (sg π lb) (sg π nb) (sg π rb) (sg π o) (la.map (sg π)) (oa.map (sg π)) acc s:=by
 have hlt:∀ {k:Nat} {x:AM.Obj},S[k]? = some x→k < S.length:=fun h=>eY h
 have hnd:(([lb,nb,rb,o] ++ la.toList ++ oa.toList).map (sg π)).Nodup:=by
  refine Tv h hs.nd ?_
  intro x hx
  simp only [List.mem_append,List.mem_cons,List.not_mem_nil,or_false] at hx
  rcases hx with ((rfl | rfl | rfl | rfl) | hx) | hx
  ·exact hlt hs.l
  ·exact hlt hs.n
  ·exact hlt hs.r
  ·exact hlt hs.d
  ·cases la with
   | none=>simp at hx
   | some a=>simp at hx;subst hx;exact hlt hs.pl
  ·cases oa with
   | none=>simp at hx
   | some a=>simp at hx;subst hx;exact hlt hs.po
 have akb:([sg π lb,sg π nb,sg π rb,sg π o] ++ (la.map (sg π)).toList ++ (oa.map (sg π)).toList).Nodup:=by
  cases la <;> cases oa <;> simpa using hnd
 refine ⟨?_,?_,?_,⟨?_,?_⟩,akb⟩
 ·obtain ⟨_,x,τ,hτ,hb,hx,ht⟩:=Img.bx1 h hs.l
  refine ⟨x,τ,hτ,hb,?_⟩
  have hla:=hs.pl
  cases la with
  | none =>
   simp only [ren] at hx
   obtain ⟨τ2,rfl⟩:=xJ hx
   exact ⟨hla,τ2,ht τ2 (by simp [tags]),rfl⟩
  | some a =>
   obtain ⟨o2,g2,ob,p1,p2,p3⟩:=h.ob a _ hla
   simp only [ren,jI,p1] at hx
   obtain rfl:=CS hx
   obtain ⟨q1,q2⟩:=Like.row' p3 rfl
   exact ⟨g2,ob.tg,ob,q2,by rw [kD p1],by rw [kD p1];exact p2,q1⟩
 ·obtain ⟨_,x,τ,hτ,hb,hx,ht⟩:=Img.bx1 h hs.n
  simp only [ren] at hx
  obtain rfl:=ql hx
  exact ⟨τ,hτ,hb⟩
 ·obtain ⟨_,x,τ,hτ,hb,hx,ht⟩:=Img.bx1 h hs.r
  obtain ⟨o2,g2,ob,p1,p2,p3⟩:=h.ob o _ hs.d
  have hg:=(p3.bx rfl).2.2
  subst hg
  simp only [ren,jI,p1] at hx
  obtain rfl:=Ux hx
  exact ⟨τ,hτ,by rw [kD p1];exact hb⟩
 ·obtain ⟨o2,g2,ob,p1,p2,p3⟩:=h.ob o _ hs.d
  rw [kD p1]
  obtain ⟨rfl,p,τ,rfl,hτ,hp,ht⟩:=Like.box p3
  simp only [ren,bZ] at hp
  obtain ⟨l1,rfl,k1⟩:=xK hp
  obtain ⟨x1,l2,rfl,e1,k2⟩:=gu k1
  obtain ⟨x2,l3,rfl,e2,k3⟩:=gu k2
  obtain ⟨x3,l4,rfl,e3,k4⟩:=gu k3
  obtain ⟨x4,l5,rfl,e4,k5⟩:=gu k4
  obtain ⟨x5,l6,rfl,e5,k6⟩:=gu k5
  obtain rfl:=oH k6
  obtain ⟨τ1,rfl⟩:=xJ e1
  obtain rfl:=ql e2
  obtain rfl:=ql e4
  obtain rfl:=ql e5
  have hτ1:τ1 = 0∨τ1 = t:=ht τ1 (by simp [tags,bQ])
  refine ⟨x3,τ1,τ,hτ1,hτ,p2,?_⟩
  have hoa:=hs.po
  cases oa with
  | none =>
   simp only [ren] at e3
   obtain ⟨τ2,rfl⟩:=xJ e3
   exact ⟨hoa,τ2,ht τ2 (by simp [tags,bQ]),rfl⟩
  | some a =>
   obtain ⟨o3,g3,ob3,r1,r2,r3⟩:=h.ob a _ hoa
   simp only [ren,jI,r1] at e3
   obtain rfl:=CS e3
   obtain ⟨q1,q2⟩:=Like.row' r3 rfl
   exact ⟨g3,ob3.tg,ob3,q2,by rw [kD r1],by rw [kD r1];exact r2,q1⟩
 ·intro a ha
  cases oa with
  | none=>cases ha
  | some a' =>
   simp only [Option.map_some,Option.some.injEq] at ha
   subst ha
   intro e
   have:=h.Gz (hlt hs.po) (hlt hs.d) e
   subst this
   have hn:=hs.nd
   cases la <;> simp at hn
end
end Go.Proofs.Ytbodincpjijdiaa
namespace Go.Proofs.Ytbodincpjijdiaa
open Go.AM
section
variable {c:Nat} {b:List UInt8} {mo n:Int} {t:Nat} {H:AM.Heap} {lb nb rb o:Nat} {la oa:Option Nat} {acc:List Int} {s:Is}
theorem AgV.ne (h:AgV c b mo n t H lb nb rb o la oa acc s):lb ≠ nb∧lb ≠ rb∧lb ≠ o∧nb ≠ rb∧nb ≠ o∧rb ≠ o∧(∀ a,la = some a→lb ≠ a∧nb ≠ a∧rb ≠ a∧o ≠ a∧∀ x,oa = some x→a ≠ x)∧(∀ a,oa = some a→lb ≠ a∧nb ≠ a∧rb ≠ a∧o ≠ a):=by
 have hn:=h.nd
 refine ⟨?_,?_,?_,?_,?_,?_,?_,?_⟩
 ·intro e;subst e;simp at hn
 ·intro e;subst e;simp at hn
 ·intro e;subst e;simp at hn
 ·intro e;subst e;simp at hn
 ·intro e;subst e;simp at hn
 ·intro e;subst e;simp at hn
 ·intro a ha
  subst ha
  refine ⟨?_,?_,?_,?_,?_⟩
  ·intro e;subst e;simp at hn
  ·intro e;subst e;simp at hn
  ·intro e;subst e;simp at hn
  ·intro e;subst e;simp at hn
  ·intro x hx e
   subst hx e
   simp at hn
 ·intro a ha
  subst ha
  refine ⟨?_,?_,?_,?_⟩
  ·intro e;subst e;simp at hn
  ·intro e;subst e;simp at hn
  ·intro e;subst e;simp at hn
  ·intro e;subst e;simp at hn
theorem LsV.at' {lv:AV} (h:LsV t H la lv acc):∀ a,la = some a→a < H.length:=by
 intro a ha
 subst ha
 obtain ⟨g,τ,ob,_,_,h3,_⟩:=h
 exact eY h3
theorem LsV.keep {H':AM.Heap} {lv:AV} (h:LsV t H la lv acc) (hk:∀ a,la = some a→H'[a]? = H[a]?):LsV t H' la lv acc:=by
 cases la with
 | none=>exact h
 | some a =>
  obtain ⟨g,τ,ob,h1,h2,h3,h4⟩:=h
  exact ⟨g,τ,ob,h1,h2,by rw [hk a rfl];exact h3,h4⟩
theorem AgV.lt (h:AgV c b mo n t H lb nb rb o la oa acc s):lb < H.length∧nb < H.length∧rb < H.length∧o < H.length∧(∀ a,la = some a→a < H.length)∧(∀ a,oa = some a→a < H.length):=by
 obtain ⟨lv,τ,_,hb,hl⟩:=h.l
 obtain ⟨τ2,_,hb2⟩:=h.n
 obtain ⟨τ3,_,hb3⟩:=h.r
 exact ⟨eY hb,eY hb2,eY hb3,h.d.lt.1,hl.at',h.d.lt.2⟩
theorem AgV.reader {H':AM.Heap} {oa':Option Nat} {s':Is} (h:AgV c b mo n t H lb nb rb o la oa acc s) (hV:IrV c b mo t H' o oa' s') (hk:Kpt H H' o oa oa'):AgV c b mo n t H' lb nb rb o la oa' acc s':=by
 obtain ⟨n1,n2,n3,n4,n5,n6,n7,n8⟩:=h.ne
 obtain ⟨l1,l2,l3,l4,l5,l6⟩:=h.lt
 have k1:=hk.rest lb l1 n3 (fun a ha=>(n8 a ha).1)
 have k2:=hk.rest nb l2 n5 (fun a ha=>(n8 a ha).2.1)
 have k3:=hk.rest rb l3 n6 (fun a ha=>(n8 a ha).2.2.1)
 have k4:∀ a,la = some a→H'[a]? = H[a]?:=fun a ha=>hk.rest a (l5 a ha) (Ne.symm (n7 a ha).2.2.2.1) (fun x hx=>(n7 a ha).2.2.2.2 x hx)
 refine ⟨?_,?_,?_,hV,?_⟩
 ·obtain ⟨lv,τ,h1,h2,h3⟩:=h.l
  exact ⟨lv,τ,h1,by rw [k1];exact h2,h3.keep k4⟩
 ·obtain ⟨τ,h1,h2⟩:=h.n
  exact ⟨τ,h1,by rw [k2];exact h2⟩
 ·obtain ⟨τ,h1,h2⟩:=h.r
  exact ⟨τ,h1,by rw [k3];exact h2⟩
 ·cases ho:oa with
  | some a =>
   have:=hk.same a ho
   rw [this,← ho]
   exact h.nd
  | none =>
   cases ho':oa' with
   | none=>rw [← ho];exact h.nd
   | some a =>
    have hg:=hk.new a ho ho'
    have hn:=h.nd
    rw [ho] at hn
    simp only [Option.toList_none,List.append_nil] at hn
    rw [List.nodup_append]
    refine ⟨hn,by simp,?_⟩
    intro x hx y hy
    simp only [Option.toList_some,List.mem_singleton] at hy
    subst hy
    simp only [List.mem_append,List.mem_cons,List.not_mem_nil,or_false] at hx
    rcases hx with (rfl | rfl | rfl | rfl) | hx
    ·omega
    ·omega
    ·omega
    ·omega
    ·cases la with
     | none=>simp at hx
     | some z=>simp at hx;subst hx;have:=l5 _ rfl;omega
theorem LsV.app {lv:AV} (y:Int) (h:LsV t H la lv acc) (hl:acc.length≤1000000):∃ lv' H' la',bD X H 36 lv (.ro 1 (.pi .i64 [y]) 0) = some (lv',H')∧LsV t H' la' lv' (acc ++ [y])∧(∀ a,la = some a→la' = some a)∧(la = none→la' = some H.length)∧H.length≤H'.length ∧
  (∀ j,j < H.length→(∀ a,la = some a→j ≠ a)→H'[j]? = H[j]?)∧∃ a g,lv' = .sl a 0 (acc ++ [y]).length g:=by
 cases la with
 | none =>
  obtain ⟨rfl,τ,hτ,rfl⟩:=h
  have hat:(H ++ [some (⟨.pi .i64 [y],0,none,0,true,false,0⟩:AM.Obj)])[H.length]? = some (some ⟨.pi .i64 [y],0,none,0,true,false,0⟩):=by simp
  refine ⟨.sl H.length 0 1 0,H ++ [some ⟨.pi .i64 [y],0,none,0,true,false,0⟩],some H.length,?_,⟨0,0,_,.inl rfl,rfl,hat,⟨rfl,rfl,rfl,rfl,rfl⟩⟩,fun a h=>(by cases h),fun _=>rfl,by simp,fun j hj _=>List.getElem?_append_left hj,_,_,rfl⟩
  simp only [bD,Ny,size3,Uk]
  simp [gU,jF,ah,kM,fK,og,bJ,aK]
 | some a =>
  obtain ⟨g,τ,ob,hτ,rfl,ho,hw⟩:=h
  obtain ⟨ob',w1,w2⟩:=Vo (y:=y) (T:=36) (e:=3) Ny size3 bytes3 Uk ho hw (by omega)
  refine ⟨_,_,some a,w2,⟨g + 1,τ,ob',hτ,by simp,setAt ho,w1⟩,fun a' h=>h,fun h=>(by cases h),by simp [AM.upd],fun j hj hja=>by unfold AM.upd;rw [List.getElem?_set_ne (Ne.symm (hja a rfl))],a,g + 1,by simp⟩
end
end Go.Proofs.Ytbodincpjijdiaa
namespace Go.Proofs.Ytbodincpjijdiaa
open Go.AM
section
variable {c:Nat} {b:List UInt8} {mo n:Int} {t:Nat} {H:AM.Heap} {lb nb rb o:Nat} {la oa:Option Nat} {acc:List Int} {s:Is}
end
end Go.Proofs.Ytbodincpjijdiaa
namespace Go.Proofs.Ytbodincpjijdiaa
open Go.AM
def Cnt (b:List UInt8) (mo:Int) {α β:Type} (m:PM α) (d:α) (s1:Is) (m0:PM β) (d0:β) (s:Is) (f:α→β):Prop:=∀ s2 y,oK b mo m d s1 s2 y→oK b mo m0 d0 s s2 (f y)
theorem Cnt.step {b:List UInt8} {mo:Int} {α β γ:Type} {m:PM γ} {k:γ→PM α} {d:α} {s1 s2:Is} {m0:PM β} {d0:β} {s:Is} {f:α→β} {dx x:γ} (h:Cnt b mo (iD m k) d s1 m0 d0 s f) (h2:oK b mo m dx s1 s2 x):Cnt b mo (k x) d s2 m0 d0 s f:=fun _ _ h3=>h _ _ (h2.bnd h3)
section
variable {c:Nat} {b:List UInt8} {mo:Int} {t:Nat} {H:AM.Heap} {o:Nat} {oa:Option Nat} {s:Is}
end
end Go.Proofs.Ytbodincpjijdiaa
namespace Go.Proofs.Ytbodincpjijdiaa
open Go.AM
section
variable {c:Nat} {b:List UInt8} {mo:Int} {t:Nat} {H:AM.Heap} {o:Nat} {oa:Option Nat} {s:Is}
theorem IrV.reach (h:IrV c b mo t H o oa s):AM.reach H aG [o] [] = o :: oa.toList:=by
 obtain ⟨⟨vo,τ1,τ,_,_,h0,ho⟩,hne⟩:=h
 cases oa with
 | none =>
  obtain ⟨_,τ2,_,rfl⟩:=ho
  exact lF h0 (by simp [Am,ids,aJ])
 | some a =>
  obtain ⟨g,τ2,ob,_,rfl,h3,h4⟩:=ho
  have hi:=h4.ids
  have hne':=hne a rfl
  show AM.reach _ (99996 + 1 + 1 + 1 + 1) [o] [] = [o,a]
  simp [AM.reach,h0,h3,Am,ids,aJ,hi,hne']
theorem IrV.off {j:Nat} (h:∀ a,oa = some a→j ≠ a) (h0:j ≠ o):j ∉ o :: oa.toList:=by
 intro hm
 rcases List.mem_cons.1 hm with h1 | h1
 ·exact h0 h1
 ·exact h j (by simpa using h1) rfl
end
end Go.Proofs.Ytbodincpjijdiaa
namespace Go.Proofs.Ytbodincpjijdiaa
open Go.AM
section
variable {c:Nat} {b:List UInt8} {mo:Int} {t:Nat} {H:AM.Heap} {o:Nat} {oa:Option Nat} {s:Is}
end
end Go.Proofs.Ytbodincpjijdiaa
namespace Go.Proofs.Ytbodincpjijdiaa
open Go.AM
section
variable {c:Nat} {b:List UInt8} {mo:Int} {t:Nat} {H:AM.Heap} {o:Nat} {oa:Option Nat} {s:Is}
end
end Go.Proofs.Ytbodincpjijdiaa
namespace Go.Proofs.Ytbodincpjijdiaa
open Go.AM
section
variable {c:Nat} {b:List UInt8} {mo:Int} {t:Nat} {H:AM.Heap} {o:Nat} {oa:Option Nat} {s:Is}
end
end Go.Proofs.Ytbodincpjijdiaa
namespace Go.Proofs.Ytbodincpjijdiaa
open Go.AM
def wJ (b:List UInt8) (mo:Int) {α:Type} (m:PM α) (s s':Is) (a:α):Prop :=
 Ky b mo s'∧if s.e = 0 then (match m s.k s.o with
  | .ok x k o=>s' = ⟨k,o,0⟩∧a = x
  | .err e=>s'.e = e∧e ≠ 0) else s' = s
section
variable {b:List UInt8} {mo:Int} {α β γ:Type} {s s1 s2:Is}
theorem wJ.bnd {m:PM α} {f:α→PM β} {x:α} {y:β} (h:wJ b mo m s s1 x) (h2:wJ b mo (f x) s1 s2 y):wJ b mo (iD m f) s s2 y:=by
 refine ⟨h2.1,?_⟩
 have h1:=h.2
 have h3:=h2.2
 by_cases he:s.e = 0
 ·rw [if_pos he] at h1 ⊢
  unfold iD
  cases hm:m s.k s.o with
  | ok a k o =>
   rw [hm] at h1
   obtain ⟨rfl,rfl⟩:=h1
   simpa using h3
  | err e =>
   rw [hm] at h1
   obtain ⟨h4,h5⟩:=h1
   rw [if_neg (by rw [h4];exact h5)] at h3
   rw [h3]
   exact ⟨h4,h5⟩
 ·rw [if_neg he] at h1 ⊢
  rw [h1] at h3
  rw [if_neg he] at h3
  exact h3
theorem wJ.stop {m:PM α} {x:α} (hs:Ky b mo s) (he:s.e ≠ 0):wJ b mo m s s x:=⟨hs,by rw [if_neg he]⟩
theorem wJ.fine {m:PM α} {x:α} (h:wJ b mo m s s1 x) (he:s1.e = 0):s.e = 0∧m s.k s.o = .ok x s1.k s1.o:=by
 have h1:=h.2
 by_cases h0:s.e = 0
 ·rw [if_pos h0] at h1
  cases hm:m s.k s.o with
  | ok a k o =>
   rw [hm] at h1
   obtain ⟨rfl,rfl⟩:=h1
   exact ⟨h0,rfl⟩
  | err e =>
   rw [hm] at h1
   exact absurd (h1.1.symm.trans he) h1.2
 ·rw [if_neg h0] at h1
  exact absurd (h1 ▸ he) h0
theorem wJ.any {m:PM α} {x y:α} (h:wJ b mo m s s1 x) (he:s1.e ≠ 0):wJ b mo m s s1 y:=by
 refine ⟨h.1,?_⟩
 have h1:=h.2
 by_cases h0:s.e = 0
 ·rw [if_pos h0] at h1 ⊢
  cases hm:m s.k s.o with
  | ok a k o =>
   rw [hm] at h1
   obtain ⟨rfl,rfl⟩:=h1
   exact absurd rfl he
  | err e=>rw [hm] at h1;exact h1
 ·rw [if_neg h0] at h1 ⊢;exact h1
end
section
variable {c:Nat} {b:List UInt8} {mo:Int} {N t:Nat} {H:AM.Heap} {lb nb rb:Nat} {la oa:Option Nat} {acc:List Int} {s:Is}
def aby (cl:Nat) (L:List Int) (rb nb lb:Nat):AM.Frame:=[(1,.ro cl (.pi .i64 L) 2),(3,.ptr rb 0 0 0),(5,.ptr nb 0 0 0),(7,.ptr lb 0 0 0),(8,.fn 92 [.ptr lb 0 0 0,.ptr nb 0 0 0,.ptr rb 0 0 0])]
end
end Go.Proofs.Ytbodincpjijdiaa
namespace Go.Proofs.Ytbodincpjijdiaa
open Go.AM
section
variable {c:Nat} {b:List UInt8} {mo:Int} {N t:Nat} {H:AM.Heap} {lb nb rb:Nat} {la oa:Option Nat} {acc:List Int} {s:Is}
def LeF (cl:Nat) (L:List Int) (rb nb lb:Nat) (fr:AM.Frame):Prop:=au fr 1 = .ro cl (.pi .i64 L) 2∧au fr 3 = .ptr rb 0 0 0∧au fr 5 = .ptr nb 0 0 0∧au fr 7 = .ptr lb 0 0 0∧au fr 8 = .fn 92 [.ptr lb 0 0 0,.ptr nb 0 0 0,.ptr rb 0 0 0]
theorem LeF.of {cl:Nat} {L:List Int} {fr:AM.Frame} (h:bY [1,3,5,7,8] fr = aby cl L rb nb lb):LeF cl L rb nb lb fr:=by
 simpa [bY,aby,LeF] using h
end
end Go.Proofs.Ytbodincpjijdiaa
