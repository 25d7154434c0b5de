/- IN to IK: texts of this claim, one behind the other; what each shows stands at its head. -/
import Derived.Test.YtbodincpjijdiaaAm4
import Derived.Test.YtbodincpjijdiaaMg7
set_option linter.unusedSimpArgs false
set_option linter.unusedVariables false
set_option maxRecDepth 100000
set_option maxHeartbeats 8000000
namespace Go.Proofs.Ytbodincpjijdiaa
open Go.AM
section
variable {c:Nat} {b:List UInt8} {mo n:Int} {t:Nat} {H:AM.Heap} {lb nb rb o:Nat} {la oa:Option Nat} {acc:List Int} {s:Is}
theorem AgV.ne (h:AgV c b mo n t H lb nb rb o la oa acc s):lb ≠ nb∧lb ≠ rb∧lb ≠ o∧nb ≠ rb∧nb ≠ o∧rb ≠ o∧(∀ a,la = some a→lb ≠ a∧nb ≠ a∧rb ≠ a∧o ≠ a∧∀ x,oa = some x→a ≠ x)∧(∀ a,oa = some a→lb ≠ a∧nb ≠ a∧rb ≠ a∧o ≠ a):=by
 have hn:=h.nd
 refine ⟨?_,?_,?_,?_,?_,?_,?_,?_⟩
 ·intro e;subst e;simp at hn
 ·intro e;subst e;simp at hn
 ·intro e;subst e;simp at hn
 ·intro e;subst e;simp at hn
 ·intro e;subst e;simp at hn
 ·intro e;subst e;simp at hn
 ·intro a ha
  subst ha
  refine ⟨?_,?_,?_,?_,?_⟩
  ·intro e;subst e;simp at hn
  ·intro e;subst e;simp at hn
  ·intro e;subst e;simp at hn
  ·intro e;subst e;simp at hn
  ·intro x hx e
   subst hx e
   simp at hn
 ·intro a ha
  subst ha
  refine ⟨?_,?_,?_,?_⟩
  ·intro e;subst e;simp at hn
  ·intro e;subst e;simp at hn
  ·intro e;subst e;simp at hn
  ·intro e;subst e;simp at hn
theorem LsV.at' {lv:AV} (h:LsV t H la lv acc):∀ a,la = some a→a < H.length:=by
 intro a ha
 subst ha
 obtain ⟨g,τ,ob,_,_,h3,_⟩:=h
 exact dR h3
theorem LsV.keep {H':AM.Heap} {lv:AV} (h:LsV t H la lv acc) (hk:∀ a,la = some a→H'[a]? = H[a]?):LsV t H' la lv acc:=by
 cases la with
 | none=>exact h
 | some a =>
  obtain ⟨g,τ,ob,h1,h2,h3,h4⟩:=h
  exact ⟨g,τ,ob,h1,h2,by rw [hk a rfl];exact h3,h4⟩
theorem AgV.lt (h:AgV c b mo n t H lb nb rb o la oa acc s):lb < H.length∧nb < H.length∧rb < H.length∧o < H.length∧(∀ a,la = some a→a < H.length)∧(∀ a,oa = some a→a < H.length):=by
 obtain ⟨lv,τ,_,hb,hl⟩:=h.l
 obtain ⟨τ2,_,hb2⟩:=h.n
 obtain ⟨τ3,_,hb3⟩:=h.r
 exact ⟨dR hb,dR hb2,dR hb3,h.d.lt.1,hl.at',h.d.lt.2⟩
theorem AgV.reader {H':AM.Heap} {oa':Option Nat} {s':Is} (h:AgV c b mo n t H lb nb rb o la oa acc s) (hV:IrV c b mo t H' o oa' s') (hk:Kpt H H' o oa oa'):AgV c b mo n t H' lb nb rb o la oa' acc s':=by
 obtain ⟨n1,n2,n3,n4,n5,n6,n7,n8⟩:=h.ne
 obtain ⟨l1,l2,l3,l4,l5,l6⟩:=h.lt
 have k1:=hk.rest lb l1 n3 (fun a ha=>(n8 a ha).1)
 have k2:=hk.rest nb l2 n5 (fun a ha=>(n8 a ha).2.1)
 have k3:=hk.rest rb l3 n6 (fun a ha=>(n8 a ha).2.2.1)
 have k4:∀ a,la = some a→H'[a]? = H[a]?:=fun a ha=>hk.rest a (l5 a ha) (auf (n7 a ha).2.2.2.1) (fun x hx=>(n7 a ha).2.2.2.2 x hx)
 refine ⟨?_,?_,?_,hV,?_⟩
 ·obtain ⟨lv,τ,h1,h2,h3⟩:=h.l
  exact ⟨lv,τ,h1,by rw [k1];exact h2,h3.keep k4⟩
 ·obtain ⟨τ,h1,h2⟩:=h.n
  exact ⟨τ,h1,by rw [k2];exact h2⟩
 ·obtain ⟨τ,h1,h2⟩:=h.r
  exact ⟨τ,h1,by rw [k3];exact h2⟩
 ·cases ho:oa with
  | some a =>
   have:=hk.same a ho
   rw [this,← ho]
   exact h.nd
  | none =>
   cases ho':oa' with
   | none=>rw [← ho];exact h.nd
   | some a =>
    have hg:=hk.new a ho ho'
    have hn:=h.nd
    rw [ho] at hn
    simp only [Option.toList_none,at1] at hn
    rw [avA]
    refine ⟨hn,by simp,?_⟩
    intro x hx y hy
    simp only [Option.toList_some,at7] at hy
    subst hy
    simp only [atM,atX,avG,or_false] at hx
    rcases hx with (rfl | rfl | rfl | rfl) | hx
    ·omega
    ·omega
    ·omega
    ·omega
    ·cases la with
     | none=>simp at hx
     | some z=>simp at hx;subst hx;have:=l5 _ rfl;omega
theorem LsV.app {lv:AV} (y:Int) (h:LsV t H la lv acc) (hl:acc.length≤1000000):∃ lv' H' la',bH X H 36 lv (.ro 1 (.pi .i64 [y]) 0) = some (lv',H')∧LsV t H' la' lv' (acc ++ [y])∧(∀ a,la = some a→la' = some a)∧(la = none→la' = some H.length)∧H.length≤H'.length ∧
  (∀ j,j < H.length→(∀ a,la = some a→j ≠ a)→H'[j]? = H[j]?)∧∃ a g,lv' = .sl a 0 (acc ++ [y]).length g:=by
 cases la with
 | none =>
  obtain ⟨rfl,τ,hτ,rfl⟩:=h
  have hat:(H ++ [some (⟨.pi .i64 [y],0,none,0,true,false,0⟩:AM.Obj)])[H.length]? = some (some ⟨.pi .i64 [y],0,none,0,true,false,0⟩):=by simp
  refine ⟨.sl H.length 0 1 0,H ++ [some ⟨.pi .i64 [y],0,none,0,true,false,0⟩],some H.length,?_,⟨0,0,_,.inl rfl,rfl,hat,⟨rfl,rfl,rfl,rfl,rfl⟩⟩,fun a h=>(by cases h),fun _=>rfl,by simp,fun j hj _=>atE hj,_,_,rfl⟩
  simp only [bH,Hq,size3,RZ]
  simp [iC,jW,ah,mO,dX,nM,bZ,aO]
 | some a =>
  obtain ⟨g,τ,ob,hτ,rfl,ho,hw⟩:=h
  obtain ⟨ob',w1,w2⟩:=Y7 (y:=y) (T:=36) (e:=3) Hq size3 bytes3 RZ ho hw (by omega)
  refine ⟨_,_,some a,w2,⟨g + 1,τ,ob',hτ,by simp,setAt ho,w1⟩,fun a' h=>h,fun h=>(by cases h),by simp [AM.upd],fun j hj hja=>by unfold AM.upd;rw [atW (auf (hja a rfl))],a,g + 1,by simp⟩
end
section
variable {c:Nat} {b:List UInt8} {mo n:Int} {t:Nat} {H:AM.Heap} {lb nb rb o:Nat} {la oa:Option Nat} {acc:List Int} {s:Is}
end
def Cnt (b:List UInt8) (mo:Int) {α β:Type} (m:PM α) (d:α) (s1:Is) (m0:PM β) (d0:β) (s:Is) (f:α→β):Prop:=∀ s2 y,dJ b mo m d s1 s2 y→dJ b mo m0 d0 s s2 (f y)
theorem Cnt.step {b:List UInt8} {mo:Int} {α β γ:Type} {m:PM γ} {k:γ→PM α} {d:α} {s1 s2:Is} {m0:PM β} {d0:β} {s:Is} {f:α→β} {dx x:γ} (h:Cnt b mo (eP m k) d s1 m0 d0 s f) (h2:dJ b mo m dx s1 s2 x):Cnt b mo (k x) d s2 m0 d0 s f:=fun _ _ h3=>h _ _ (h2.bnd h3)
theorem lY {b:List UInt8} {mo:Int} {n:Nat} {s s':Is} {a:Int} (h:dJ b mo (gQ b n) 0 s s' a) (hs:iW b mo s):0≤a∧a < ((2 ^ n:Nat):Int):=by
 have hp:0 < 2 ^ n:=Nat.pow_pos (by omega)
 by_cases he:s.e = 0
 ·by_cases he2:s'.e = 0
  ·have h1:=(h.fine he2).2
   by_cases hl:s.k + n≤8 * b.length
   ·rw [Ec b s.k s.o n hl] at h1
    obtain ⟨rfl,_⟩:=jm h1
    have:=Jm b s.k n
    omega
   ·rw [EI b s.k s.o hs.1 n (by omega)] at h1
    cases h1
  ·have:=(h.err he he2).2
   subst this
   omega
 ·have:=(h.stopped he).2
  subst this
  omega
theorem aaG {a m:Nat} (ha:a < 65536) (hm:m < 65536):(a ^^^ m = 65535) ↔ a + m = 65535:=by
 have e1:(BitVec.ofNat 16 a).toNat = a:=by simp;omega
 have e2:(BitVec.ofNat 16 m).toNat = m:=by simp;omega
 have e3:(BitVec.ofNat 16 a ^^^ BitVec.ofNat 16 m).toNat = a ^^^ m:=by rw [BitVec.toNat_xor,e1,e2]
 have e4:(~~~ BitVec.ofNat 16 a).toNat = 65535 - a:=by rw [BitVec.toNat_not,e1]
 constructor
 ·intro h
  have h1:BitVec.ofNat 16 a ^^^ BitVec.ofNat 16 m = BitVec.allOnes 16:=BitVec.eq_of_toNat_eq (by rw [e3,h];rfl)
  have h2:BitVec.ofNat 16 m = ~~~ BitVec.ofNat 16 a:=by
   rw [← BitVec.xor_allOnes,← h1,← BitVec.xor_assoc,BitVec.xor_self,BitVec.zero_xor]
  have h3:=congrArg BitVec.toNat h2
  rw [e2,e4] at h3
  omega
 ·intro h
  have h2:BitVec.ofNat 16 m = ~~~ BitVec.ofNat 16 a:=BitVec.eq_of_toNat_eq (by rw [e2,e4];omega)
  rw [← e3,h2,← BitVec.xor_allOnes,← BitVec.xor_assoc,BitVec.xor_self,BitVec.zero_xor]
  rfl
theorem aoI {a m:Nat} (ha:a < 65536) (hm:m < 65536):IntKind.i64.wrap ((AM.bits .i64 (a:Int) ^^^ AM.bits .i64 (m:Int)).toNat:Nat) = ((a ^^^ m:Nat):Int):=by
 have h:=Nat.xor_lt_two_pow (n:=16) ha hm
 rw [BitVec.toNat_xor,Qx (by omega),Qx (by omega),wrap_i64 (by omega) (by omega)]
section
variable {c:Nat} {b:List UInt8} {mo:Int} {t:Nat} {H:AM.Heap} {o:Nat} {oa:Option Nat} {s:Is}
theorem afJ {m:Nat} {E:AM.Heap} (h:IrV c b mo t E 0 oa s) (hk:s.k≤8 * b.length) (hb:b.length≤100000):∃ E',IrV c b mo t E' 0 oa { s with k:=(s.k + 7) / 8 * 8 }∧∃ code,((Try.f81.body).bind (aB [0])) = some code∧Run X (evT X) 81 m code [(0,.ptr 0 0 0 0)] E ⟨.normal,[(0,.ptr 0 0 0 0)],E'⟩:=by
 obtain ⟨⟨vo,τ1,τ,a1,a2,h0,ho⟩,hne⟩:=id h
 refine ⟨AM.upd E 0 (some (fK c b mo { s with k:=(s.k + 7) / 8 * 8 } vo τ1 τ)),IrV.set hne a1 a2 h.lt.1 ho,_,rfl,?_⟩
 have w1:IntKind.i64.wrap ((s.k:Int) + 7) = ((s.k + 7:Nat):Int):=by rw [wrap_i64 (by omega) (by omega)];omega
 have w2:((s.k + 7:Nat):Int).tdiv 8 = (((s.k + 7) / 8:Nat):Int):=by rw [auM (by omega)];omega
 have w2':((s.k + 7:Nat):Int) / 8 = (((s.k + 7) / 8:Nat):Int):=by omega
 have w3:IntKind.i64.wrap ((((s.k + 7) / 8:Nat):Int)) = (((s.k + 7) / 8:Nat):Int):=wrap_i64 (by omega) (by omega)
 have w4:IntKind.i64.wrap ((((s.k + 7) / 8:Nat):Int) * 8) = (((s.k + 7) / 8 * 8:Nat):Int):=by rw [wrap_i64 (by omega) (by omega)];omega
 simp only [fK] at h0 ⊢
 generalize (s.k + 7) / 8 * 8 = k1 at *
 generalize (s.k + 7) / 8 = k2 at *
 generalize s.k + 7 = k3 at *
 (refine ⟨0,?_⟩;simp [-getElem?_pos,go_sem,eqV,ah,h0,w1,w2,w2',w3,w4])
theorem XH {m n q:Nat} {E:AM.Heap} (h:IrV c b mo t E 0 oa s) (hn:n < 65536) (hq:q < 65536):∃ code,((Try.f81.body).bind (aB [1,1,0,1,0])) = some code∧Run X (evT X) 81 m code [(0,.ptr 0 0 0 0),(2,.int .i64 (n:Nat)),(3,.int .i64 (q:Nat))] E ⟨.normal,[(0,.ptr 0 0 0 0),(2,.int .i64 (n:Nat)),(29,.bool (s.e == 0 && !(n + q == 65535)))],E⟩:=by
 refine ⟨_,rfl,?_⟩
 obtain ⟨⟨vo,τ1,τ,a1,a2,h0,ho⟩,hne⟩:=id h
 simp only [fK] at h0
 have hX:=aoI hn hq
 have hX2:=hX
 simp only [go_sem] at hX2
 by_cases he:s.e = 0
 ·simp only [he,beq_self_eq_true,avf]
  rw [he] at h0
  by_cases hx:n + q = 65535
  ·have h1:=(aaG hn hq).2 hx
   rw [h1] at hX hX2
   rw [show (n + q == 65535) = true by simpa using hx]
   (refine ⟨0,?_⟩;simp [-getElem?_pos,go_sem,eqV,ah,h0,hX,hX2])
  ·have h1:¬ n ^^^ q = 65535:=fun h=>hx ((aaG hn hq).1 h)
   rw [show (n + q == 65535) = false by simpa using hx]
   generalize n ^^^ q = z at *
   have h2:((z:Int) != 65535) = true:=by simp;omega
   (refine ⟨0,?_⟩;simp [-getElem?_pos,go_sem,eqV,ah,h0,hX,hX2,h2])
 ·rw [show (s.e == 0) = false by simpa using he,au7]
  have heb:(s.e == 0) = false:=by simpa using he
  (refine ⟨0,?_⟩;simp [-getElem?_pos,go_sem,eqV,ah,h0,he,heb])
def wU (n i:Nat):AM.Frame:=[(0,.ptr 0 0 0 0),(2,.int .i64 (n:Nat)),(4,.int .i64 (i:Nat))]
theorem aaH {m n i:Nat} {E:AM.Heap} (h:IrV c b mo t E 0 oa s):∃ code,((Try.f81.body).bind (aB [1,1,1,1,0,0,0,0])) = some code∧Run X (evT X) 81 m code (wU n i) E ⟨.normal,wU n i ++ [(41,.bool (decide (i < n) && (s.e == 0)))],E⟩:=by
 refine ⟨_,rfl,?_⟩
 obtain ⟨⟨vo,τ1,τ,a1,a2,h0,ho⟩,hne⟩:=id h
 simp only [fK] at h0
 by_cases hi:i < n
 ·have hI:(i:Int) < (n:Int):=by omega
  simp only [wU,hi,decide_true,avf]
  (refine ⟨0,?_⟩;simp [-getElem?_pos,go_sem,eqV,ah,h0,hI])
 ·have hI:¬ (i:Int) < (n:Int):=by omega
  simp only [wU,hi,decide_false,au7]
  (refine ⟨0,?_⟩;simp [-getElem?_pos,go_sem,eqV,ah,h0,hI])
def byP (b:List UInt8) (mo:Int):PM Unit:=eP (gQ b 8) fun c=>qB mo (UInt8.ofNat c.toNat)
theorem afK {m n i:Nat} {E:AM.Heap} {d:Bool} (h:IrV c b mo t E 0 oa s) (hs:iW b mo s) (hb:b.length≤100000) (hm:mo≤1000000):∃ E' oa' s',IrV c b mo t E' 0 oa' s'∧dJ b mo (byP b mo) () s s' ()∧Kpt E E' 0 oa oa'∧∃ code,((Try.f81.body).bind (aB [1,1,1,1,0,0,1,0,0])) = some code ∧
  Run X (evT X) 81 m code (wU n i ++ [(41,.bool d)]) E ⟨.normal,wU n i,E'⟩:=by
 obtain ⟨E1,oa1,s1,a,h1,h2,h3,h4⟩:=rC (n:=8) (I:=8) rfl h hs hb (by omega)
 obtain ⟨ra,rb⟩:=lY h3 hs
 obtain ⟨E2,oa2,s2,g1,g2,g3,g4⟩:=J7 (y:=UInt8.ofNat a.toNat) h2 h3.1 hm
 have hy:(((UInt8.ofNat a.toNat).toNat:Nat):Int) = a:=by
  rw [au1,auT (by omega)];omega
 rw [hy] at g1
 refine ⟨E2,oa2,s2,g2,h3.bnd g3,h4.trans g4,_,rfl,?_⟩
 have w:IntKind.u8.wrap a = a:=wrap_u8 (by omega) (by omega)
 simp only [wU]
 (refine ⟨0,?_⟩;simp [-getElem?_pos,go_sem,eqV,ah,h1,w,g1])
theorem MX {m:Nat} {E:AM.Heap} (h:IrV c b mo t E 0 oa s) (hs:iW b mo s) (he:s.e = 0) (hb:b.length≤100000) (hm:mo≤1000000):∃ code,Try.f81.body = some code ∧
  aj (jG fun fr E'=>∃ s' oa',IrV c b mo t E' 0 oa' s'∧(∀ x,oa = some x→oa' = some x)∧dJ b mo (Bv b mo) () s s' ()) X (evT X) 81 m code [(0,.ptr 0 0 0 0)] E:=by
 refine ⟨_,rfl,?_⟩
 obtain ⟨E0,hV0,hr0⟩:=afJ (m:=m) h hs.1 hb
 have hs0:iW b mo { s with k:=(s.k + 7) / 8 * 8 }:=⟨by have:=hs.1;simp;omega,hs.2⟩
 have hR0:dJ b mo YD () s { s with k:=(s.k + 7) / 8 * 8 } ():=by
  rw [he]
  exact dJ.Qw (by simpa [he] using hs0) he rfl
 apply aj.seq (piece hr0 _ rfl)
 obtain ⟨E1,oa1,s1,n,h1,h2,h3,h4⟩:=rC (n:=16) (I:=16) rfl hV0 hs0 hb (by omega)
 obtain ⟨na,nb⟩:=lY h3 hs0
 apply aj.seq (fr':=[(0,.ptr 0 0 0 0),(2,.int .i64 n)]) (H':=E1)
 ·(refine ⟨0,?_⟩;simp [-getElem?_pos,go_sem,eqV,ah,h1,ak])
 obtain ⟨E2,oa2,s2,q,g1,g2,g3,g4⟩:=rC (n:=16) (I:=16) rfl h2 h3.1 hb (by omega)
 obtain ⟨qa,qb⟩:=lY g3 h3.1
 obtain ⟨n,rfl⟩:∃ n':Nat,n = (n':Int):=⟨n.toNat,by omega⟩
 obtain ⟨q,rfl⟩:∃ q':Nat,q = (q':Int):=⟨q.toNat,by omega⟩
 apply aj.assoc
 apply aj.seq (fr':=[(0,.ptr 0 0 0 0),(2,.int .i64 (n:Nat)),(3,.int .i64 (q:Nat))]) (H':=E2)
 ·(refine ⟨0,?_⟩;simp [-getElem?_pos,go_sem,eqV,ah,g1,ak])
 have hn:n < 65536:=by omega
 have hq:q < 65536:=by omega
 -- the two lengths
 have hP:∃ E3 oa3 s3,IrV c b mo t E3 0 oa3 s3∧(∀ x,oa = some x→oa3 = some x)∧Cnt b mo (rU (byP b mo) n) () s3 (Bv b mo) () s (fun u=>u)∧iW b mo s3 ∧
   ∃ code,((Try.f81.body).bind (aB [1,1,0,1])) = some code∧∃ fr,Run X (evT X) 81 m code [(0,.ptr 0 0 0 0),(2,.int .i64 (n:Nat)),(3,.int .i64 (q:Nat))] E2 ⟨.normal,fr,E3⟩∧ay fr 0 = .ptr 0 0 0 0∧ay fr 2 = .int .i64 (n:Nat):=by
  have hc:Cnt b mo (if (n:Int) + (q:Int) = 65535 then rU (byP b mo) n else sU 5) () s2 (Bv b mo) () s (fun u=>u):=by
   intro s4 y hy
   have:=hR0.bnd (f:=fun _=>eP (gQ b 16) fun n=>eP (gQ b 16) fun m=>if n + m = 65535 then rU (eP (gQ b 8) fun c=>qB mo (UInt8.ofNat c.toNat)) n.toNat else sU 5) (h3.bnd (f:=fun n=>eP (gQ b 16) fun m=>if n + m = 65535 then rU (eP (gQ b 8) fun c=>qB mo (UInt8.ofNat c.toNat)) n.toNat else sU 5) (g3.bnd (f:=fun m=>if (n:Int) + m = 65535 then rU (eP (gQ b 8) fun c=>qB mo (UInt8.ofNat c.toNat)) (n:Int).toNat else sU 5) (by rw [auy];exact hy)))
   exact this
  by_cases hx:n + q = 65535
  ·rw [if_pos (by omega)] at hc
   refine ⟨E2,oa2,s2,g2,fun a ha=>g4.same a (h4.same a ha),hc,g3.1,_,rfl,[(0,.ptr 0 0 0 0),(2,.int .i64 (n:Nat)),(29,.bool false)],?_,rfl,rfl⟩
   have h3:=XH (m:=m) g2 hn hq
   rw [show (n + q == 65535) = true by simpa using hx,av2,Bool.and_false] at h3
   apply Run.seq (piece h3 _ rfl)
   exact Run.cond (d:=false) rfl ⟨0,rfl⟩
  ·rw [if_neg (by omega)] at hc
   by_cases he2:s2.e = 0
   ·obtain ⟨E3,oa3,k1,k2,k3⟩:=qR (e:=5) g2
    refine ⟨E3,oa3,_,k2,fun a ha=>k3.same a (g4.same a (h4.same a ha)),?_,by unfold kR;split <;> exact ⟨g3.1.1,g3.1.2⟩,_,rfl,[(0,.ptr 0 0 0 0),(2,.int .i64 (n:Nat))],?_,rfl,rfl⟩
    ·intro s4 y hy
     have hf:(kR s2 5).e ≠ 0:=by unfold kR;rw [if_pos he2];simp
     obtain ⟨rfl,rfl⟩:=hy.stopped hf
     exact hc _ _ (dJ.bad g3.1 (by simp))
    ·have h3:=XH (m:=m) g2 hn hq
     rw [show (n + q == 65535) = false by simpa using hx,he2] at h3
     apply Run.seq (piece h3 _ rfl)
     refine Run.cond (d:=true) rfl ?_
     (refine ⟨0,?_⟩;simp [-getElem?_pos,go_sem,eqV,ah,k1])
   ·refine ⟨E2,oa2,s2,g2,fun a ha=>g4.same a (h4.same a ha),?_,g3.1,_,rfl,[(0,.ptr 0 0 0 0),(2,.int .i64 (n:Nat)),(29,.bool false)],?_,rfl,rfl⟩
    ·intro s4 y hy
     obtain ⟨rfl,rfl⟩:=hy.stopped he2
     exact hc _ _ (dJ.stop g3.1 he2)
    ·have h3:=XH (m:=m) g2 hn hq
     rw [show (s2.e == 0) = false by simpa using he2,au7] at h3
     apply Run.seq (piece h3 _ rfl)
     exact Run.cond (d:=false) rfl ⟨0,rfl⟩
 obtain ⟨E3,oa3,s3,hV3,hm3,hC3,hs3,afL,hcode3,fr3,hr3,f0,f2⟩:=hP
 apply aj.seq (fr':=fr3) (H':=E3)
 ·exact (atK hcode3) ▸ hr3
 apply aj.seq (fr':=wU n 0) (H':=E3)
 ·simp only [wU]
  (refine ⟨0,?_⟩;simp [-getElem?_pos,go_sem,eqV,ah,f0,f2,ak])
 refine aj.mono (Q:=Goes fun fr E'=>∃ s' oa',IrV c b mo t E' 0 oa' s'∧(∀ x,oa = some x→oa' = some x)∧dJ b mo (Bv b mo) () s s' ()) ?_ fun o h=>⟨.inl h.1,h.2⟩
 apply aj.block
 refine aj.kQ (I:=fun k fr E'=>∃ oa' s' i,i≤n∧k = n - i∧fr = wU n i∧IrV c b mo t E' 0 oa' s'∧(∀ a,oa = some a→oa' = some a)∧iW b mo s'∧Cnt b mo (rU (byP b mo) (n - i)) () s' (Bv b mo) () s (fun u=>u)) ?_ (k:=n) ⟨oa3,s3,0,by omega,by omega,rfl,hV3,hm3,hs3,hC3⟩
 rintro k fr E' ⟨oa',s',i,hi,rfl,rfl,hV,hm',hs',hC⟩
 by_cases hin:i < n∧s'.e = 0
 ·obtain ⟨E5,oa5,s5,v1,v2,v3,hr8⟩:=afK (m:=m) (n:=n) (i:=i) (d:=true) hV hs' hb hm
  refine aj.of (o:=⟨.normal,wU n (i + 1),E5⟩) ?_ (.inl ⟨rfl,n - (i + 1),by omega,oa5,s5,i + 1,by omega,rfl,rfl,v1,fun a ha=>v3.same a (hm' a ha),v2.1,?_⟩)
  ·have h6:=aaH (m:=m) (n:=n) (i:=i) hV
   rw [show decide (i < n) = true by simp [hin.1],hin.2] at h6
   apply Run.seq (fr':=wU n i ++ [(41,.bool true)]) (H':=E')
   ·apply Run.seq (piece h6 _ rfl)
    refine ⟨0,?_⟩
    simp only [wU]
    simp [-getElem?_pos,go_sem,eqV,ah]
   apply Run.seq (fr':=wU n i) (H':=E5)
   ·apply Run.block
    ·exact piece hr8 _ rfl
    ·simp
   ·have w:IntKind.i64.wrap ((i:Int) + 1) = ((i + 1:Nat):Int):=by rw [wrap_i64 (by omega) (by omega)];omega
    simp only [wU]
    (refine ⟨0,?_⟩;simp [-getElem?_pos,go_sem,eqV,ah,w,ak])
  ·have:n - i = (n - (i + 1)) + 1:=by omega
   rw [this] at hC
   exact Cnt.step (m:=byP b mo) (k:=fun _=>rU (byP b mo) (n - (i + 1))) hC v2
 ·refine aj.of (o:=⟨.exit 0,wU n i ++ [(41,.bool false)],E'⟩) ?_ (.inr ⟨by simp,rfl,s',oa',hV,hm',?_⟩)
  ·have h6:=aaH (m:=m) (n:=n) (i:=i) hV
   have hd:(decide (i < n) && (s'.e == 0)) = false:=by
    by_cases h1:i < n
    ·have:¬ s'.e = 0:=fun h=>hin ⟨h1,h⟩
     simp [this]
    ·simp [h1]
   rw [hd] at h6
   apply Run.bI
   ·apply Run.seq (piece h6 _ rfl)
    refine ⟨0,?_⟩
    simp only [wU]
    simp [-getElem?_pos,go_sem,eqV,ah]
   ·simp
  ·refine hC _ () ?_
   by_cases h1:s'.e = 0
   ·have:n - i = 0:=by
     have:¬ i < n:=fun h=>hin ⟨h,h1⟩
     omega
    rw [this]
    exact dJ.ret hs' fun _=>rfl
   ·exact dJ.stop hs' h1
theorem Tv (h:IrV c b mo t H o oa s) (hs:iW b mo s) (he:s.e = 0) (hb:b.length≤100000) (hm:mo≤1000000):∃ H' oa' s',evT X 81 [.ptr o 0 0 0] H = some (.tup [],H')∧IrV c b mo t H' o oa' s'∧dJ b mo (Bv b mo) () s s' ()∧Kpt H H' o oa oa':=by
 obtain ⟨code,hc⟩:∃ code,Try.f81.body = some code:=⟨_,rfl⟩
 obtain ⟨H',oa',s',a,h1,h2,h3,h4⟩:=CG (f:=81) (n:=2) (xs:=[]) (ys:=[]) (m:=Bv b mo) (d:=()) (v:=fun _=>[]) Try.func81 hc rfl h (fun π K _=>fF.nil) rfl rfl (by simp [dn]) (fun _=>⟨rfl,rfl,rfl⟩) (by
  intro mm E oa1 hE
  obtain ⟨code,hc,ht⟩:=MX (m:=mm) hE hs he hb hm
  refine ⟨code,hc,?_⟩
  rw [adQ]
  refine ht.mono fun o ho=>⟨ho.1,?_⟩
  obtain ⟨s',oa',q1,q2,q3⟩:=ho.2
  exact ⟨s',oa',(),rfl,q1,q2,q3⟩)
 exact ⟨H',oa',s',h1,h2,h3,h4⟩
end
def CJ:List AV:=Oo.map fun p=>.pc [.int .i64 p.1,.int .i64 (p.2:Nat)]
def MZ:AM.Obj:=⟨.pr 2 CJ,0,some 29,1,false,true,0⟩
theorem aoJ (x y:Int):mJ X 130 [(0,.int .i64 x),(1,.int .i64 y)] = some (.agg (.pi .i64 [x,y])):=by kernel_rfl
theorem afM:mJ X 131 [(0,.agg (.pi .i64 [3,0])),(1,.agg (.pi .i64 [4,0])),(2,.agg (.pi .i64 [5,0])),(3,.agg (.pi .i64 [6,0])),(4,.agg (.pi .i64 [7,0])),(5,.agg (.pi .i64 [8,0])),(6,.agg (.pi .i64 [9,0])),(7,.agg (.pi .i64 [10,0])),(8,.agg (.pi .i64 [11,1])),(9,.agg (.pi .i64 [13,1])),(10,.agg (.pi .i64 [15,1])),(11,.agg (.pi .i64 [17,1])),(12,.agg (.pi .i64 [19,2])),(13,.agg (.pi .i64 [23,2])),(14,.agg (.pi .i64 [27,2])),(15,.agg (.pi .i64 [31,2])),(16,.agg (.pi .i64 [35,3])),(17,.agg (.pi .i64 [43,3])),(18,.agg (.pi .i64 [51,3])),(19,.agg (.pi .i64 [59,3])),(20,.agg (.pi .i64 [67,4])),(21,.agg (.pi .i64 [83,4])),(22,.agg (.pi .i64 [99,4])),(23,.agg (.pi .i64 [115,4])),(24,.agg (.pi .i64 [131,5])),(25,.agg (.pi .i64 [163,5])),(26,.agg (.pi .i64 [195,5])),(27,.agg (.pi .i64 [227,5])),(28,.agg (.pi .i64 [258,0]))] = some (.agg (.pr 2 CJ)):=by kernel_rfl
theorem FY:CJ.length = 29:=rfl
theorem TM {s:Nat} (h:257≤s) (h2:s < 286):CJ[s - 257]? = some (.pc [.int .i64 (Bz s),.int .i64 (DT s:Nat)]):=by
 have hl:s - 257 < Oo.length:=by show s - 257 < 29;omega
 unfold CJ Bz DT
 rw [atI,atB hl,atH,atB hl]
 rfl
theorem Rf {s:Nat} (h:257≤s) (h2:s < 286):3≤Bz s∧Bz s≤258∧DT s≤5:=by
 have key:(List.range 29).all (fun i=>decide (3≤(Oo.getD i (0,0)).1) && (decide ((Oo.getD i (0,0)).1≤258) && decide ((Oo.getD i (0,0)).2≤5))) = true:=by kernel_rfl
 have:=atT.1 key (s - 257) (aug.2 (by omega))
 simp only [atS,decide_eq_true_eq] at this
 exact this
section
variable {c:Nat} {b:List UInt8} {mo:Int} {t:Nat} {H:AM.Heap} {o:Nat} {oa:Option Nat} {s:Is}
theorem IrV.reach (h:IrV c b mo t H o oa s):AM.reach H aF [o] [] = o :: oa.toList:=by
 obtain ⟨⟨vo,τ1,τ,_,_,h0,ho⟩,hne⟩:=h
 cases oa with
 | none =>
  obtain ⟨_,τ2,_,rfl⟩:=ho
  exact lS h0 (by simp [fK,ids,aC])
 | some a =>
  obtain ⟨g,τ2,ob,_,rfl,h3,h4⟩:=ho
  have hi:=h4.ids
  have hne':=hne a rfl
  show AM.reach _ (99996 + 1 + 1 + 1 + 1) [o] [] = [o,a]
  simp [AM.reach,h0,h3,fK,ids,aC,hi,hne']
theorem afN {m cd sy:Nat} {dl:List Int} {E:AM.Heap}:∃ code,((Try.f87.body).bind (aB [0])) = some code∧Run X (evT X) 87 m code [(0,.ptr 0 0 0 0),(1,.int .i64 (sy:Nat)),(2,.ro cd (.pi .i64 dl) 3)] E
  ⟨.normal,[(0,.ptr 0 0 0 0),(1,.int .i64 (sy:Nat)),(2,.ro cd (.pi .i64 dl) 3),(6,.ptr E.length 0 0 0)],E ++ [some MZ]⟩:=by
 refine ⟨_,rfl,?_⟩
 simp only [MZ]
 (refine ⟨0,?_⟩;simp [-getElem?_pos,go_sem,eqV,ah,aoJ,afM,Bq,xB,FY])
theorem IrV.off {j:Nat} (h:∀ a,oa = some a→j ≠ a) (h0:j ≠ o):j ∉ o :: oa.toList:=by
 intro hm
 rcases atX.1 hm with h1 | h1
 ·exact h0 h1
 ·exact h j (by simpa using h1) rfl
theorem afO {m cd sy j:Nat} {dl:List Int} {E:AM.Heap} {d:Bool} (h:IrV c b mo t E 0 oa s) (hs:iW b mo s) (hb:b.length≤100000) (PN:257≤sy) (XI:sy < 286) (hj:E[j]? = some (some MZ)) (hj0:j ≠ 0) (hja:∀ a,oa = some a→j ≠ a) :
  ∃ E' oa' s',∃ x:Int,IrV c b mo t E' 0 oa' s'∧dJ b mo (gQ b (DT sy)) 0 s s' x∧Kpt E E' 0 oa oa'∧∃ code,((Try.f87.body).bind (aB [1,1,0])) = some code∧Run X (evT X) 87 m code
   [(0,.ptr 0 0 0 0),(1,.int .i64 (sy:Nat)),(2,.ro cd (.pi .i64 dl) 3),(6,.ptr j 0 0 0),(44,.bool d)] E ⟨.normal,[(0,.ptr 0 0 0 0),(2,.ro cd (.pi .i64 dl) 3),(7,.int .i64 (Bz sy + x))],E'⟩:=by
 have hrow:=TM PN XI
 obtain ⟨hb3,hb4,hb5⟩:=Rf PN XI
 obtain ⟨E1,oa1,s1,x,h1,h2,h3,h4⟩:=rC (n:=DT sy) (I:=(DT sy:Nat)) rfl h hs hb (by omega)
 obtain ⟨xa,xb⟩:=lY h3 hs
 have hp:2 ^ DT sy≤2 ^ 5:=auk (by omega) hb5
 refine ⟨E1,oa1,s1,x,h2,h3,h4,_,rfl,?_⟩
 have hre:=h.reach
 have hoff:=IrV.off (o:=0) hja hj0
 have hjl:=dR hj
 have w1:IntKind.i64.wrap ((sy:Int) - 257) = ((sy - 257:Nat):Int):=by rw [wrap_i64 (by omega) (by omega)];omega
 have w2:IntKind.i64.wrap (Bz sy + x) = Bz sy + x:=wrap_i64 (by omega) (by omega)
 have h29:sy - 257 < 29:=by omega
 have aoK:((sy - 257:Nat):Int) < 29:=by omega
 generalize Bz sy = B at *
 generalize DT sy = Xb at *
 generalize sy - 257 = i at *
 generalize 0 :: oa.toList = L at *
 simp only [MZ] at hj
 have hll:=FY
 generalize CJ = R at *
 apply Run.dy (by simp) Wn (by simp)
 ·(conv=>lhs;simp [-getElem?_pos,go_sem,eqV,ah,jU,out1,bY,nU,jY,pushes,kW,iR,touched,mentioned,jl,gu,dF,nV,Op.operands,ids,aC,aG,dV,dN,iq,mV,w1,hj,hrow,h1,w2,hre,hll,h29,aoK,ak,jZ])
 ·refine lF (ps:=[(0,5),(1,5),(2,5),(3,5),(4,5),(0,6),(1,6),(2,6),(3,6),(4,6),(5,6),(0,7),(1,7),(2,7),(3,7),(4,7),(5,7),(0,8),(1,8),(2,8),(3,8),(4,8),(5,8),(0,9),(1,9),(2,9),(3,9),(4,9),(5,9),(0,10),(1,10),(2,10),(3,10),(4,10),(5,10),(0,11),(1,11),(2,11),(3,11),(4,11)]) (by kernel_rfl) ?_
  by_cases hl:E1.length = E.length
  ·simp [zM,bear,disjoint,qh,Call.operands,aJ,ay,aC,ids,jZ,hl,hoff,hjl]
  ·simp [zM,bear,disjoint,qh,Call.operands,aJ,ay,aC,ids,jZ,hl,hoff,hjl]
 ·rfl
end
section
variable {c:Nat} {b:List UInt8} {mo:Int} {t:Nat} {H:AM.Heap} {o:Nat} {oa:Option Nat} {s:Is}
theorem ZH {d:Nat} (h:d < 30):mg d≤13:=by unfold mg;split <;> omega
theorem Rh {d:Nat} (h:d < 30):1≤uf d∧uf d≤40000:=by
 unfold uf
 split
 ·omega
 ·have:2 ^ (d / 2 - 1)≤2 ^ 13:=auk (by omega) (by omega)
  have h2:(2 + d % 2) * 2 ^ (d / 2 - 1)≤3 * 2 ^ 13:=Nat.mul_le_mul (by omega) this
  omega
def AP (n:Int) (d:Nat):AM.Frame:=[(0,.ptr 0 0 0 0),(7,.int .i64 n),(8,.int .i64 (d:Nat))]
def wV (n:Int) (k:Int):AM.Frame:=[(0,.ptr 0 0 0 0),(7,.int .i64 n),(9,.int .i64 k)]
theorem afP {m d:Nat} {n:Int} {E:AM.Heap} (h:IrV c b mo t E 0 oa s):∃ code,((Try.f87.body).bind (aB [1,1,1,1,0,0])) = some code∧Run X (evT X) 87 m code (AP n d) E ⟨.normal,AP n d ++ [(67,.bool (s.e != 0))],E⟩:=by
 refine ⟨_,rfl,?_⟩
 obtain ⟨⟨vo,τ1,τ,a1,a2,h0,ho⟩,hne⟩:=id h
 simp only [fK] at h0
 by_cases he:s.e = 0
 ·rw [he] at h0 ⊢
  simp only [AP]
  (refine ⟨0,?_⟩;simp [-getElem?_pos,go_sem,eqV,ah,h0])
 ·have heb:(s.e != 0) = true:=by simpa using he
  simp only [AP]
  (refine ⟨0,?_⟩;simp [-getElem?_pos,go_sem,eqV,ah,h0,he,heb])
theorem ab1 {m d:Nat} {n:Int} {E:AM.Heap} (h:IrV c b mo t E 0 oa s) (hs:iW b mo s) (hb:b.length≤100000) (hd:d < 30) (h4:4≤d):∃ E' oa' s',∃ y:Int,IrV c b mo t E' 0 oa' s'∧dJ b mo (gQ b (mg d)) 0 s s' y∧Kpt E E' 0 oa oa'∧∃ code,((Try.f87.body).bind (aB [1,1,1,1,1,1,1,0,1,0,1])) = some code ∧
  Run X (evT X) 87 m code [(0,.ptr 0 0 0 0),(7,.int .i64 n),(8,.int .i64 (d:Nat)),(10,.int .i64 (mg d:Nat))] E ⟨.normal,wV n ((uf d:Nat) + y),E'⟩:=by
 have hx:=ZH hd
 obtain ⟨hb1,hb2⟩:=Rh hd
 obtain ⟨E1,oa1,s1,y,h1,h2,h3,h4'⟩:=rC (n:=mg d) (I:=(mg d:Nat)) rfl h hs hb (by omega)
 obtain ⟨ya,yb⟩:=lY h3 hs
 have hp:2 ^ mg d≤2 ^ 13:=auk (by omega) hx
 refine ⟨E1,oa1,s1,y,h2,h3,h4',_,rfl,?_⟩
 have e3:((d:Nat):Int).tmod 2 = ((d % 2:Nat):Int):=by rw [au5 (by omega)];omega
 have e4:((d:Nat):Int) % 2 = ((d % 2:Nat):Int):=by omega
 have w1:IntKind.i64.wrap (2 + ((d % 2:Nat):Int)) = ((2 + d % 2:Nat):Int):=by rw [wrap_i64 (by omega) (by omega)];omega
 have hdb:uf d = 1 + (2 + d % 2) * 2 ^ mg d:=by unfold uf mg;rw [if_neg (by omega),if_neg (by omega)]
 have hm:min (mg d) 64 = mg d:=by omega
 have w2:IntKind.i64.wrap (((2 + d % 2:Nat):Int) * 2 ^ mg d) = (((2 + d % 2) * 2 ^ mg d:Nat):Int):=by
  rw [show ((2 + d % 2:Nat):Int) * 2 ^ mg d = (((2 + d % 2) * 2 ^ mg d:Nat):Int) by simp]
  exact wrap_i64 (by omega) (by omega)
 have w3:IntKind.i64.wrap (1 + (((2 + d % 2) * 2 ^ mg d:Nat):Int)) = ((uf d:Nat):Int):=by rw [hdb,wrap_i64 (by omega) (by omega)];omega
 have w4:IntKind.i64.wrap (((uf d:Nat):Int) + y) = ((uf d:Nat):Int) + y:=wrap_i64 (by omega) (by omega)
 have hx0:¬ ((mg d:Nat):Int) < 0:=by omega
 generalize (2 + d % 2) * 2 ^ mg d = w at *
 generalize mg d = q at *
 generalize uf d = B at *
 generalize 2 + d % 2 = r at *
 generalize d % 2 = p at *
 simp only [wV]
 (refine ⟨0,?_⟩;simp [-getElem?_pos,go_sem,eqV,ah,h1,e3,e4,w1,hm,w2,w3,w4,hx0,ak])
theorem ab2 {m k:Nat} {n:Int} {E:AM.Heap} {fr:AM.Frame} (g0:ay fr 0 = .ptr 0 0 0 0) (g7:ay fr 7 = .int .i64 n) (g9:ay fr 9 = .int .i64 (k:Nat)) (h:IrV c b mo t E 0 oa s):∃ code,((Try.f87.body).bind (aB [1,1,1,1,1,1,1,1,0,0])) = some code∧Run X (evT X) 87 m code fr E ⟨.normal,wV n (k:Nat) ++ [(102,.bool (s.e == 0 && decide (s.o.length < k)))],E⟩:=by
 refine ⟨_,rfl,?_⟩
 obtain ⟨⟨vo,τ1,τ,a1,a2,h0,ho⟩,hne⟩:=id h
 simp only [fK] at h0
 by_cases he:s.e = 0
 ·rw [he] at h0 ⊢
  simp only [beq_self_eq_true,avf,wV]
  have hd:decide (s.o.length < k) = decide ((s.o.length:Int) < (k:Int)):=by
   by_cases h1:s.o.length < k
   ·rw [decide_eq_true h1,decide_eq_true (by omega)]
   ·rw [decide_eq_false h1,decide_eq_false (by omega)]
  rw [hd]
  cases oa with
  | none =>
   obtain ⟨h1,τ2,hτ2,rfl⟩:=ho
   rw [h1]
   (refine ⟨0,?_⟩;simp [-getElem?_pos,go_sem,eqV,ah,g0,g7,g9,h0])
  | some a =>
   obtain ⟨g,τ2,ob,hτ2,rfl,h3,h4⟩:=ho
   have hg:=h4.g
   generalize s.o.length = N at *
   (refine ⟨0,?_⟩;simp [-getElem?_pos,go_sem,eqV,ah,g0,g7,g9,h0,h3,hg])
 ·rw [show (s.e == 0) = false by simpa using he,au7]
  have heb:(s.e == 0) = false:=by simpa using he
  simp only [wV]
  (refine ⟨0,?_⟩;simp [-getElem?_pos,go_sem,eqV,ah,g0,g7,g9,h0,he,heb])
def vO (n k:Int) (i:Nat):AM.Frame:=[(0,.ptr 0 0 0 0),(7,.int .i64 n),(9,.int .i64 k),(11,.int .i64 (i:Nat))]
theorem ab3 {m n i:Nat} {k:Int} {E:AM.Heap} (h:IrV c b mo t E 0 oa s):∃ code,((Try.f87.body).bind (aB [1,1,1,1,1,1,1,1,1,1,0,0,0,0])) = some code∧Run X (evT X) 87 m code (vO (n:Nat) k i) E ⟨.normal,vO (n:Nat) k i ++ [(114,.bool (decide (i < n) && (s.e == 0)))],E⟩:=by
 refine ⟨_,rfl,?_⟩
 obtain ⟨⟨vo,τ1,τ,a1,a2,h0,ho⟩,hne⟩:=id h
 simp only [fK] at h0
 by_cases hi:i < n
 ·have hI:(i:Int) < (n:Int):=by omega
  simp only [vO,hi,decide_true,avf]
  (refine ⟨0,?_⟩;simp [-getElem?_pos,go_sem,eqV,ah,h0,hI])
 ·have hI:¬ (i:Int) < (n:Int):=by omega
  simp only [vO,hi,decide_false,au7]
  (refine ⟨0,?_⟩;simp [-getElem?_pos,go_sem,eqV,ah,h0,hI])
theorem ab4 {m n i k:Nat} {E:AM.Heap} {d:Bool} (h:IrV c b mo t E 0 oa s) (hs:iW b mo s) (he:s.e = 0) (hm:mo≤1000000) (hk:1≤k) (hk2:k≤s.o.length):∃ E' oa' s',IrV c b mo t E' 0 oa' s'∧dJ b mo (yN mo k) () s s' ()∧Kpt E E' 0 oa oa'∧∃ code,((Try.f87.body).bind (aB [1,1,1,1,1,1,1,1,1,1,0,0,1,0,0])) = some code ∧
  Run X (evT X) 87 m code (vO (n:Nat) (k:Nat) i ++ [(114,.bool d)]) E ⟨.normal,vO (n:Nat) (k:Nat) i,E'⟩:=by
 obtain ⟨⟨vo,τ1,τ,a1,a2,h0,ho⟩,hne⟩:=id h
 have hlt:s.o.length - k < s.o.length:=by omega
 obtain ⟨y,hy⟩:∃ y,s.o[s.o.length - k]? = some y:=⟨_,atB hlt⟩
 have hyd:s.o.getD (s.o.length - k) 0 = y:=by rw [atH,hy];rfl
 obtain ⟨E1,oa1,s1,h1,h2,h3,h4⟩:=J7 (y:=y) h hs hm
 refine ⟨E1,oa1,s1,h2,?_,h4,_,rfl,?_⟩
 ·obtain ⟨r1,r2⟩:=h3
  refine ⟨r1,?_⟩
  rw [if_pos he] at r2 ⊢
  unfold yN
  rw [hyd]
  exact r2
 ·simp only [fK] at h0
  cases oa with
  | none=>obtain ⟨h1,_⟩:=ho;rw [h1] at hk2;simp at hk2;omega
  | some a =>
   obtain ⟨g,τ2,ob,hτ2,rfl,q3,q4⟩:=ho
   have hg:=q4.g
   have hp:=q4.p
   have hi:=q4.ids
   have w:IntKind.i64.wrap ((s.o.length:Int) - (k:Int)) = ((s.o.length - k:Nat):Int):=by rw [wrap_i64 (by have:=hs.2;omega) (by have:=hs.2;omega)];omega
   have hI:((s.o.length - k:Nat):Int) < (s.o.length:Int):=by omega
   have hgen:0 + (s.o.length - k) = s.o.length - k:=by omega
   simp only [vO]
   generalize s.o.length - k = q at *
   generalize s.o.length = N at *
   (refine ⟨0,?_⟩;simp [-getElem?_pos,go_sem,eqV,ah,h0,q3,hg,hp,hi,w,hI,hy,h1])
end
section
variable {c:Nat} {b:List UInt8} {mo:Int} {t:Nat} {H:AM.Heap} {o:Nat} {oa:Option Nat} {s:Is}
theorem XJ {e:Int} (hs:iW b mo s):iW b mo (kR s e):=by
 unfold kR;split <;> exact ⟨hs.1,hs.2⟩
theorem ZI {m d:Nat} {n:Int} {E:AM.Heap} (h:IrV c b mo t E 0 oa s) (hs:iW b mo s) (hb:b.length≤100000) (hd:d < 30):∃ E' oa' s',∃ y:Nat,IrV c b mo t E' 0 oa' s'∧dJ b mo (gQ b (mg d)) 0 s s' (y:Nat)∧Kpt E E' 0 oa oa'∧∃ code,((Try.f87.body).bind (aB [1,1,1,1,1,1,1,0])) = some code ∧
  ∃ fr,Run X (evT X) 87 m code [(0,.ptr 0 0 0 0),(7,.int .i64 n),(8,.int .i64 (d:Nat)),(9,.int .i64 ((1 + d:Nat):Int))] E ⟨.normal,fr,E'⟩∧cO [0,7,9] fr = wV n ((uf d + y:Nat):Int):=by
 by_cases h4:4≤d
 ·obtain ⟨E1,oa1,s1,y,h1,h2,h3,hr⟩:=ab1 (m:=m) (n:=n) h hs hb hd h4
  obtain ⟨ya,yb⟩:=lY h2 hs
  obtain ⟨y,rfl⟩:∃ y':Nat,y = (y':Int):=⟨y.toNat,by omega⟩
  refine ⟨E1,oa1,s1,y,h1,h2,h3,_,rfl,wV n ((uf d:Nat) + (y:Nat)),?_,?_⟩
  ·have h4I:(4:Int)≤((d:Nat):Int):=by omega
   apply Run.seq (fr':=[(0,.ptr 0 0 0 0),(7,.int .i64 n),(8,.int .i64 (d:Nat)),(9,.int .i64 ((1 + d:Nat):Int)),(75,.bool true)]) (H':=E)
   ·(refine ⟨0,?_⟩;simp [-getElem?_pos,go_sem,eqV,ah,h4I])
   refine Run.cond (d:=true) rfl ?_
   apply Run.seq (fr':=[(0,.ptr 0 0 0 0),(7,.int .i64 n),(8,.int .i64 (d:Nat)),(10,.int .i64 (mg d:Nat))]) (H':=E)
   ·have e1:((d:Nat):Int).tdiv 2 = ((d / 2:Nat):Int):=by rw [auM (by omega)];omega
    have e2:((d:Nat):Int) / 2 = ((d / 2:Nat):Int):=by omega
    have w1:IntKind.i64.wrap (((d / 2:Nat):Int)) = ((d / 2:Nat):Int):=wrap_i64 (by omega) (by omega)
    have w2:IntKind.i64.wrap (((d / 2:Nat):Int) - 1) = ((mg d:Nat):Int):=by
     unfold mg
     rw [if_neg (by omega),wrap_i64 (by omega) (by omega)];omega
    generalize mg d = q at *
    generalize d / 2 = p at *
    (refine ⟨0,?_⟩;simp [-getElem?_pos,go_sem,eqV,ah,e1,e2,w1,w2,ak])
   exact piece hr _ rfl
  ·simp [cO,wV,ay]
 ·have hx:mg d = 0:=by unfold mg;rw [if_pos (by omega)]
  have hB:uf d = 1 + d:=by unfold uf;rw [if_pos (by omega)]
  refine ⟨E,oa,s,0,h,?_,Kpt.refl _ _ _,_,rfl,[(0,.ptr 0 0 0 0),(7,.int .i64 n),(8,.int .i64 (d:Nat)),(9,.int .i64 ((1 + d:Nat):Int)),(75,.bool false)],?_,?_⟩
  ·rw [hx];exact dJ.ret hs fun _=>rfl
  ·have h4I:¬ (4:Int)≤((d:Nat):Int):=by omega
   apply Run.seq (fr':=[(0,.ptr 0 0 0 0),(7,.int .i64 n),(8,.int .i64 (d:Nat)),(9,.int .i64 ((1 + d:Nat):Int)),(75,.bool false)]) (H':=E)
   ·(refine ⟨0,?_⟩;simp [-getElem?_pos,go_sem,eqV,ah,h4I])
   exact Run.cond (d:=false) rfl ⟨0,rfl⟩
  ·rw [hB];simp [cO,wV,ay]
theorem ZJ {m n k:Nat} {E:AM.Heap} (h:IrV c b mo t E 0 oa s) (hs:iW b mo s) (hm:mo≤1000000) (hn:n≤1000000) (hk:1≤k) (hk2:s.e = 0→k≤s.o.length):∃ code,((Try.f87.body).bind (aB [1,1,1,1,1,1,1,1,1,1])) = some code ∧
  aj (Goes fun fr E'=>∃ s' oa',IrV c b mo t E' 0 oa' s'∧(∀ x,oa = some x→oa' = some x)∧dJ b mo (rU (yN mo k) n) () s s' ()) X (evT X) 87 m code (vO (n:Nat) (k:Nat) 0) E:=by
 refine ⟨_,rfl,?_⟩
 apply aj.block
 refine aj.kQ (I:=fun q fr E'=>∃ oa' s' i,i≤n∧q = n - i∧fr = vO (n:Nat) (k:Nat) i∧IrV c b mo t E' 0 oa' s'∧(∀ a,oa = some a→oa' = some a)∧iW b mo s'∧(s'.e = 0→k≤s'.o.length)∧Cnt b mo (rU (yN mo k) (n - i)) () s' (rU (yN mo k) n) () s (fun u=>u)) ?_ (k:=n) ⟨oa,s,0,by omega,by omega,rfl,h,fun _ h=>h,hs,hk2,fun _ _ h=>h⟩
 rintro q fr E' ⟨oa',s',i,hi,rfl,rfl,hV,hm',hs',hk',hC⟩
 have h6:=ab3 (m:=m) (n:=n) (i:=i) (k:=(k:Nat)) hV
 by_cases hin:i < n∧s'.e = 0
 ·obtain ⟨E5,oa5,s5,v1,v2,v3,hr8⟩:=ab4 (m:=m) (n:=n) (i:=i) (d:=true) hV hs' hin.2 hm hk (hk' hin.2)
  have hup:=(Qr k).up b mo s'.k s'.o
  refine aj.of (o:=⟨.normal,vO (n:Nat) (k:Nat) (i + 1),E5⟩) ?_ (.inl ⟨rfl,n - (i + 1),by omega,oa5,s5,i + 1,by omega,rfl,rfl,v1,fun a ha=>v3.same a (hm' a ha),v2.1,?_,?_⟩)
  ·rw [show decide (i < n) = true by simp [hin.1],hin.2] at h6
   apply Run.seq (fr':=vO (n:Nat) (k:Nat) i ++ [(114,.bool true)]) (H':=E')
   ·apply Run.seq (piece h6 _ rfl)
    refine ⟨0,?_⟩
    simp only [vO]
    simp [-getElem?_pos,go_sem,eqV,ah]
   apply Run.seq (fr':=vO (n:Nat) (k:Nat) i) (H':=E5)
   ·apply Run.block
    ·exact piece hr8 _ rfl
    ·simp
   ·have w:IntKind.i64.wrap ((i:Int) + 1) = ((i + 1:Nat):Int):=by rw [wrap_i64 (by omega) (by omega)];omega
    simp only [vO]
    (refine ⟨0,?_⟩;simp [-getElem?_pos,go_sem,eqV,ah,w,ak])
  ·intro he5
   obtain ⟨_,hok⟩:=v2.fine he5
   obtain ⟨_,_,⟨x,hx⟩,_⟩:=hup _ _ _ hok hs'.1
   rw [hx,atQ]
   have:=hk' hin.2
   omega
  ·have:n - i = (n - (i + 1)) + 1:=by omega
   rw [this] at hC
   exact Cnt.step (m:=yN mo k) (k:=fun _=>rU (yN mo k) (n - (i + 1))) hC v2
 ·refine aj.of (o:=⟨.exit 0,vO (n:Nat) (k:Nat) i ++ [(114,.bool false)],E'⟩) ?_ (.inr ⟨by simp,rfl,s',oa',hV,hm',?_⟩)
  ·have hd:(decide (i < n) && (s'.e == 0)) = false:=by
    by_cases h1:i < n
    ·have:¬ s'.e = 0:=fun h=>hin ⟨h1,h⟩
     simp [this]
    ·simp [h1]
   rw [hd] at h6
   apply Run.bI
   ·apply Run.seq (piece h6 _ rfl)
    refine ⟨0,?_⟩
    simp only [vO]
    simp [-getElem?_pos,go_sem,eqV,ah]
   ·simp
  ·refine hC _ () ?_
   by_cases h1:s'.e = 0
   ·have:n - i = 0:=by
     have:¬ i < n:=fun h=>hin ⟨h,h1⟩
     omega
    rw [this]
    exact dJ.ret hs' fun _=>rfl
   ·exact dJ.stop hs' h1
theorem Na {m cd sy:Nat} {dl:List Int} {E:AM.Heap} (h:IrV c b mo t E 0 oa s) (hs:iW b mo s) (hb:b.length≤100000) (hm:mo≤1000000) (PN:257≤sy) (hsy:sy≤100000) (hl:dl.length < 9223372036854775808):∃ code,Try.f87.body = some code ∧
  aj (jG fun fr E'=>∃ s' oa',IrV c b mo t E' 0 oa' s'∧(∀ x,oa = some x→oa' = some x)∧dJ b mo (DU b mo dl sy) () s s' ()) X (evT X) 87 m code [(0,.ptr 0 0 0 0),(1,.int .i64 (sy:Nat)),(2,.ro cd (.pi .i64 dl) 3)] E:=by
 refine ⟨_,rfl,?_⟩
 apply aj.seq (piece afN _ rfl)
 have hV0:IrV c b mo t (E ++ [some MZ]) 0 oa s:=h.cat
 have hj:(E ++ [some MZ])[E.length]? = some (some MZ):=by simp
 have hj0:E.length ≠ 0:=by have:=h.lt.1;omega
 have hja:∀ a,oa = some a→E.length ≠ a:=fun a ha=>by have:=h.lt.2 a ha;omega
 have w1:IntKind.i64.wrap ((sy:Int) - 257) = ((sy - 257:Nat):Int):=by rw [wrap_i64 (by omega) (by omega)];omega
 generalize hEj:E ++ [some MZ] = E0 at *
 generalize E.length = j at *
 by_cases XI:286≤sy
 ·have hI:(29:Int)≤((sy - 257:Nat):Int):=by omega
  obtain ⟨E1,oa1,k1,k2,k3⟩:=qR (e:=5) hV0
  refine ⟨⟨.ret,[],E1⟩,⟨.inr rfl,_,oa1,k2,k3.same,?_⟩,?_⟩
  ·unfold DU;rw [if_pos XI];exact dJ.bad hs (by simp)
  ·generalize sy - 257 = q at *
   (refine ⟨0,?_⟩;simp [-getElem?_pos,go_sem,eqV,ah,w1,hI,k1])
 have aaI:sy < 286:=by omega
 have hC:Cnt b mo (eP (gQ b (DT sy)) fun x=>eP (vJ b dl) fun d=>if 30≤d then sU 5 else eP (gQ b (mg d)) fun y=>Oq mo (uf d + y.toNat) (Bz sy + x).toNat) () s (DU b mo dl sy) () s (fun u=>u):=by
  intro s2 y hy
  unfold DU;rw [if_neg XI];exact hy
 apply aj.seq (fr':=[(0,.ptr 0 0 0 0),(1,.int .i64 (sy:Nat)),(2,.ro cd (.pi .i64 dl) 3),(6,.ptr j 0 0 0),(44,.bool false)]) (H':=E0)
 ·have hI:¬ (29:Int)≤((sy - 257:Nat):Int):=by omega
  generalize sy - 257 = q at *
  (refine ⟨0,?_⟩;simp [-getElem?_pos,go_sem,eqV,ah,w1,hI])
 obtain ⟨E1,oa1,s1,x,v1,r1,k1,hr1⟩:=afO (m:=m) (cd:=cd) (dl:=dl) (d:=false) hV0 hs hb PN aaI hj hj0 hja
 have hC1:=hC.step r1
 obtain ⟨hb3,hb4,hb5⟩:=Rf PN aaI
 obtain ⟨xa,xb⟩:=lY r1 hs
 have hp:2 ^ DT sy≤2 ^ 5:=auk (by omega) hb5
 obtain ⟨n,hn⟩:∃ n:Nat,Bz sy + x = (n:Int):=⟨(Bz sy + x).toNat,by omega⟩
 rw [hn] at hr1
 simp only [hn,auy] at hC1
 apply aj.seq (piece hr1 _ rfl)
 obtain ⟨E2,oa2,s2,d,h2,v2,r2,k2⟩:=IC (a:=.ro cd (.pi .i64 dl) 3) (l:=dl) v1 r1.1 hb rfl (fun x hx=>by cases hx) hl
 have hC2:=hC1.step r2
 apply aj.seq (fr':=AP (n:Nat) d) (H':=E2)
 ·simp only [AP]
  (refine ⟨0,?_⟩;simp [-getElem?_pos,go_sem,eqV,ah,h2,ak])
 apply aj.assoc
 apply aj.seq (piece (afP (m:=m) v2) _ rfl)
 have hsm:∀ a,oa = some a→oa2 = some a:=fun a ha=>k2.same a (k1.same a ha)
 by_cases he2:¬ s2.e = 0
 ·have heb:(s2.e != 0) = true:=by simpa using he2
  refine ⟨⟨.ret,AP (n:Nat) d ++ [(67,.bool true)],E2⟩,⟨.inr rfl,s2,oa2,v2,hsm,hC2 _ () (dJ.stop r2.1 he2)⟩,?_⟩
  rw [heb]
  refine ⟨0,?_⟩
  simp only [AP]
  simp [-getElem?_pos,go_sem,eqV,ah]
 have he2:s2.e = 0:=Classical.not_not.1 he2
 apply aj.seq (fr':=AP (n:Nat) d ++ [(67,.bool false)]) (H':=E2)
 ·rw [he2]
  refine ⟨0,?_⟩
  simp only [AP]
  simp [-getElem?_pos,go_sem,eqV,ah]
 by_cases h30:30≤d
 ·have hI:(30:Int)≤((d:Nat):Int):=by omega
  obtain ⟨E3,oa3,g1,g2,g3⟩:=qR (e:=5) v2
  rw [if_pos h30] at hC2
  refine ⟨⟨.ret,[],E3⟩,⟨.inr rfl,_,oa3,g2,fun a ha=>g3.same a (hsm a ha),hC2 _ () (dJ.bad r2.1 (by simp))⟩,?_⟩
  simp only [AP]
  (refine ⟨0,?_⟩;simp [-getElem?_pos,go_sem,eqV,ah,hI,g1])
 have afQ:d < 30:=by omega
 rw [if_neg h30] at hC2
 apply aj.seq (fr':=AP (n:Nat) d ++ [(69,.bool false)]) (H':=E2)
 ·have hI:¬ (30:Int)≤((d:Nat):Int):=by omega
  simp only [AP]
  (refine ⟨0,?_⟩;simp [-getElem?_pos,go_sem,eqV,ah,hI])
 apply aj.seq (fr':=[(0,.ptr 0 0 0 0),(7,.int .i64 (n:Nat)),(8,.int .i64 (d:Nat)),(9,.int .i64 ((1 + d:Nat):Int))]) (H':=E2)
 ·have w:IntKind.i64.wrap (1 + (d:Int)) = ((1 + d:Nat):Int):=by rw [wrap_i64 (by omega) (by omega)];omega
  simp only [AP]
  generalize 1 + d = q at *
  (refine ⟨0,?_⟩;simp [-getElem?_pos,go_sem,eqV,ah,w,ak])
 obtain ⟨E3,oa3,s3,y,v3,r3,k3,afL,hcode3,fr3,hr3,hf3⟩:=ZI (m:=m) (n:=(n:Nat)) v2 r2.1 hb afQ
 have hC3:=hC2.step r3
 simp only [auy] at hC3
 apply aj.seq (fr':=fr3) (H':=E3)
 ·exact (atK hcode3) ▸ hr3
 have ab5:∀ a,oa = some a→oa3 = some a:=fun a ha=>k3.same a (hsm a ha)
 have hk1:1≤uf d + y:=by have:=(Rh afQ).1;omega
 generalize hk:uf d + y = k at *
 have g0:ay fr3 0 = .ptr 0 0 0 0:=by
  have:=congrArg (fun f=>ay f 0) hf3
  simpa [cO,wV,ay] using this
 have g7:ay fr3 7 = .int .i64 (n:Nat):=by
  have:=congrArg (fun f=>ay f 7) hf3
  simpa [cO,wV,ay] using this
 have g9:ay fr3 9 = .int .i64 (k:Nat):=by
  have:=congrArg (fun f=>ay f 9) hf3
  simpa [cO,wV,ay] using this
 apply aj.assoc
 apply aj.seq (piece (ab2 (m:=m) g0 g7 g9 v3) _ rfl)
 -- may it be?
 have hP:∃ E4 oa4 s4,IrV c b mo t E4 0 oa4 s4∧(∀ x,oa = some x→oa4 = some x)∧Cnt b mo (rU (yN mo k) n) () s4 (DU b mo dl sy) () s (fun u=>u)∧iW b mo s4∧(s4.e = 0→k≤s4.o.length) ∧
   ∃ code,((Try.f87.body).bind (aB [1,1,1,1,1,1,1,1,0,1])) = some code∧∃ fr,Run X (evT X) 87 m code (wV (n:Nat) (k:Nat) ++ [(102,.bool (s3.e == 0 && decide (s3.o.length < k)))]) E3 ⟨.normal,fr,E4⟩∧ay fr 0 = .ptr 0 0 0 0∧ay fr 7 = .int .i64 (n:Nat)∧ay fr 9 = .int .i64 (k:Nat):=by
  by_cases he3:s3.e = 0
  ·by_cases hlk:s3.o.length < k
   ·obtain ⟨E4,oa4,q1,q2,q3⟩:=qR (e:=5) v3
    have hf:(kR s3 5).e ≠ 0:=by unfold kR;rw [if_pos he3];simp
    refine ⟨E4,oa4,_,q2,fun a ha=>q3.same a (ab5 a ha),?_,XJ r3.1,fun h=>absurd h hf,_,rfl,wV (n:Nat) (k:Nat),?_,rfl,rfl,rfl⟩
    ·intro s5 u hu
     obtain ⟨rfl,rfl⟩:=hu.stopped hf
     refine hC3 _ () ?_
     unfold kR
     rw [if_pos he3]
     exact dJ.EG (e:=5) ⟨r3.1.1,r3.1.2⟩ he3 (by unfold Oq;rw [if_pos hlk]) rfl (by simp)
    ·rw [he3,decide_eq_true hlk]
     refine Run.cond (d:=true) rfl ?_
     simp only [wV]
     (refine ⟨0,?_⟩;simp [-getElem?_pos,go_sem,eqV,ah,q1])
   ·refine ⟨E3,oa3,s3,v3,ab5,?_,r3.1,fun _=>by omega,_,rfl,wV (n:Nat) (k:Nat) ++ [(102,.bool false)],?_,rfl,rfl,rfl⟩
    ·intro s5 u hu
     refine hC3 _ _ ⟨hu.1,?_⟩
     have h2:=hu.2
     rw [if_pos he3] at h2 ⊢
     unfold Oq
     rw [if_neg hlk]
     exact h2
    ·rw [he3,decide_eq_false hlk]
     exact Run.cond (d:=false) rfl ⟨0,rfl⟩
  ·refine ⟨E3,oa3,s3,v3,ab5,?_,r3.1,fun h=>absurd h he3,_,rfl,wV (n:Nat) (k:Nat) ++ [(102,.bool false)],?_,rfl,rfl,rfl⟩
   ·intro s5 u hu
    obtain ⟨rfl,rfl⟩:=hu.stopped he3
    exact hC3 _ () (dJ.stop r3.1 he3)
   ·rw [show (s3.e == 0) = false by simpa using he3,au7]
    exact Run.cond (d:=false) rfl ⟨0,rfl⟩
 obtain ⟨E4,oa4,s4,v4,aoL,hC4,hs4,hk4,ar6,ab6,fr4,hr4,f0,f7,f9⟩:=hP
 apply aj.seq (fr':=fr4) (H':=E4)
 ·exact (atK ab6) ▸ hr4
 apply aj.seq (fr':=vO (n:Nat) (k:Nat) 0) (H':=E4)
 ·simp only [vO]
  (refine ⟨0,?_⟩;simp [-getElem?_pos,go_sem,eqV,ah,f0,f7,f9,ak])
 have hL:=ZJ (m:=m) (n:=n) (k:=k) v4 hs4 hm (by omega) hk1 hk4
 refine (piece hL _ rfl).mono ?_
 rintro out ⟨ho1,s5,oa5,p1,p2,p3⟩
 exact ⟨.inl ho1,s5,oa5,p1,fun a ha=>p2 a (aoL a ha),hC4 _ () p3⟩
theorem TN {sy:Nat} {dl:List Int} {a:AV} (h:IrV c b mo t H o oa s) (hs:iW b mo s) (hb:b.length≤100000) (hm:mo≤1000000) (PN:257≤sy) (hsy:sy≤100000) (ha:fC H a = some (.pi .i64 dl)) (hd:∀ x ∈ slO a,x ≠ o∧∀ y,oa = some y→x ≠ y) (hl:dl.length < 9223372036854775808) :
  ∃ H' oa' s',evT X 87 [.ptr o 0 0 0,.int .i64 (sy:Nat),a] H = some (.tup [],H')∧IrV c b mo t H' o oa' s'∧dJ b mo (DU b mo dl sy) () s s' ()∧Kpt H H' o oa oa':=by
 obtain ⟨code,hc⟩:∃ code,Try.f87.body = some code:=⟨_,rfl⟩
 obtain ⟨H',oa',s',a,h1,h2,h3,h4⟩:=CG (f:=87) (n:=4) (xs:=[.int .i64 (sy:Nat),a]) (ys:=[.int .i64 (sy:Nat),.ro (rQ H a) (.pi .i64 dl) 3]) (m:=DU b mo dl sy) (d:=()) (v:=fun _=>[]) Try.func87 hc rfl h (fun π K hπ=>fF.flat rfl rfl (fF.UH rfl ha rfl (by
  rw [hπ]
  refine jd.2 ?_
  intro x hx hx2
  obtain ⟨h1,h2⟩:=hd x hx
  rcases atX.1 hx2 with h3 | h3
  ·exact h1 h3
  ·exact h2 x (by simpa using h3) rfl) fF.nil)) rfl rfl (by simp [dn]) (fun _=>⟨rfl,rfl,rfl⟩) (by
  intro mm E oa1 hE
  obtain ⟨code,hc,ht⟩:=Na (m:=mm) (cd:=rQ H a) hE hs hb hm PN hsy hl
  refine ⟨code,hc,?_⟩
  rw [adU]
  refine ht.mono fun o ho=>⟨ho.1,?_⟩
  obtain ⟨s',oa',q1,q2,q3⟩:=ho.2
  exact ⟨s',oa',(),rfl,q1,q2,q3⟩)
 exact ⟨H',oa',s',h1,h2,h3,h4⟩
end
theorem Nb (i x:Int):∀ (l cs:List Int) (j0 j:Nat),jI i x l cs j0 = some j→j < j0 + l.length
 | [],_,_,_,h=>by simp [jI] at h
 | _ :: _,[],_,_,h=>by simp [jI] at h
 | y :: l,z :: cs,j0,j,h=>by
  unfold jI at h
  split at h
  ·have:=atK h
   simp;omega
  ·have:=Nb i x l cs (j0 + 1) j h
   simp;omega
theorem XK {b:List UInt8} {l codes:List Int}:∀ {f i:Nat} {x:Int} {k k1 j:Nat} {o o1:List UInt8},decP b l codes f i x k o = .ok j k1 o1→k < k1∧o1 = o∧j < l.length
 | 0,_,_,_,_,_,_,_,h=>by cases h
 | f + 1,i,x,k,k1,j,o,o1,h=>by
  unfold decP at h
  obtain ⟨y,k2,o2,h1,h2⟩:=kH h
  unfold vW at h1
  split at h1
  ·obtain ⟨rfl,rfl,rfl⟩:=jm h1
   cases hf:jI i (2 * x + iI b k) l codes 0 with
   | some j2 =>
    rw [hf] at h2
    obtain ⟨rfl,rfl,rfl⟩:=jm h2
    have:=Nb _ _ _ _ _ _ hf
    exact ⟨by omega,rfl,by omega⟩
   | none =>
    rw [hf] at h2
    obtain ⟨e1,e2,e3⟩:=XK h2
    exact ⟨by omega,e2,e3⟩
  ·cases h1
theorem ab7 {b:List UInt8} {l:List Int} {k k1 j:Nat} {o o1:List UInt8} (h:vJ b l k o = .ok j k1 o1):k < k1∧o1 = o∧j < l.length∧(iF l).2 = 0:=by
 unfold vJ at h
 split at h
 ·rename_i he
  obtain ⟨e1,e2,e3⟩:=XK h
  exact ⟨e1,e2,e3,he⟩
 ·cases h
section
variable {c:Nat} {b:List UInt8} {mo:Int} {t:Nat} {H:AM.Heap} {o:Nat} {oa:Option Nat} {s:Is}
def mG (cl cd:Nat) (ll dl:List Int):AM.Frame:=[(0,.ptr 0 0 0 0),(1,.ro cl (.pi .i64 ll) 2),(2,.ro cd (.pi .i64 dl) 3)]
theorem afR {m cl cd:Nat} {ll dl:List Int} {E:AM.Heap} (h:IrV c b mo t E 0 oa s):∃ code,((Try.f82.body).bind (aB [0,0,0,0])) = some code∧Run X (evT X) 82 m code (mG cl cd ll dl) E ⟨.normal,mG cl cd ll dl ++ [(11,.bool (s.e == 0))],E⟩:=by
 refine ⟨_,rfl,?_⟩
 obtain ⟨⟨vo,τ1,τ,a1,a2,h0,ho⟩,hne⟩:=id h
 simp only [fK] at h0
 by_cases he:s.e = 0
 ·rw [he] at h0 ⊢
  simp only [mG]
  (refine ⟨0,?_⟩;simp [-getElem?_pos,go_sem,eqV,ah,h0])
 ·have heb:(s.e == 0) = false:=by simpa using he
  simp only [mG]
  (refine ⟨0,?_⟩;simp [-getElem?_pos,go_sem,eqV,ah,h0,he,heb])
theorem afS {m cl cd j:Nat} {ll dl:List Int} {E:AM.Heap} (h:IrV c b mo t E 0 oa s):∃ code,((Try.f82.body).bind (aB [0,0,1,0,1,0,0])) = some code∧Run X (evT X) 82 m code (mG cl cd ll dl ++ [(6,.int .i64 (j:Nat))]) E ⟨.normal,mG cl cd ll dl ++ [(6,.int .i64 (j:Nat)),(19,.bool (s.e != 0 || j == 256))],E⟩:=by
 refine ⟨_,rfl,?_⟩
 obtain ⟨⟨vo,τ1,τ,a1,a2,h0,ho⟩,hne⟩:=id h
 simp only [fK] at h0
 by_cases he:s.e = 0
 ·rw [he] at h0 ⊢
  by_cases hj:j = 256
  ·subst hj
   simp only [mG]
   (refine ⟨0,?_⟩;simp [-getElem?_pos,go_sem,eqV,ah,h0])
  ·have h1:(j == 256) = false:=by simpa using hj
   have h2:((j:Int) == 256) = false:=by simp;omega
   have h3:¬ ((j:Int) = 256):=by omega
   rw [h1]
   simp only [mG]
   (refine ⟨0,?_⟩;simp [-getElem?_pos,go_sem,eqV,ah,h0,h2,h3])
 ·have heb:(s.e != 0) = true:=by simpa using he
  rw [heb]
  simp only [mG]
  (refine ⟨0,?_⟩;simp [-getElem?_pos,go_sem,eqV,ah,h0,he,heb])
theorem PO {m cl cd F:Nat} {ll dl:List Int} {E:AM.Heap} (h:IrV c b mo t E 0 oa s) (hs:iW b mo s) (hb:b.length≤100000) (hm:mo≤1000000) (hF:8 * b.length < F) (hl:ll.length < 9223372036854775808) (hl2:dl.length < 9223372036854775808):∃ code,Try.f82.body = some code ∧
  aj (jG fun fr E'=>∃ s' oa',IrV c b mo t E' 0 oa' s'∧(∀ x,oa = some x→oa' = some x)∧dJ b mo (sV b mo ll dl F) () s s' ()) X (evT X) 82 m code (mG cl cd ll dl) E:=by
 refine ⟨_,rfl,?_⟩
 refine aj.mono (Q:=Or2 (fun fr E'=>∃ s' oa',IrV c b mo t E' 0 oa' s'∧(∀ x,oa = some x→oa' = some x)∧dJ b mo (sV b mo ll dl F) () s s' ()) (fun o=>o.ex = .ret∧∃ s' oa',IrV c b mo t o.H 0 oa' s'∧(∀ x,oa = some x→oa' = some x)∧dJ b mo (sV b mo ll dl F) () s s' ())) ?_ (by
  rintro out (⟨h1,h2⟩ | ⟨_,h1,h2⟩)
  ·exact ⟨.inl h1,h2⟩
  ·exact ⟨.inr h1,h2⟩)
 apply aj.JG
 refine aj.kQ (I:=fun q fr E'=>∃ oa' s',q = (if s'.e = 0 then 8 * b.length - s'.k + 1 else 0)∧fr = mG cl cd ll dl∧IrV c b mo t E' 0 oa' s'∧(∀ a,oa = some a→oa' = some a)∧iW b mo s'∧∃ f,(s'.e = 0→8 * b.length < f + s'.k)∧Cnt b mo (sV b mo ll dl f) () s' (sV b mo ll dl F) () s (fun u=>u)) ?_ (k:=if s.e = 0 then 8 * b.length - s.k + 1 else 0) ⟨oa,s,rfl,rfl,h,fun _ h=>h,hs,F,fun _=>by omega,fun _ _ h=>h⟩
 rintro q fr E' ⟨oa',s',rfl,rfl,hV,hm',hs',f,hf,hC⟩
 have h0:=afR (m:=m) (cl:=cl) (cd:=cd) (ll:=ll) (dl:=dl) hV
 by_cases he:¬ s'.e = 0
 ·refine aj.of (o:=⟨.exit 0,mG cl cd ll dl ++ [(11,.bool false)],E'⟩) ?_ (.inr ⟨by simp,.inl ⟨rfl,s',oa',hV,hm',hC _ () (dJ.stop hs' he)⟩⟩)
  rw [show (s'.e == 0) = false by simpa using he] at h0
  apply Run.bI
  ·apply Run.seq (piece h0 _ rfl)
   refine ⟨0,?_⟩
   simp only [mG]
   simp [-getElem?_pos,go_sem,eqV,ah]
  ·simp
 have he:s'.e = 0:=Classical.not_not.1 he
 rw [he] at h0
 obtain ⟨f,rfl⟩:∃ f',f = f' + 1:=⟨f - 1,by have:=hs'.1;have:=hf he;omega⟩
 apply aj.seq (fr':=mG cl cd ll dl ++ [(11,.bool true)]) (H':=E')
 ·apply Run.seq (piece h0 _ rfl)
  refine ⟨0,?_⟩
  simp only [mG]
  simp [-getElem?_pos,go_sem,eqV,ah]
 obtain ⟨E2,oa2,s2,j,h2,v2,r2,k2⟩:=IC (a:=.ro cl (.pi .i64 ll) 2) (l:=ll) hV hs' hb rfl (fun x hx=>by cases hx) hl
 have hC2:=hC.step r2
 have hsm:∀ a,oa = some a→oa2 = some a:=fun a ha=>k2.same a (hm' a ha)
 have h3:=afS (m:=m) (cl:=cl) (cd:=cd) (j:=j) (ll:=ll) (dl:=dl) v2
 by_cases hret:¬ s2.e = 0∨j = 256
 ·-- it is over
  refine aj.of (o:=⟨.ret,mG cl cd ll dl ++ [(6,.int .i64 (j:Nat)),(19,.bool true)],E2⟩) ?_ (.inr ⟨by simp,.inr ⟨rfl,rfl,s2,oa2,v2,hsm,?_⟩⟩)
  ·rw [show (s2.e != 0 || j == 256) = true by
    rcases hret with h | h
    ·rw [show (s2.e != 0) = true by simpa using h];rfl
    ·rw [h];simp] at h3
   apply Run.block
   ·apply Run.seq (fr':=mG cl cd ll dl ++ [(6,.int .i64 (j:Nat))]) (H':=E2)
    ·simp only [mG]
     (refine ⟨0,?_⟩;simp [-getElem?_pos,go_sem,eqV,ah,h2,ak])
    apply Run.block
    ·apply Run.seq (piece h3 _ rfl)
     refine ⟨0,?_⟩
     simp only [mG]
     simp [-getElem?_pos,go_sem,eqV,ah]
    ·simp
   ·simp
  ·refine hC2 _ () ?_
   by_cases h4:s2.e = 0
   ·have hj:j = 256:=by
     rcases hret with h | h
     ·exact absurd h4 h
     ·exact h
    rw [if_pos hj]
    exact dJ.ret r2.1 fun _=>rfl
   ·exact dJ.stop r2.1 h4
 have he2:s2.e = 0:=Classical.not_not.1 fun h=>hret (.inl h)
 have hj:¬ j = 256:=fun h=>hret (.inr h)
 rw [if_neg hj] at hC2
 obtain ⟨_,hok⟩:=r2.fine he2
 obtain ⟨hk1,_,hjl,hrc⟩:=ab7 hok
 have ar7:j < 320:=by have:=(wW hrc).1;omega
 rw [he2,show (j == 256) = false by simpa using hj] at h3
 have htail:∀ (E3:AM.Heap) (fr3:AM.Frame),(∃ code,((Try.f82.body).bind (aB [0,0,1,0,1,0,1,1])) = some code∧Run X (evT X) 82 m code (mG cl cd ll dl ++ [(6,.int .i64 (j:Nat)),(19,.bool false)]) E2 ⟨.normal,mG cl cd ll dl,E3⟩)→∃ code,((Try.f82.body).bind (aB [0,0,1])) = some code∧Run X (evT X) 82 m code (mG cl cd ll dl ++ [(11,.bool true)]) E' ⟨.normal,mG cl cd ll dl,E3⟩:=by
  intro E3 fr3 hh
  refine ⟨_,rfl,?_⟩
  apply Run.block
  ·apply Run.seq (fr':=mG cl cd ll dl ++ [(6,.int .i64 (j:Nat))]) (H':=E2)
   ·simp only [mG]
    (refine ⟨0,?_⟩;simp [-getElem?_pos,go_sem,eqV,ah,h2,ak])
   apply Run.block
   ·apply Run.seq (piece h3 _ rfl)
    refine Run.cond (d:=false) (by simp [mG,aJ,ay]) ?_
    exact piece hh _ rfl
   ·simp
  ·simp
 by_cases h256:j < 256
 ·rw [if_pos h256] at hC2
  obtain ⟨E3,oa3,s3,g1,g2,g3,g4⟩:=J7 (y:=UInt8.ofNat j) v2 r2.1 hm
  have hC3:=hC2.step g3
  have hup:=(D9 (UInt8.ofNat j)).up b mo s2.k s2.o
  refine aj.of (o:=⟨.normal,mG cl cd ll dl,E3⟩) ?_ (.inl ⟨rfl,_,?_,oa3,s3,rfl,rfl,g2,fun a ha=>g4.same a (hsm a ha),g3.1,f,?_,hC3⟩)
  ·refine piece (htail E3 [] ⟨_,rfl,?_⟩) _ rfl
   have hy:(((UInt8.ofNat j).toNat:Nat):Int) = (j:Int):=by
    rw [au1,auT (by omega)]
   rw [hy] at g1
   have hI:(j:Int) < 256:=by omega
   have w:IntKind.u8.wrap (j:Int) = (j:Int):=wrap_u8 (by omega) (by omega)
   simp only [mG]
   (refine ⟨0,?_⟩;simp [-getElem?_pos,go_sem,eqV,ah,hI,w,g1,ak])
  ·rw [if_pos he]
   split
   ·rename_i he3
    obtain ⟨_,PS⟩:=g3.fine he3
    have:=(hup _ _ _ PS r2.1.1).1
    have:=g3.1.1
    omega
   ·omega
  ·intro he3
   obtain ⟨_,PS⟩:=g3.fine he3
   have:=(hup _ _ _ PS r2.1.1).1
   have:=hf he
   omega
 ·rw [if_neg h256] at hC2
  obtain ⟨E3,oa3,s3,g1,g2,g3,g4⟩:=TN (sy:=j) (a:=.ro cd (.pi .i64 dl) 3) (dl:=dl) v2 r2.1 hb hm (by omega) (by omega) rfl (fun x hx=>by cases hx) hl2
  have hC3:=hC2.step g3
  have hup:=(Qs dl j).up b mo s2.k s2.o
  refine aj.of (o:=⟨.normal,mG cl cd ll dl,E3⟩) ?_ (.inl ⟨rfl,_,?_,oa3,s3,rfl,rfl,g2,fun a ha=>g4.same a (hsm a ha),g3.1,f,?_,hC3⟩)
  ·refine piece (htail E3 [] ⟨_,rfl,?_⟩) _ rfl
   have hI:¬ (j:Int) < 256:=by omega
   simp only [mG]
   (refine ⟨0,?_⟩;simp [-getElem?_pos,go_sem,eqV,ah,hI,g1,ak])
  ·rw [if_pos he]
   split
   ·rename_i he3
    obtain ⟨_,PS⟩:=g3.fine he3
    have:=(hup _ _ _ PS r2.1.1).1
    have:=g3.1.1
    omega
   ·omega
  ·intro he3
   obtain ⟨_,PS⟩:=g3.fine he3
   have:=(hup _ _ _ PS r2.1.1).1
   have:=hf he
   omega
theorem Xt {F:Nat} {ll dl:List Int} {a a2:AV} (h:IrV c b mo t H o oa s) (hs:iW b mo s) (hb:b.length≤100000) (hm:mo≤1000000) (hF:8 * b.length < F) (ha:fC H a = some (.pi .i64 ll)) (hd:∀ x ∈ slO a,x ≠ o∧∀ y,oa = some y→x ≠ y) (ha2:fC H a2 = some (.pi .i64 dl)) (hd2:∀ x ∈ slO a2,x ≠ o∧∀ y,oa = some y→x ≠ y)
  (hl:ll.length < 9223372036854775808) (hl2:dl.length < 9223372036854775808) :
  ∃ H' oa' s',evT X 82 [.ptr o 0 0 0,a,a2] H = some (.tup [],H')∧IrV c b mo t H' o oa' s'∧dJ b mo (sV b mo ll dl F) () s s' ()∧Kpt H H' o oa oa':=by
 obtain ⟨code,hc⟩:∃ code,Try.f82.body = some code:=⟨_,rfl⟩
 have hdis:∀ x,(∀ y ∈ slO x,y ≠ o∧∀ z,oa = some z→y ≠ z)→disjoint (slO x) (o :: oa.toList) = true:=by
  intro x hx
  refine jd.2 ?_
  intro y hy hy2
  obtain ⟨h1,h2⟩:=hx y hy
  rcases atX.1 hy2 with h3 | h3
  ·exact h1 h3
  ·exact h2 y (by simpa using h3) rfl
 obtain ⟨H',oa',s',_,h1,h2,h3,h4⟩:=CG (f:=82) (n:=4) (xs:=[a,a2]) (ys:=[.ro (rQ H a) (.pi .i64 ll) 2,.ro (rQ H a2) (.pi .i64 dl) 3]) (m:=sV b mo ll dl F) (d:=()) (v:=fun _=>[]) Try.func82 hc rfl h (fun π K hπ=>fF.UH rfl ha rfl (by rw [hπ];exact hdis a hd) (fF.UH rfl ha2 rfl (by rw [hπ];exact hdis a2 hd2) fF.nil)) rfl rfl (by simp [dn]) (fun _=>⟨rfl,rfl,rfl⟩) (by
  intro mm E oa1 hE
  obtain ⟨code,hc,ht⟩:=PO (m:=mm) (cl:=rQ H a) (cd:=rQ H a2) hE hs hb hm hF hl hl2
  refine ⟨code,hc,?_⟩
  rw [adR]
  refine ht.mono fun o ho=>⟨ho.1,?_⟩
  obtain ⟨s',oa',q1,q2,q3⟩:=ho.2
  exact ⟨s',oa',(),rfl,q1,q2,q3⟩)
 exact ⟨H',oa',s',h1,h2,h3,h4⟩
end
end Go.Proofs.Ytbodincpjijdiaa
