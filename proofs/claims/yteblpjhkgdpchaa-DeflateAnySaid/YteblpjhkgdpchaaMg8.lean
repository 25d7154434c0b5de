/- IO to IJ: texts of this claim, one behind the other; what each shows stands at its head. -/
import Derived.Test.YteblpjhkgdpchaaAm4
import Derived.Test.YteblpjhkgdpchaaMg7
set_option linter.unusedSimpArgs false
set_option linter.unusedVariables false
set_option maxRecDepth 100000
set_option maxHeartbeats 8000000
namespace Go.Proofs.Yteblpjhkgdpchaa
open Go.AM
theorem AL {K k:Nat} (h:k < K):sg (pi0 K) k = k:=jo (by rw [qw,if_pos h])
section
variable {c:Nat} {b:List UInt8} {mo n:Int} {t:Nat} {H:AM.Heap} {lb nb rb o:Nat} {la oa:Option Nat} {acc:List Int} {s:Is}
theorem Dp {S:List AM.Obj} {π:List (Nat × Nat)} {n0 r0 o0 k:Nat} {la0 oa0:Option Nat} {x:Int} (hI:Img t H π S) (hS:AgS c b mo n S 0 n0 r0 o0 la0 oa0 acc s) (hok:OkS S) (hR:reach (S.map some) aA [0,n0,r0] [] = List.range S.length) (hl:acc.length≤1000) (hk:k≤1000)
    (hx:∀ (E':AM.Heap) (la':Option Nat) (acc':List Int) (s':Is),AgV c b mo n 6 E' 0 n0 r0 o0 la' oa0 acc' s'→(∀ a,la0 = some a→la' = some a)→(la0 = none→∀ a,la' = some a→S.length≤a)→∃ π' S' la1,Img 6 E' π' S'∧OkS S'∧AgS c b mo n S' 0 n0 r0 o0 la1 oa0 acc' s'∧S.length≤S'.length ∧
      (∀ j:Nat,j < S.length→∃ g,π'[j]? = some (j,g))∧(∀ (j:Nat) (ob ob':AM.Obj),S[j]? = some ob→S'[j]? = some ob'→ob'.row = ob.row)∧(∀ j,S.length≤j→j < S'.length→j ∈ reach (S'.map some) aA (List.range S.length) [])∧(∀ a,la0 = some a→la1 = some a)∧(la0 = none→∀ a,la1 = some a→S.length≤a)) :
    ∃ H' la' acc' s',evT X 63 [.int .i64 x,.int .i64 (k:Nat),.ptr (sg π 0) 0 0 0,.ptr (sg π n0) 0 0 0,.ptr (sg π r0) 0 0 0] H = some (.tup [],H')∧AgV c b mo n t H' (sg π 0) (sg π n0) (sg π r0) (sg π o0) la' (oa0.map (sg π)) acc' s'∧(acc',s') = agR n acc x k s∧H.length≤H'.length ∧
      (∀ a,la0 = some a→la' = some (sg π a))∧(la0 = none→∀ a,la' = some a→H.length≤a)∧(∀ j,j < H.length→j ∉ π.map Prod.fst→H'[j]? = H[j]?):=by
  obtain ⟨code,hc⟩:∃ code,Try.f63.body = some code:=⟨_,rfl⟩
  have p0:=(Img.bx1 hI hS.l).1
  have pn:=(Img.bx1 hI hS.n).1
  have pr:=(Img.bx1 hI hS.r).1
  have l0:=eP hS.l
  have ln:=eP hS.n
  have lr:=eP hS.r
  have lo:=eP hS.d
  have loa:∀ a,oa0 = some a→a < S.length:=by
    intro a ha
    have:=hS.po
    subst ha
    exact eP this
  have lla:∀ a,la0 = some a→a < S.length:=by
    intro a ha
    have:=hS.pl
    subst ha
    exact eP this
  obtain ⟨π'',S',v0,H',τf,hE,hτf,hI',hok',hid,⟨la1,acc',s',hS',hv0,hag,hm,hnw⟩,hlen,hfix,hnew,hrest⟩:=Ev1.img (C:=X) (T:=evT X) (f:=63) (H:=H) (n:=6) (xs:=[.int .i64 x,.int .i64 (k:Nat),.ptr (sg π 0) 0 0 0,.ptr (sg π n0) 0 0 0,.ptr (sg π r0) 0 0 0]) (ys:=[.int .i64 x,.int .i64 (k:Nat),.ptr 0 0 0 0,.ptr n0 0 0 0,.ptr r0 0 0 0])
    (Q:=fun S' v0=>∃ la1 acc' s',AgS c b mo n S' 0 n0 r0 o0 la1 oa0 acc' s'∧v0 = .tup []∧(acc',s') = agR n acc x k s∧(∀ a,la0 = some a→la1 = some a)∧(la0 = none→∀ a,la1 = some a→S.length≤a)) (dL X) Try.func63 hc hI hok
    (fD.flat rfl rfl (fD.flat rfl rfl (fD.ptr hI rfl p0 l0 (fD.ptr hI rfl pn ln (fD.ptr hI rfl pr lr fD.nil))))) (by simpa [aB,ids] using hR) rfl (by simp [dM]) (by
      intro E hEl hEI
      have hV:=AgV.nM hEI hS
      rw [AL l0,AL ln,AL lr,AL lo] at hV
      have e1:oa0.map (sg (pi0 S.length)) = oa0:=by
        cases oa0 with
        | none=>rfl
        | some a=>simp [AL (loa a rfl)]
      have e2:la0.map (sg (pi0 S.length)) = la0:=by
        cases la0 with
        | none=>rfl
        | some a=>simp [AL (lla a rfl)]
      rw [e1,e2] at hV
      obtain ⟨oN,hc2,ht⟩:=Wi (m:=S.length) (k:=k) (x:=x) hV hl hk
      rw [hc] at hc2
      obtain rfl:=Option.some.inj hc2
      rw [Z5]
      refine ht.mono fun out ho=>⟨ho.1,?_⟩
      obtain ⟨la',acc',s',q1,q2,q3,q4⟩:=ho.2
      obtain ⟨π',S',la1,r1,r2,r3,r4,r5,r6,r7,r8,r9⟩:=hx _ _ _ _ q1 q2 (fun h1 a ha=>by rw [← hEl];exact q3 h1 a ha)
      exact Leaves.plain rfl rfl rfl rfl r1 r2 r4 r5 r6 r7 ⟨la1,acc',s',r3,rfl,q4,r8,r9⟩)
  subst hv0
  have hV':=AgV.nM hI' hS'
  have hsg:∀ j,j < S.length→sg π'' j = sg π j:=by
    intro j hj
    obtain ⟨o,g,ob,h1,_,_⟩:=hI.at' hj
    obtain ⟨g',h2⟩:=hfix j o g h1
    rw [jo h1,jo h2]
  rw [hsg 0 l0,hsg n0 ln,hsg r0 lr,hsg o0 lo] at hV'
  have e1:oa0.map (sg π'') = oa0.map (sg π):=by
    cases oa0 with
    | none=>rfl
    | some a=>simp [hsg a (loa a rfl)]
  rw [e1] at hV'
  refine ⟨H',_,acc',s',fH hE,hV',hag,hlen,?_,?_,?_⟩
  · intro a ha
    rw [hm a ha]
    simp [hsg a (lla a ha)]
  · intro h1 a ha
    cases hq:la1 with
    | none=>rw [hq] at ha;cases ha
    | some z =>
      rw [hq] at ha
      simp only [Option.map_some,Option.some.injEq] at ha
      subst ha
      have hz:=hnw h1 z hq
      subst hq
      have hpl:=hS'.pl
      obtain ⟨o,g,ob,h2,_,_⟩:=hI'.at' (eP hpl)
      rw [jo h2]
      exact hnew z o g hz h2
  · intro j hj hjn
    refine hrest j hj ?_
    intro k o g hk e
    exact hjn (List.mem_map.2 ⟨(o,g),List.mem_of_getElem? hk,e.symm⟩)
def lS (c:Nat) (b:List UInt8) (mo n:Int) (acc:List Int) (s:Is):List AM.Obj:=[bxO (.ro 0 .pn 0) 0,bxO (.int .i64 n) 0,bxO (.ptr 3 0 0 0) 0,bF c b mo s (.ro 0 .pn 0) 0 0]
theorem J9:OkS (lS c b mo n acc s):=by
  intro k ob0 hk x hx
  match k,hk with
  | 0,hk =>
    obtain rfl:=Option.some.inj hk
    simp [bxO,bF,ids,aB] at hx <;> (subst hx;simp [lS])
  | 1,hk =>
    obtain rfl:=Option.some.inj hk
    simp [bxO,bF,ids,aB] at hx <;> (subst hx;simp [lS])
  | 2,hk =>
    obtain rfl:=Option.some.inj hk
    simp [bxO,bF,ids,aB] at hx <;> (subst hx;simp [lS])
  | 3,hk =>
    obtain rfl:=Option.some.inj hk
    simp [bxO,bF,ids,aB] at hx <;> (subst hx;simp [lS])
  | k + 4,hk=>simp [lS] at hk
theorem PI (ha:acc = []) (ho:s.o = []):AgS c b mo n (lS c b mo n acc s) 0 1 2 3 none none acc s:=⟨rfl,ha,rfl,rfl,rfl,ho,by decide⟩
theorem Wj:reach ((lS c b mo n acc s).map some) aA [0,1,2] [] = List.range (lS c b mo n acc s).length:=by
  show reach _ (99990 + 1 + 1 + 1 + 1 + 1 + 1 + 1 + 1 + 1 + 1) [0,1,2] [] = [0,1,2,3]
  simp [lS,bxO,bF,reach,ids,aB]
theorem PK   (h:AgV c b mo n t H lb nb rb o none none acc s):∃ π,π = [(lb,0),(nb,0),(rb,0),(o,0)]∧Img t H π (lS c b mo n acc s)∧acc = []∧s.o = []:=by
  have hnd:=h.nd
  obtain ⟨lv,τ,hτ,hb,hL⟩:=h.l
  obtain ⟨τ2,hτ2,hb2⟩:=h.n
  obtain ⟨τ3,hτ3,hb3⟩:=h.r
  obtain ⟨⟨vo,τ1,τr,hτ1,hτr,h0,ho⟩,hne⟩:=h.d
  obtain ⟨hacc,τl,hτl,rfl⟩:=hL
  obtain ⟨hso,τo,hτo,rfl⟩:=ho
  refine ⟨_,rfl,Img.ofL ⟨⟨_,hb,Like.jf (by simp [ren,bg,eu,tz,idN]) hτ (by simp [tags,aU];exact hτl)⟩,⟨_,hb2,Like.jf (by simp [ren,bg]) hτ2 (by simp [tags,aU])⟩,⟨_,hb3,Like.jf (by simp [ren,bg,eu,idN]) hτ3 (by simp [tags,aU])⟩,⟨_,h0,Like.jf (by simp [ren,bg,eu,tz,idN]) hτr (by simp [tags,aU];exact ⟨hτ1,hτo⟩)⟩,trivial⟩ ?_,hacc,hso⟩
  simp at hnd ⊢
  omega
def qx (c:Nat) (b:List UInt8) (mo n:Int) (acc:List Int) (s:Is):List AM.Obj:=[bxO (.sl 1 0 acc.length 0) 0,⟨.pi .i64 acc,0,none,0,true,false,0⟩,bxO (.int .i64 n) 0,bxO (.ptr 4 0 0 0) 0,bF c b mo s (.ro 0 .pn 0) 0 0]
theorem Ko:OkS (qx c b mo n acc s):=by
  intro k ob0 hk x hx
  match k,hk with
  | 0,hk =>
    obtain rfl:=Option.some.inj hk
    simp [bxO,bF,ids,aB] at hx <;> (subst hx;simp [qx])
  | 1,hk =>
    obtain rfl:=Option.some.inj hk
    simp [bxO,bF,ids,aB] at hx <;> (subst hx;simp [qx])
  | 2,hk =>
    obtain rfl:=Option.some.inj hk
    simp [bxO,bF,ids,aB] at hx <;> (subst hx;simp [qx])
  | 3,hk =>
    obtain rfl:=Option.some.inj hk
    simp [bxO,bF,ids,aB] at hx <;> (subst hx;simp [qx])
  | 4,hk =>
    obtain rfl:=Option.some.inj hk
    simp [bxO,bF,ids,aB] at hx <;> (subst hx;simp [qx])
  | k + 5,hk=>simp [qx] at hk
theorem PL  (ho:s.o = []):AgS c b mo n (qx c b mo n acc s) 0 2 3 4 (some 1) none acc s:=⟨rfl,rfl,rfl,rfl,rfl,ho,by decide⟩
theorem Wn:reach ((qx c b mo n acc s).map some) aA [0,2,3] [] = List.range (qx c b mo n acc s).length:=by
  show reach _ (99990 + 1 + 1 + 1 + 1 + 1 + 1 + 1 + 1 + 1 + 1) [0,2,3] [] = [0,1,2,3,4]
  simp [qx,bxO,bF,reach,ids,aB]
theorem PN {a:Nat}  (h:AgV c b mo n t H lb nb rb o (some a) none acc s):∃ g π,π = [(lb,0),(a,g),(nb,0),(rb,0),(o,0)]∧Img t H π (qx c b mo n acc s)∧s.o = []:=by
  have hnd:=h.nd
  obtain ⟨lv,τ,hτ,hb,hL⟩:=h.l
  obtain ⟨τ2,hτ2,hb2⟩:=h.n
  obtain ⟨τ3,hτ3,hb3⟩:=h.r
  obtain ⟨⟨vo,τ1,τr,hτ1,hτr,h0,ho⟩,hne⟩:=h.d
  obtain ⟨g,τl,obl,hτl,rfl,hla,hwl⟩:=hL
  obtain ⟨hso,τo,hτo,rfl⟩:=ho
  refine ⟨g,_,rfl,Img.ofL ⟨⟨_,hb,Like.jf (by simp [ren,bg,eu,tz,idN]) hτ (by simp [tags,aU])⟩,⟨_,hla,Like.ofRow hwl rfl hτl⟩,⟨_,hb2,Like.jf (by simp [ren,bg]) hτ2 (by simp [tags,aU])⟩,⟨_,hb3,Like.jf (by simp [ren,bg,eu,idN]) hτ3 (by simp [tags,aU])⟩,⟨_,h0,Like.jf (by simp [ren,bg,eu,tz,idN]) hτr (by simp [tags,aU];exact ⟨hτ1,hτo⟩)⟩,trivial⟩ ?_,hso⟩
  simp at hnd ⊢
  omega
def lg (c:Nat) (b:List UInt8) (mo n:Int) (acc:List Int) (s:Is):List AM.Obj:=[bxO (.ro 0 .pn 0) 0,bxO (.int .i64 n) 0,bxO (.ptr 3 0 0 0) 0,bF c b mo s (.sl 4 0 s.o.length 0) 0 0,⟨.pb s.o,0,none,0,true,false,0⟩]
theorem Kq:OkS (lg c b mo n acc s):=by
  intro k ob0 hk x hx
  match k,hk with
  | 0,hk =>
    obtain rfl:=Option.some.inj hk
    simp [bxO,bF,ids,aB] at hx <;> (subst hx;simp [lg])
  | 1,hk =>
    obtain rfl:=Option.some.inj hk
    simp [bxO,bF,ids,aB] at hx <;> (subst hx;simp [lg])
  | 2,hk =>
    obtain rfl:=Option.some.inj hk
    simp [bxO,bF,ids,aB] at hx <;> (subst hx;simp [lg])
  | 3,hk =>
    obtain rfl:=Option.some.inj hk
    simp [bxO,bF,ids,aB] at hx <;> (subst hx;simp [lg])
  | 4,hk =>
    obtain rfl:=Option.some.inj hk
    simp [bxO,bF,ids,aB] at hx <;> (subst hx;simp [lg])
  | k + 5,hk=>simp [lg] at hk
theorem PO (ha:acc = []):AgS c b mo n (lg c b mo n acc s) 0 1 2 3 none (some 4) acc s:=⟨rfl,ha,rfl,rfl,rfl,rfl,by decide⟩
theorem Wp:reach ((lg c b mo n acc s).map some) aA [0,1,2] [] = List.range (lg c b mo n acc s).length:=by
  show reach _ (99990 + 1 + 1 + 1 + 1 + 1 + 1 + 1 + 1 + 1 + 1) [0,1,2] [] = [0,1,2,3,4]
  simp [lg,bxO,bF,reach,ids,aB]
theorem PS  {z:Nat} (h:AgV c b mo n t H lb nb rb o none (some z) acc s):∃ g2 π,π = [(lb,0),(nb,0),(rb,0),(o,0),(z,g2)]∧Img t H π (lg c b mo n acc s)∧acc = []:=by
  have hnd:=h.nd
  obtain ⟨lv,τ,hτ,hb,hL⟩:=h.l
  obtain ⟨τ2,hτ2,hb2⟩:=h.n
  obtain ⟨τ3,hτ3,hb3⟩:=h.r
  obtain ⟨⟨vo,τ1,τr,hτ1,hτr,h0,ho⟩,hne⟩:=h.d
  obtain ⟨hacc,τl,hτl,rfl⟩:=hL
  obtain ⟨g2,τo,obo,hτo,rfl,hoa,hwo⟩:=ho
  refine ⟨g2,_,rfl,Img.ofL ⟨⟨_,hb,Like.jf (by simp [ren,bg,eu,tz,idN]) hτ (by simp [tags,aU];exact hτl)⟩,⟨_,hb2,Like.jf (by simp [ren,bg]) hτ2 (by simp [tags,aU])⟩,⟨_,hb3,Like.jf (by simp [ren,bg,eu,idN]) hτ3 (by simp [tags,aU])⟩,⟨_,h0,Like.jf (by simp [ren,bg,eu,tz,idN]) hτr (by simp [tags,aU];exact hτ1)⟩,⟨_,hoa,Like.ofRow hwo rfl hτo⟩,trivial⟩ ?_,hacc⟩
  simp at hnd ⊢
  omega
def pK (c:Nat) (b:List UInt8) (mo n:Int) (acc:List Int) (s:Is):List AM.Obj:=[bxO (.sl 1 0 acc.length 0) 0,⟨.pi .i64 acc,0,none,0,true,false,0⟩,bxO (.int .i64 n) 0,bxO (.ptr 4 0 0 0) 0,bF c b mo s (.sl 5 0 s.o.length 0) 0 0,⟨.pb s.o,0,none,0,true,false,0⟩]
theorem Kt:OkS (pK c b mo n acc s):=by
  intro k ob0 hk x hx
  match k,hk with
  | 0,hk =>
    obtain rfl:=Option.some.inj hk
    simp [bxO,bF,ids,aB] at hx <;> (subst hx;simp [pK])
  | 1,hk =>
    obtain rfl:=Option.some.inj hk
    simp [bxO,bF,ids,aB] at hx <;> (subst hx;simp [pK])
  | 2,hk =>
    obtain rfl:=Option.some.inj hk
    simp [bxO,bF,ids,aB] at hx <;> (subst hx;simp [pK])
  | 3,hk =>
    obtain rfl:=Option.some.inj hk
    simp [bxO,bF,ids,aB] at hx <;> (subst hx;simp [pK])
  | 4,hk =>
    obtain rfl:=Option.some.inj hk
    simp [bxO,bF,ids,aB] at hx <;> (subst hx;simp [pK])
  | 5,hk =>
    obtain rfl:=Option.some.inj hk
    simp [bxO,bF,ids,aB] at hx <;> (subst hx;simp [pK])
  | k + 6,hk=>simp [pK] at hk
theorem PU :AgS c b mo n (pK c b mo n acc s) 0 2 3 4 (some 1) (some 5) acc s:=⟨rfl,rfl,rfl,rfl,rfl,rfl,by decide⟩
theorem Wq:reach ((pK c b mo n acc s).map some) aA [0,2,3] [] = List.range (pK c b mo n acc s).length:=by
  show reach _ (99990 + 1 + 1 + 1 + 1 + 1 + 1 + 1 + 1 + 1 + 1) [0,2,3] [] = [0,1,2,3,4,5]
  simp [pK,bxO,bF,reach,ids,aB]
theorem PV {a:Nat} {z:Nat} (h:AgV c b mo n t H lb nb rb o (some a) (some z) acc s):∃ g g2 π,π = [(lb,0),(a,g),(nb,0),(rb,0),(o,0),(z,g2)]∧Img t H π (pK c b mo n acc s):=by
  have hnd:=h.nd
  obtain ⟨lv,τ,hτ,hb,hL⟩:=h.l
  obtain ⟨τ2,hτ2,hb2⟩:=h.n
  obtain ⟨τ3,hτ3,hb3⟩:=h.r
  obtain ⟨⟨vo,τ1,τr,hτ1,hτr,h0,ho⟩,hne⟩:=h.d
  obtain ⟨g,τl,obl,hτl,rfl,hla,hwl⟩:=hL
  obtain ⟨g2,τo,obo,hτo,rfl,hoa,hwo⟩:=ho
  refine ⟨g,g2,_,rfl,Img.ofL ⟨⟨_,hb,Like.jf (by simp [ren,bg,eu,tz,idN]) hτ (by simp [tags,aU])⟩,⟨_,hla,Like.ofRow hwl rfl hτl⟩,⟨_,hb2,Like.jf (by simp [ren,bg]) hτ2 (by simp [tags,aU])⟩,⟨_,hb3,Like.jf (by simp [ren,bg,eu,idN]) hτ3 (by simp [tags,aU])⟩,⟨_,h0,Like.jf (by simp [ren,bg,eu,tz,idN]) hτr (by simp [tags,aU];exact hτ1)⟩,⟨_,hoa,Like.ofRow hwo rfl hτo⟩,trivial⟩ ?_⟩
  simp at hnd ⊢
  omega
def nN (c:Nat) (b:List UInt8) (mo n:Int) (acc:List Int) (s:Is):List AM.Obj:=[bxO (.sl 4 0 acc.length 0) 0,bxO (.int .i64 n) 0,bxO (.ptr 3 0 0 0) 0,bF c b mo s (.ro 0 .pn 0) 0 0,⟨.pi .i64 acc,0,none,0,true,false,0⟩]
theorem Q8:OkS (nN c b mo n acc s):=by
  intro k ob0 hk x hx
  match k,hk with
  | 0,hk =>
    obtain rfl:=Option.some.inj hk
    simp [bxO,bF,ids,aB] at hx <;> (subst hx;simp [nN])
  | 1,hk =>
    obtain rfl:=Option.some.inj hk
    simp [bxO,bF,ids,aB] at hx <;> (subst hx;simp [nN])
  | 2,hk =>
    obtain rfl:=Option.some.inj hk
    simp [bxO,bF,ids,aB] at hx <;> (subst hx;simp [nN])
  | 3,hk =>
    obtain rfl:=Option.some.inj hk
    simp [bxO,bF,ids,aB] at hx <;> (subst hx;simp [nN])
  | 4,hk =>
    obtain rfl:=Option.some.inj hk
    simp [bxO,bF,ids,aB] at hx <;> (subst hx;simp [nN])
  | k + 5,hk=>simp [nN] at hk
theorem TI  (ho:s.o = []):AgS c b mo n (nN c b mo n acc s) 0 1 2 3 (some 4) none acc s:=⟨rfl,rfl,rfl,rfl,rfl,ho,by decide⟩
theorem TJ:4 ∈ reach ((nN c b mo n acc s).map some) aA [0,1,2,3] []:=by
  show 4 ∈ reach _ (99990 + 1 + 1 + 1 + 1 + 1 + 1 + 1 + 1 + 1 + 1) _ []
  simp [nN,bxO,bF,reach,ids,aB]
theorem TK {a:Nat}  (h:AgV c b mo n t H lb nb rb o (some a) none acc s):∃ g π,π = [(lb,0),(nb,0),(rb,0),(o,0),(a,g)]∧Img t H π (nN c b mo n acc s)∧s.o = []:=by
  have hnd:=h.nd
  obtain ⟨lv,τ,hτ,hb,hL⟩:=h.l
  obtain ⟨τ2,hτ2,hb2⟩:=h.n
  obtain ⟨τ3,hτ3,hb3⟩:=h.r
  obtain ⟨⟨vo,τ1,τr,hτ1,hτr,h0,ho⟩,hne⟩:=h.d
  obtain ⟨g,τl,obl,hτl,rfl,hla,hwl⟩:=hL
  obtain ⟨hso,τo,hτo,rfl⟩:=ho
  refine ⟨g,_,rfl,Img.ofL ⟨⟨_,hb,Like.jf (by simp [ren,bg,eu,tz,idN]) hτ (by simp [tags,aU])⟩,⟨_,hb2,Like.jf (by simp [ren,bg]) hτ2 (by simp [tags,aU])⟩,⟨_,hb3,Like.jf (by simp [ren,bg,eu,idN]) hτ3 (by simp [tags,aU])⟩,⟨_,h0,Like.jf (by simp [ren,bg,eu,tz,idN]) hτr (by simp [tags,aU];exact ⟨hτ1,hτo⟩)⟩,⟨_,hla,Like.ofRow hwl rfl hτl⟩,trivial⟩ ?_,hso⟩
  simp at hnd ⊢
  omega
def lT (c:Nat) (b:List UInt8) (mo n:Int) (acc:List Int) (s:Is):List AM.Obj:=[bxO (.sl 5 0 acc.length 0) 0,bxO (.int .i64 n) 0,bxO (.ptr 3 0 0 0) 0,bF c b mo s (.sl 4 0 s.o.length 0) 0 0,⟨.pb s.o,0,none,0,true,false,0⟩,⟨.pi .i64 acc,0,none,0,true,false,0⟩]
theorem Q9:OkS (lT c b mo n acc s):=by
  intro k ob0 hk x hx
  match k,hk with
  | 0,hk =>
    obtain rfl:=Option.some.inj hk
    simp [bxO,bF,ids,aB] at hx <;> (subst hx;simp [lT])
  | 1,hk =>
    obtain rfl:=Option.some.inj hk
    simp [bxO,bF,ids,aB] at hx <;> (subst hx;simp [lT])
  | 2,hk =>
    obtain rfl:=Option.some.inj hk
    simp [bxO,bF,ids,aB] at hx <;> (subst hx;simp [lT])
  | 3,hk =>
    obtain rfl:=Option.some.inj hk
    simp [bxO,bF,ids,aB] at hx <;> (subst hx;simp [lT])
  | 4,hk =>
    obtain rfl:=Option.some.inj hk
    simp [bxO,bF,ids,aB] at hx <;> (subst hx;simp [lT])
  | 5,hk =>
    obtain rfl:=Option.some.inj hk
    simp [bxO,bF,ids,aB] at hx <;> (subst hx;simp [lT])
  | k + 6,hk=>simp [lT] at hk
theorem TL :AgS c b mo n (lT c b mo n acc s) 0 1 2 3 (some 5) (some 4) acc s:=⟨rfl,rfl,rfl,rfl,rfl,rfl,by decide⟩
theorem TM:5 ∈ reach ((lT c b mo n acc s).map some) aA [0,1,2,3,4] []:=by
  show 5 ∈ reach _ (99990 + 1 + 1 + 1 + 1 + 1 + 1 + 1 + 1 + 1 + 1) _ []
  simp [lT,bxO,bF,reach,ids,aB]
theorem TN {a:Nat} {z:Nat} (h:AgV c b mo n t H lb nb rb o (some a) (some z) acc s):∃ g g2 π,π = [(lb,0),(nb,0),(rb,0),(o,0),(z,g2),(a,g)]∧Img t H π (lT c b mo n acc s):=by
  have hnd:=h.nd
  obtain ⟨lv,τ,hτ,hb,hL⟩:=h.l
  obtain ⟨τ2,hτ2,hb2⟩:=h.n
  obtain ⟨τ3,hτ3,hb3⟩:=h.r
  obtain ⟨⟨vo,τ1,τr,hτ1,hτr,h0,ho⟩,hne⟩:=h.d
  obtain ⟨g,τl,obl,hτl,rfl,hla,hwl⟩:=hL
  obtain ⟨g2,τo,obo,hτo,rfl,hoa,hwo⟩:=ho
  refine ⟨g,g2,_,rfl,Img.ofL ⟨⟨_,hb,Like.jf (by simp [ren,bg,eu,tz,idN]) hτ (by simp [tags,aU])⟩,⟨_,hb2,Like.jf (by simp [ren,bg]) hτ2 (by simp [tags,aU])⟩,⟨_,hb3,Like.jf (by simp [ren,bg,eu,idN]) hτ3 (by simp [tags,aU])⟩,⟨_,h0,Like.jf (by simp [ren,bg,eu,tz,idN]) hτr (by simp [tags,aU];exact hτ1)⟩,⟨_,hoa,Like.ofRow hwo rfl hτo⟩,⟨_,hla,Like.ofRow hwl rfl hτl⟩,trivial⟩ ?_⟩
  simp at hnd ⊢
  omega
theorem TP {k:Nat} {x:Int} (h:AgV c b mo n t H lb nb rb o la oa acc s) (hl:acc.length≤1000) (hk:k≤1000) :
    ∃ H' la' acc' s',evT X 63 [.int .i64 x,.int .i64 (k:Nat),.ptr lb 0 0 0,.ptr nb 0 0 0,.ptr rb 0 0 0] H = some (.tup [],H')∧AgV c b mo n t H' lb nb rb o la' oa acc' s'∧(acc',s') = agR n acc x k s∧H.length≤H'.length ∧
      (∀ a,la = some a→la' = some a)∧(la = none→∀ a,la' = some a→H.length≤a)∧(∀ j,j < H.length→j ∉ [lb,nb,rb,o] ++ la.toList ++ oa.toList→H'[j]? = H[j]?):=by
  cases la with
  | none=>cases oa with
    | none =>
      obtain ⟨π,rfl,hI,hacc,hso⟩:=PK h
      obtain ⟨H',la',acc',s',e1,e2,e3,e4,e5,e6,e7⟩:=Dp (k:=k) (x:=x) hI (PI hacc hso) J9 Wj hl hk (by
        intro E' la' acc' s' hV hm hn
        cases la' with
        | none =>
          obtain ⟨π,rfl,hI2,TQ,TR⟩:=PK hV
          refine ⟨_,_,_,hI2,J9,PI TQ TR,Nat.le_refl _,?_,?_,?_,fun a ha=>(by cases ha),fun _ a ha=>(by cases ha)⟩
          · intro j hj
            simp [lS] at hj
            match j,hj with
            | 0,_=>exact ⟨_,rfl⟩
            | 1,_=>exact ⟨_,rfl⟩
            | 2,_=>exact ⟨_,rfl⟩
            | 3,_=>exact ⟨_,rfl⟩
          · intro j ob ob2 h1 h2
            match j,h1,h2 with
            | 0,h1,h2 =>
              have e1:=Option.some.inj h1
              have e2:=Option.some.inj h2
              subst e1 e2;rfl
            | 1,h1,h2 =>
              have e1:=Option.some.inj h1
              have e2:=Option.some.inj h2
              subst e1 e2;rfl
            | 2,h1,h2 =>
              have e1:=Option.some.inj h1
              have e2:=Option.some.inj h2
              subst e1 e2;rfl
            | 3,h1,h2 =>
              have e1:=Option.some.inj h1
              have e2:=Option.some.inj h2
              subst e1 e2;rfl
            | j + 4,h1,_=>simp [lS] at h1
          · intro j h1 h2
            simp [lS] at h1 h2;omega
        | some a =>
          have hge:=hn rfl a rfl
          obtain ⟨g,π,rfl,hI2,TR⟩:=TK hV
          refine ⟨_,_,some 4,hI2,Q8,TI TR,by simp [lS,nN],?_,?_,?_,fun a ha=>(by cases ha),fun _ a ha=>(by cases ha;simp [lS])⟩
          · intro j hj
            simp [lS] at hj
            match j,hj with
            | 0,_=>exact ⟨_,rfl⟩
            | 1,_=>exact ⟨_,rfl⟩
            | 2,_=>exact ⟨_,rfl⟩
            | 3,_=>exact ⟨_,rfl⟩
          · intro j ob ob2 h1 h2
            match j,h1,h2 with
            | 0,h1,h2 =>
              have e1:=Option.some.inj h1
              have e2:=Option.some.inj h2
              subst e1 e2;rfl
            | 1,h1,h2 =>
              have e1:=Option.some.inj h1
              have e2:=Option.some.inj h2
              subst e1 e2;rfl
            | 2,h1,h2 =>
              have e1:=Option.some.inj h1
              have e2:=Option.some.inj h2
              subst e1 e2;rfl
            | 3,h1,h2 =>
              have e1:=Option.some.inj h1
              have e2:=Option.some.inj h2
              subst e1 e2;rfl
            | j + 4,h1,_=>simp [lS] at h1
          · intro j h1 h2
            simp [lS,nN] at h1 h2
            have:j = 4:=by omega
            subst this
            exact TJ)
      refine ⟨H',la',acc',s',e1,e2,e3,e4,fun a ha=>(by cases ha),fun _ a ha=>e6 rfl a ha,fun j hj hjn=>e7 j hj ?_⟩
      intro hm
      apply hjn
      simp at hm ⊢
      omega
    | some z =>
      obtain ⟨g2,π,rfl,hI,hacc⟩:=PS h
      obtain ⟨H',la',acc',s',e1,e2,e3,e4,e5,e6,e7⟩:=Dp (k:=k) (x:=x) hI (PO hacc ) Kq Wp hl hk (by
        intro E' la' acc' s' hV hm hn
        cases la' with
        | none =>
          obtain ⟨g2,π,rfl,hI2,TQ⟩:=PS hV
          refine ⟨_,_,_,hI2,Kq,PO TQ ,Nat.le_refl _,?_,?_,?_,fun a ha=>(by cases ha),fun _ a ha=>(by cases ha)⟩
          · intro j hj
            simp [lg] at hj
            match j,hj with
            | 0,_=>exact ⟨_,rfl⟩
            | 1,_=>exact ⟨_,rfl⟩
            | 2,_=>exact ⟨_,rfl⟩
            | 3,_=>exact ⟨_,rfl⟩
            | 4,_=>exact ⟨_,rfl⟩
          · intro j ob ob2 h1 h2
            match j,h1,h2 with
            | 0,h1,h2 =>
              have e1:=Option.some.inj h1
              have e2:=Option.some.inj h2
              subst e1 e2;rfl
            | 1,h1,h2 =>
              have e1:=Option.some.inj h1
              have e2:=Option.some.inj h2
              subst e1 e2;rfl
            | 2,h1,h2 =>
              have e1:=Option.some.inj h1
              have e2:=Option.some.inj h2
              subst e1 e2;rfl
            | 3,h1,h2 =>
              have e1:=Option.some.inj h1
              have e2:=Option.some.inj h2
              subst e1 e2;rfl
            | 4,h1,h2 =>
              have e1:=Option.some.inj h1
              have e2:=Option.some.inj h2
              subst e1 e2;rfl
            | j + 5,h1,_=>simp [lg] at h1
          · intro j h1 h2
            simp [lg] at h1 h2;omega
        | some a =>
          have hge:=hn rfl a rfl
          obtain ⟨g,g2,π,rfl,hI2⟩:=TN hV
          refine ⟨_,_,some 5,hI2,Q9,TL ,by simp [lg,lT],?_,?_,?_,fun a ha=>(by cases ha),fun _ a ha=>(by cases ha;simp [lg])⟩
          · intro j hj
            simp [lg] at hj
            match j,hj with
            | 0,_=>exact ⟨_,rfl⟩
            | 1,_=>exact ⟨_,rfl⟩
            | 2,_=>exact ⟨_,rfl⟩
            | 3,_=>exact ⟨_,rfl⟩
            | 4,_=>exact ⟨_,rfl⟩
          · intro j ob ob2 h1 h2
            match j,h1,h2 with
            | 0,h1,h2 =>
              have e1:=Option.some.inj h1
              have e2:=Option.some.inj h2
              subst e1 e2;rfl
            | 1,h1,h2 =>
              have e1:=Option.some.inj h1
              have e2:=Option.some.inj h2
              subst e1 e2;rfl
            | 2,h1,h2 =>
              have e1:=Option.some.inj h1
              have e2:=Option.some.inj h2
              subst e1 e2;rfl
            | 3,h1,h2 =>
              have e1:=Option.some.inj h1
              have e2:=Option.some.inj h2
              subst e1 e2;rfl
            | 4,h1,h2 =>
              have e1:=Option.some.inj h1
              have e2:=Option.some.inj h2
              subst e1 e2;rfl
            | j + 5,h1,_=>simp [lg] at h1
          · intro j h1 h2
            simp [lg,lT] at h1 h2
            have:j = 5:=by omega
            subst this
            exact TM)
      refine ⟨H',la',acc',s',e1,e2,e3,e4,fun a ha=>(by cases ha),fun _ a ha=>e6 rfl a ha,fun j hj hjn=>e7 j hj ?_⟩
      intro hm
      apply hjn
      simp at hm ⊢
      omega
  | some a=>cases oa with
    | none =>
      obtain ⟨g,π,rfl,hI,hso⟩:=PN h
      obtain ⟨H',la',acc',s',e1,e2,e3,e4,e5,e6,e7⟩:=Dp (k:=k) (x:=x) hI (PL hso) Ko Wn hl hk (by
        intro E' la' acc' s' hV hm hn
        obtain rfl:=hm 1 rfl
        obtain ⟨g,π,rfl,hI2,TR⟩:=PN hV
        refine ⟨_,_,_,hI2,Ko,PL TR,Nat.le_refl _,?_,?_,?_,fun a ha=>ha,fun ha=>(by cases ha)⟩
        · intro j hj
          simp [qx] at hj
          match j,hj with
          | 0,_=>exact ⟨_,rfl⟩
          | 1,_=>exact ⟨_,rfl⟩
          | 2,_=>exact ⟨_,rfl⟩
          | 3,_=>exact ⟨_,rfl⟩
          | 4,_=>exact ⟨_,rfl⟩
        · intro j ob ob2 h1 h2
          match j,h1,h2 with
          | 0,h1,h2 =>
            have e1:=Option.some.inj h1
            have e2:=Option.some.inj h2
            subst e1 e2;rfl
          | 1,h1,h2 =>
            have e1:=Option.some.inj h1
            have e2:=Option.some.inj h2
            subst e1 e2;rfl
          | 2,h1,h2 =>
            have e1:=Option.some.inj h1
            have e2:=Option.some.inj h2
            subst e1 e2;rfl
          | 3,h1,h2 =>
            have e1:=Option.some.inj h1
            have e2:=Option.some.inj h2
            subst e1 e2;rfl
          | 4,h1,h2 =>
            have e1:=Option.some.inj h1
            have e2:=Option.some.inj h2
            subst e1 e2;rfl
          | j + 5,h1,_=>simp [qx] at h1
        · intro j h1 h2
          simp [qx] at h1 h2;omega)
      refine ⟨H',la',acc',s',e1,e2,e3,e4,fun a ha=>(by cases ha;exact e5 1 rfl),fun ha=>(by cases ha),fun j hj hjn=>e7 j hj ?_⟩
      intro hm
      apply hjn
      simp at hm ⊢
      omega
    | some z =>
      obtain ⟨g,g2,π,rfl,hI⟩:=PV h
      obtain ⟨H',la',acc',s',e1,e2,e3,e4,e5,e6,e7⟩:=Dp (k:=k) (x:=x) hI (PU ) Kt Wq hl hk (by
        intro E' la' acc' s' hV hm hn
        obtain rfl:=hm 1 rfl
        obtain ⟨g,g2,π,rfl,hI2⟩:=PV hV
        refine ⟨_,_,_,hI2,Kt,PU ,Nat.le_refl _,?_,?_,?_,fun a ha=>ha,fun ha=>(by cases ha)⟩
        · intro j hj
          simp [pK] at hj
          match j,hj with
          | 0,_=>exact ⟨_,rfl⟩
          | 1,_=>exact ⟨_,rfl⟩
          | 2,_=>exact ⟨_,rfl⟩
          | 3,_=>exact ⟨_,rfl⟩
          | 4,_=>exact ⟨_,rfl⟩
          | 5,_=>exact ⟨_,rfl⟩
        · intro j ob ob2 h1 h2
          match j,h1,h2 with
          | 0,h1,h2 =>
            have e1:=Option.some.inj h1
            have e2:=Option.some.inj h2
            subst e1 e2;rfl
          | 1,h1,h2 =>
            have e1:=Option.some.inj h1
            have e2:=Option.some.inj h2
            subst e1 e2;rfl
          | 2,h1,h2 =>
            have e1:=Option.some.inj h1
            have e2:=Option.some.inj h2
            subst e1 e2;rfl
          | 3,h1,h2 =>
            have e1:=Option.some.inj h1
            have e2:=Option.some.inj h2
            subst e1 e2;rfl
          | 4,h1,h2 =>
            have e1:=Option.some.inj h1
            have e2:=Option.some.inj h2
            subst e1 e2;rfl
          | 5,h1,h2 =>
            have e1:=Option.some.inj h1
            have e2:=Option.some.inj h2
            subst e1 e2;rfl
          | j + 6,h1,_=>simp [pK] at h1
        · intro j h1 h2
          simp [pK] at h1 h2;omega)
      refine ⟨H',la',acc',s',e1,e2,e3,e4,fun a ha=>(by cases ha;exact e5 1 rfl),fun ha=>(by cases ha),fun j hj hjn=>e7 j hj ?_⟩
      intro hm
      apply hjn
      simp at hm ⊢
      omega
end
end Go.Proofs.Yteblpjhkgdpchaa
namespace Go.Proofs.Yteblpjhkgdpchaa
open Go.AM
def Cnt (b:List UInt8) (mo:Int) {α β:Type} (m:PM α) (d:α) (s1:Is) (m0:PM β) (d0:β) (s:Is) (f:α→β):Prop:=∀ s2 y,bV b mo m d s1 s2 y→bV b mo m0 d0 s s2 (f y)
theorem Cnt.step {b:List UInt8} {mo:Int} {α β γ:Type} {m:PM γ} {k:γ→PM α} {d:α} {s1 s2:Is} {m0:PM β} {d0:β} {s:Is} {f:α→β} {dx x:γ} (h:Cnt b mo (dG m k) d s1 m0 d0 s f) (h2:bV b mo m dx s1 s2 x):Cnt b mo (k x) d s2 m0 d0 s f:=fun _ _ h3=>h _ _ (h2.bnd h3)
theorem gJ {b:List UInt8} {mo:Int} {n:Nat} {s s':Is} {a:Int} (h:bV b mo (gV b n) 0 s s' a) (hs:fE b mo s):0≤a∧a < ((2 ^ n:Nat):Int):=by
  have hp:0 < 2 ^ n:=Nat.pow_pos (by omega)
  by_cases he:s.e = 0
  · by_cases he2:s'.e = 0
    · have h1:=(h.fine he2).2
      by_cases hl:s.k + n≤8 * b.length
      · rw [Dq b s.k s.o n hl] at h1
        obtain ⟨rfl,_⟩:=iy h1
        have:=Iq b s.k n
        omega
      · rw [D9 b s.k s.o hs.1 n (by omega)] at h1
        cases h1
    · have:=(h.err he he2).2
      subst this
      omega
  · have:=(h.stopped he).2
    subst this
    omega
theorem XY {a m:Nat} (ha:a < 65536) (hm:m < 65536):(a ^^^ m = 65535) ↔ a + m = 65535:=by
  have e1:(BitVec.ofNat 16 a).toNat = a:=by simp;omega
  have e2:(BitVec.ofNat 16 m).toNat = m:=by simp;omega
  have e3:(BitVec.ofNat 16 a ^^^ BitVec.ofNat 16 m).toNat = a ^^^ m:=by rw [BitVec.toNat_xor,e1,e2]
  have e4:(~~~ BitVec.ofNat 16 a).toNat = 65535 - a:=by rw [BitVec.toNat_not,e1]
  constructor
  · intro h
    have h1:BitVec.ofNat 16 a ^^^ BitVec.ofNat 16 m = BitVec.allOnes 16:=BitVec.eq_of_toNat_eq (by rw [e3,h];rfl)
    have h2:BitVec.ofNat 16 m = ~~~ BitVec.ofNat 16 a:=by
      rw [← BitVec.xor_allOnes,← h1,← BitVec.xor_assoc,BitVec.xor_self,BitVec.zero_xor]
    have h3:=congrArg BitVec.toNat h2
    rw [e2,e4] at h3
    omega
  · intro h
    have h2:BitVec.ofNat 16 m = ~~~ BitVec.ofNat 16 a:=BitVec.eq_of_toNat_eq (by rw [e2,e4];omega)
    rw [← e3,h2,← BitVec.xor_allOnes,← BitVec.xor_assoc,BitVec.xor_self,BitVec.zero_xor]
    rfl
theorem aey {a m:Nat} (ha:a < 65536) (hm:m < 65536):IntKind.i64.wrap ((AM.bits .i64 (a:Int) ^^^ AM.bits .i64 (m:Int)).toNat:Nat) = ((a ^^^ m:Nat):Int):=by
  have h:=Nat.xor_lt_two_pow (n:=16) ha hm
  rw [BitVec.toNat_xor,PW (by omega),PW (by omega),wrap_i64 (by omega) (by omega)]
section
variable {c:Nat} {b:List UInt8} {mo:Int} {t:Nat} {H:AM.Heap} {o:Nat} {oa:Option Nat} {s:Is}
theorem Z7 {m:Nat} {E:AM.Heap} (h:IrV c b mo t E 0 oa s) (hk:s.k≤8 * b.length) (hb:b.length≤100000):∃ E',IrV c b mo t E' 0 oa { s with k:=(s.k + 7) / 8 * 8 }∧∃ code,((Try.f46.body).bind (aI [0])) = some code∧Run X (evT X) 46 m code [(0,.ptr 0 0 0 0)] E ⟨.normal,[(0,.ptr 0 0 0 0)],E'⟩:=by
  obtain ⟨⟨vo,τ1,τ,a1,a2,h0,ho⟩,hne⟩:=id h
  refine ⟨AM.upd E 0 (some (bF c b mo { s with k:=(s.k + 7) / 8 * 8 } vo τ1 τ)),IrV.set hne a1 a2 h.lt.1 ho,_,rfl,?_⟩
  have w1:IntKind.i64.wrap ((s.k:Int) + 7) = ((s.k + 7:Nat):Int):=by rw [wrap_i64 (by omega) (by omega)];omega
  have w2:((s.k + 7:Nat):Int).tdiv 8 = (((s.k + 7) / 8:Nat):Int):=by rw [Int.tdiv_eq_ediv_of_nonneg (by omega)];omega
  have w2':((s.k + 7:Nat):Int) / 8 = (((s.k + 7) / 8:Nat):Int):=by omega
  have w3:IntKind.i64.wrap ((((s.k + 7) / 8:Nat):Int)) = (((s.k + 7) / 8:Nat):Int):=wrap_i64 (by omega) (by omega)
  have w4:IntKind.i64.wrap ((((s.k + 7) / 8:Nat):Int) * 8) = (((s.k + 7) / 8 * 8:Nat):Int):=by rw [wrap_i64 (by omega) (by omega)];omega
  simp only [bF] at h0 ⊢
  generalize (s.k + 7) / 8 * 8 = k1 at *
  generalize (s.k + 7) / 8 = k2 at *
  generalize s.k + 7 = k3 at *
  (refine ⟨0,?_⟩;simp (maxSteps:=2000000) -implicitDefEqProofs [-getElem?_pos,go_sem,eqV,ah,h0,w1,w2,w2',w3,w4])
theorem TS {m n q:Nat} {E:AM.Heap} (h:IrV c b mo t E 0 oa s) (hn:n < 65536) (hq:q < 65536):∃ code,((Try.f46.body).bind (aI [1,1,0,1,0])) = some code∧Run X (evT X) 46 m code [(0,.ptr 0 0 0 0),(2,.int .i64 (n:Nat)),(3,.int .i64 (q:Nat))] E ⟨.normal,[(0,.ptr 0 0 0 0),(2,.int .i64 (n:Nat)),(29,.bool (s.e == 0 && !(n + q == 65535)))],E⟩:=by
  refine ⟨_,rfl,?_⟩
  obtain ⟨⟨vo,τ1,τ,a1,a2,h0,ho⟩,hne⟩:=id h
  simp only [bF] at h0
  have hX:=aey hn hq
  have hX2:=hX
  simp only [go_sem] at hX2
  by_cases he:s.e = 0
  · simp only [he,beq_self_eq_true,Bool.true_and]
    rw [he] at h0
    by_cases hx:n + q = 65535
    · have h1:=(XY hn hq).2 hx
      rw [h1] at hX hX2
      rw [show (n + q == 65535) = true by simpa using hx]
      (refine ⟨0,?_⟩;simp (maxSteps:=2000000) -implicitDefEqProofs [-getElem?_pos,go_sem,eqV,ah,h0,hX,hX2])
    · have h1:¬ n ^^^ q = 65535:=fun h=>hx ((XY hn hq).1 h)
      rw [show (n + q == 65535) = false by simpa using hx]
      generalize n ^^^ q = z at *
      have h2:((z:Int) != 65535) = true:=by simp;omega
      (refine ⟨0,?_⟩;simp (maxSteps:=2000000) -implicitDefEqProofs [-getElem?_pos,go_sem,eqV,ah,h0,hX,hX2,h2])
  · rw [show (s.e == 0) = false by simpa using he,Bool.false_and]
    have heb:(s.e == 0) = false:=by simpa using he
    (refine ⟨0,?_⟩;simp (maxSteps:=2000000) -implicitDefEqProofs [-getElem?_pos,go_sem,eqV,ah,h0,he,heb])
def vT (n i:Nat):AM.Frame:=[(0,.ptr 0 0 0 0),(2,.int .i64 (n:Nat)),(4,.int .i64 (i:Nat))]
theorem XZ {m n i:Nat} {E:AM.Heap} (h:IrV c b mo t E 0 oa s):∃ code,((Try.f46.body).bind (aI [1,1,1,1,0,0,0,0])) = some code∧Run X (evT X) 46 m code (vT n i) E ⟨.normal,vT n i ++ [(41,.bool (decide (i < n) && (s.e == 0)))],E⟩:=by
  refine ⟨_,rfl,?_⟩
  obtain ⟨⟨vo,τ1,τ,a1,a2,h0,ho⟩,hne⟩:=id h
  simp only [bF] at h0
  by_cases hi:i < n
  · have hI:(i:Int) < (n:Int):=by omega
    simp only [vT,hi,decide_true,Bool.true_and]
    (refine ⟨0,?_⟩;simp (maxSteps:=2000000) -implicitDefEqProofs [-getElem?_pos,go_sem,eqV,ah,h0,hI])
  · have hI:¬ (i:Int) < (n:Int):=by omega
    simp only [vT,hi,decide_false,Bool.false_and]
    (refine ⟨0,?_⟩;simp (maxSteps:=2000000) -implicitDefEqProofs [-getElem?_pos,go_sem,eqV,ah,h0,hI])
def byP (b:List UInt8) (mo:Int):PM Unit:=dG (gV b 8) fun c=>rH mo (UInt8.ofNat c.toNat)
theorem Z8 {m n i:Nat} {E:AM.Heap} {d:Bool} (h:IrV c b mo t E 0 oa s) (hs:fE b mo s) (hb:b.length≤100000) (hm:mo≤1000000):∃ E' oa' s',IrV c b mo t E' 0 oa' s'∧bV b mo (byP b mo) () s s' ()∧Kpt E E' 0 oa oa'∧∃ code,((Try.f46.body).bind (aI [1,1,1,1,0,0,1,0,0])) = some code ∧
    Run X (evT X) 46 m code (vT n i ++ [(41,.bool d)]) E ⟨.normal,vT n i,E'⟩:=by
  obtain ⟨E1,oa1,s1,a,h1,h2,h3,h4⟩:=iQ (n:=8) (I:=8) rfl h hs hb (by omega)
  obtain ⟨ra,rb⟩:=gJ h3 hs
  obtain ⟨E2,oa2,s2,g1,g2,g3,g4⟩:=Ir (y:=UInt8.ofNat a.toNat) h2 h3.1 hm
  have hy:(((UInt8.ofNat a.toNat).toNat:Nat):Int) = a:=by
    rw [UInt8.toNat_ofNat',Nat.mod_eq_of_lt (by omega)];omega
  rw [hy] at g1
  refine ⟨E2,oa2,s2,g2,h3.bnd g3,h4.trans g4,_,rfl,?_⟩
  have w:IntKind.u8.wrap a = a:=wrap_u8 (by omega) (by omega)
  simp only [vT]
  (refine ⟨0,?_⟩;simp (maxSteps:=2000000) -implicitDefEqProofs [-getElem?_pos,go_sem,eqV,ah,h1,w,g1])
theorem Ku {m:Nat} {E:AM.Heap} (h:IrV c b mo t E 0 oa s) (hs:fE b mo s) (he:s.e = 0) (hb:b.length≤100000) (hm:mo≤1000000):∃ code,Try.f46.body = some code ∧
    aj (jZ fun fr E'=>∃ s' oa',IrV c b mo t E' 0 oa' s'∧(∀ x,oa = some x→oa' = some x)∧bV b mo (FY b mo) () s s' ()) X (evT X) 46 m code [(0,.ptr 0 0 0 0)] E:=by
  refine ⟨_,rfl,?_⟩
  obtain ⟨E0,hV0,hr0⟩:=Z7 (m:=m) h hs.1 hb
  have hs0:fE b mo { s with k:=(s.k + 7) / 8 * 8 }:=⟨by have:=hs.1;simp;omega,hs.2⟩
  have hR0:bV b mo Yw () s { s with k:=(s.k + 7) / 8 * 8 } ():=by
    rw [he]
    exact bV.PX (by simpa [he] using hs0) he rfl
  apply aj.seq (piece hr0 _ rfl)
  obtain ⟨E1,oa1,s1,n,h1,h2,h3,h4⟩:=iQ (n:=16) (I:=16) rfl hV0 hs0 hb (by omega)
  obtain ⟨na,nb⟩:=gJ h3 hs0
  apply aj.seq (fr':=[(0,.ptr 0 0 0 0),(2,.int .i64 n)]) (H':=E1)
  · (refine ⟨0,?_⟩;simp (maxSteps:=2000000) -implicitDefEqProofs [-getElem?_pos,go_sem,eqV,ah,h1,ak])
  obtain ⟨E2,oa2,s2,q,g1,g2,g3,g4⟩:=iQ (n:=16) (I:=16) rfl h2 h3.1 hb (by omega)
  obtain ⟨qa,qb⟩:=gJ g3 h3.1
  obtain ⟨n,rfl⟩:∃ n':Nat,n = (n':Int):=⟨n.toNat,by omega⟩
  obtain ⟨q,rfl⟩:∃ q':Nat,q = (q':Int):=⟨q.toNat,by omega⟩
  apply aj.assoc
  apply aj.seq (fr':=[(0,.ptr 0 0 0 0),(2,.int .i64 (n:Nat)),(3,.int .i64 (q:Nat))]) (H':=E2)
  · (refine ⟨0,?_⟩;simp (maxSteps:=2000000) -implicitDefEqProofs [-getElem?_pos,go_sem,eqV,ah,g1,ak])
  have hn:n < 65536:=by omega
  have hq:q < 65536:=by omega
  -- the two lengths
  have hP:∃ E3 oa3 s3,IrV c b mo t E3 0 oa3 s3∧(∀ x,oa = some x→oa3 = some x)∧Cnt b mo (sK (byP b mo) n) () s3 (FY b mo) () s (fun u=>u)∧fE b mo s3 ∧
      ∃ code,((Try.f46.body).bind (aI [1,1,0,1])) = some code∧∃ fr,Run X (evT X) 46 m code [(0,.ptr 0 0 0 0),(2,.int .i64 (n:Nat)),(3,.int .i64 (q:Nat))] E2 ⟨.normal,fr,E3⟩∧ay fr 0 = .ptr 0 0 0 0∧ay fr 2 = .int .i64 (n:Nat):=by
    have hc:Cnt b mo (if (n:Int) + (q:Int) = 65535 then sK (byP b mo) n else nK 5) () s2 (FY b mo) () s (fun u=>u):=by
      intro s4 y hy
      have:=hR0.bnd (f:=fun _=>dG (gV b 16) fun n=>dG (gV b 16) fun m=>if n + m = 65535 then sK (dG (gV b 8) fun c=>rH mo (UInt8.ofNat c.toNat)) n.toNat else nK 5) (h3.bnd (f:=fun n=>dG (gV b 16) fun m=>if n + m = 65535 then sK (dG (gV b 8) fun c=>rH mo (UInt8.ofNat c.toNat)) n.toNat else nK 5) (g3.bnd (f:=fun m=>if (n:Int) + m = 65535 then sK (dG (gV b 8) fun c=>rH mo (UInt8.ofNat c.toNat)) (n:Int).toNat else nK 5) (by rw [Int.toNat_natCast];exact hy)))
      exact this
    by_cases hx:n + q = 65535
    · rw [if_pos (by omega)] at hc
      refine ⟨E2,oa2,s2,g2,fun a ha=>g4.same a (h4.same a ha),hc,g3.1,_,rfl,[(0,.ptr 0 0 0 0),(2,.int .i64 (n:Nat)),(29,.bool false)],?_,rfl,rfl⟩
      have h3:=TS (m:=m) g2 hn hq
      rw [show (n + q == 65535) = true by simpa using hx,Bool.not_true,Bool.and_false] at h3
      apply Run.seq (piece h3 _ rfl)
      exact Run.cond (d:=false) rfl ⟨0,rfl⟩
    · rw [if_neg (by omega)] at hc
      by_cases he2:s2.e = 0
      · obtain ⟨E3,oa3,k1,k2,k3⟩:=qy (e:=5) g2
        refine ⟨E3,oa3,_,k2,fun a ha=>k3.same a (g4.same a (h4.same a ha)),?_,by unfold fP;split <;> exact ⟨g3.1.1,g3.1.2⟩,_,rfl,[(0,.ptr 0 0 0 0),(2,.int .i64 (n:Nat))],?_,rfl,rfl⟩
        · intro s4 y hy
          have hf:(fP s2 5).e ≠ 0:=by unfold fP;rw [if_pos he2];simp
          obtain ⟨rfl,rfl⟩:=hy.stopped hf
          exact hc _ _ (bV.bad g3.1 (by simp))
        · have h3:=TS (m:=m) g2 hn hq
          rw [show (n + q == 65535) = false by simpa using hx,he2] at h3
          apply Run.seq (piece h3 _ rfl)
          refine Run.cond (d:=true) rfl ?_
          (refine ⟨0,?_⟩;simp (maxSteps:=2000000) -implicitDefEqProofs [-getElem?_pos,go_sem,eqV,ah,k1])
      · refine ⟨E2,oa2,s2,g2,fun a ha=>g4.same a (h4.same a ha),?_,g3.1,_,rfl,[(0,.ptr 0 0 0 0),(2,.int .i64 (n:Nat)),(29,.bool false)],?_,rfl,rfl⟩
        · intro s4 y hy
          obtain ⟨rfl,rfl⟩:=hy.stopped he2
          exact hc _ _ (bV.stop g3.1 he2)
        · have h3:=TS (m:=m) g2 hn hq
          rw [show (s2.e == 0) = false by simpa using he2,Bool.false_and] at h3
          apply Run.seq (piece h3 _ rfl)
          exact Run.cond (d:=false) rfl ⟨0,rfl⟩
  obtain ⟨E3,oa3,s3,hV3,hm3,hC3,hs3,Z9,hcode3,fr3,hr3,f0,f2⟩:=hP
  apply aj.seq (fr':=fr3) (H':=E3)
  · exact (Option.some.inj hcode3) ▸ hr3
  apply aj.seq (fr':=vT n 0) (H':=E3)
  · simp only [vT]
    (refine ⟨0,?_⟩;simp (maxSteps:=2000000) -implicitDefEqProofs [-getElem?_pos,go_sem,eqV,ah,f0,f2,ak])
  refine aj.mono (Q:=Goes fun fr E'=>∃ s' oa',IrV c b mo t E' 0 oa' s'∧(∀ x,oa = some x→oa' = some x)∧bV b mo (FY b mo) () s s' ()) ?_ fun o h=>⟨.inl h.1,h.2⟩
  apply aj.block
  refine aj.kE (I:=fun k fr E'=>∃ oa' s' i,i≤n∧k = n - i∧fr = vT n i∧IrV c b mo t E' 0 oa' s'∧(∀ a,oa = some a→oa' = some a)∧fE b mo s'∧Cnt b mo (sK (byP b mo) (n - i)) () s' (FY b mo) () s (fun u=>u)) ?_ (k:=n) ⟨oa3,s3,0,by omega,by omega,rfl,hV3,hm3,hs3,hC3⟩
  rintro k fr E' ⟨oa',s',i,hi,rfl,rfl,hV,hm',hs',hC⟩
  by_cases hin:i < n∧s'.e = 0
  · obtain ⟨E5,oa5,s5,v1,v2,v3,hr8⟩:=Z8 (m:=m) (n:=n) (i:=i) (d:=true) hV hs' hb hm
    refine aj.of (o:=⟨.normal,vT n (i + 1),E5⟩) ?_ (.inl ⟨rfl,n - (i + 1),by omega,oa5,s5,i + 1,by omega,rfl,rfl,v1,fun a ha=>v3.same a (hm' a ha),v2.1,?_⟩)
    · have h6:=XZ (m:=m) (n:=n) (i:=i) hV
      rw [show decide (i < n) = true by simp [hin.1],hin.2] at h6
      apply Run.seq (fr':=vT n i ++ [(41,.bool true)]) (H':=E')
      · apply Run.seq (piece h6 _ rfl)
        refine ⟨0,?_⟩
        simp only [vT]
        simp (maxSteps:=2000000) -implicitDefEqProofs [-getElem?_pos,go_sem,eqV,ah]
      apply Run.seq (fr':=vT n i) (H':=E5)
      · apply Run.block
        · exact piece hr8 _ rfl
        · simp
      · have w:IntKind.i64.wrap ((i:Int) + 1) = ((i + 1:Nat):Int):=by rw [wrap_i64 (by omega) (by omega)];omega
        simp only [vT]
        (refine ⟨0,?_⟩;simp (maxSteps:=2000000) -implicitDefEqProofs [-getElem?_pos,go_sem,eqV,ah,w,ak])
    · have:n - i = (n - (i + 1)) + 1:=by omega
      rw [this] at hC
      exact Cnt.step (m:=byP b mo) (k:=fun _=>sK (byP b mo) (n - (i + 1))) hC v2
  · refine aj.of (o:=⟨.exit 0,vT n i ++ [(41,.bool false)],E'⟩) ?_ (.inr ⟨by simp,rfl,s',oa',hV,hm',?_⟩)
    · have h6:=XZ (m:=m) (n:=n) (i:=i) hV
      have hd:(decide (i < n) && (s'.e == 0)) = false:=by
        by_cases h1:i < n
        · have:¬ s'.e = 0:=fun h=>hin ⟨h1,h⟩
          simp [this]
        · simp [h1]
      rw [hd] at h6
      apply Run.bG
      · apply Run.seq (piece h6 _ rfl)
        refine ⟨0,?_⟩
        simp only [vT]
        simp (maxSteps:=2000000) -implicitDefEqProofs [-getElem?_pos,go_sem,eqV,ah]
      · simp
    · refine hC _ () ?_
      by_cases h1:s'.e = 0
      · have:n - i = 0:=by
          have:¬ i < n:=fun h=>hin ⟨h,h1⟩
          omega
        rw [this]
        exact bV.ret hs' fun _=>rfl
      · exact bV.stop hs' h1
theorem Rf (h:IrV c b mo t H o oa s) (hs:fE b mo s) (he:s.e = 0) (hb:b.length≤100000) (hm:mo≤1000000):∃ H' oa' s',evT X 46 [.ptr o 0 0 0] H = some (.tup [],H')∧IrV c b mo t H' o oa' s'∧bV b mo (FY b mo) () s s' ()∧Kpt H H' o oa oa':=by
  obtain ⟨code,hc⟩:∃ code,Try.f46.body = some code:=⟨_,rfl⟩
  obtain ⟨H',oa',s',a,h1,h2,h3,h4⟩:=AO (f:=46) (n:=2) (xs:=[]) (ys:=[]) (m:=FY b mo) (d:=()) (v:=fun _=>[]) Try.func46 hc rfl h (fun π K _=>fD.nil) rfl rfl (by simp [dM]) (fun _=>⟨rfl,rfl,rfl⟩) (by
    intro mm E oa1 hE
    obtain ⟨code,hc,ht⟩:=Ku (m:=mm) hE hs he hb hm
    refine ⟨code,hc,?_⟩
    rw [aac]
    refine ht.mono fun o ho=>⟨ho.1,?_⟩
    obtain ⟨s',oa',q1,q2,q3⟩:=ho.2
    exact ⟨s',oa',(),rfl,q1,q2,q3⟩)
  exact ⟨H',oa',s',h1,h2,h3,h4⟩
end
end Go.Proofs.Yteblpjhkgdpchaa
namespace Go.Proofs.Yteblpjhkgdpchaa
open Go.AM
def AP:List AV:=NJ.map fun p=>.pc [.int .i64 p.1,.int .i64 (p.2:Nat)]
def Kv:AM.Obj:=⟨.pr 2 AP,0,some 29,1,false,true,0⟩
theorem aez (x y:Int):lU X 87 [(0,.int .i64 x),(1,.int .i64 y)] = some (.agg (.pi .i64 [x,y])):=by kernel_rfl
theorem aad:lU X 88 [(0,.agg (.pi .i64 [3,0])),(1,.agg (.pi .i64 [4,0])),(2,.agg (.pi .i64 [5,0])),(3,.agg (.pi .i64 [6,0])),(4,.agg (.pi .i64 [7,0])),(5,.agg (.pi .i64 [8,0])),(6,.agg (.pi .i64 [9,0])),(7,.agg (.pi .i64 [10,0])),(8,.agg (.pi .i64 [11,1])),(9,.agg (.pi .i64 [13,1])),(10,.agg (.pi .i64 [15,1])),(11,.agg (.pi .i64 [17,1])),(12,.agg (.pi .i64 [19,2])),(13,.agg (.pi .i64 [23,2])),(14,.agg (.pi .i64 [27,2])),(15,.agg (.pi .i64 [31,2])),(16,.agg (.pi .i64 [35,3])),(17,.agg (.pi .i64 [43,3])),(18,.agg (.pi .i64 [51,3])),(19,.agg (.pi .i64 [59,3])),(20,.agg (.pi .i64 [67,4])),(21,.agg (.pi .i64 [83,4])),(22,.agg (.pi .i64 [99,4])),(23,.agg (.pi .i64 [115,4])),(24,.agg (.pi .i64 [131,5])),(25,.agg (.pi .i64 [163,5])),(26,.agg (.pi .i64 [195,5])),(27,.agg (.pi .i64 [227,5])),(28,.agg (.pi .i64 [258,0]))] = some (.agg (.pr 2 AP)):=by kernel_rfl
theorem Ea:AP.length = 29:=rfl
theorem Rh {s:Nat} (h:257≤s) (h2:s < 286):AP[s - 257]? = some (.pc [.int .i64 (AA s),.int .i64 (CV s:Nat)]):=by
  have hl:s - 257 < NJ.length:=by show s - 257 < 29;omega
  unfold AP AA CV
  rw [List.getElem?_map,List.getElem?_eq_getElem hl,List.getD_eq_getElem?_getD,List.getElem?_eq_getElem hl]
  rfl
theorem PY {s:Nat} (h:257≤s) (h2:s < 286):3≤AA s∧AA s≤258∧CV s≤5:=by
  have key:(List.range 29).all (fun i=>decide (3≤(NJ.getD i (0,0)).1) && (decide ((NJ.getD i (0,0)).1≤258) && decide ((NJ.getD i (0,0)).2≤5))) = true:=by kernel_rfl
  have:=List.all_eq_true.1 key (s - 257) (List.mem_range.2 (by omega))
  simp only [Bool.and_eq_true,decide_eq_true_eq] at this
  exact this
section
variable {c:Nat} {b:List UInt8} {mo:Int} {t:Nat} {H:AM.Heap} {o:Nat} {oa:Option Nat} {s:Is}
theorem IrV.reach (h:IrV c b mo t H o oa s):AM.reach H aA [o] [] = o :: oa.toList:=by
  obtain ⟨⟨vo,τ1,τ,_,_,h0,ho⟩,hne⟩:=h
  cases oa with
  | none =>
    obtain ⟨_,τ2,_,rfl⟩:=ho
    exact pX h0 (by simp [bF,ids,aB])
  | some a =>
    obtain ⟨g,τ2,ob,_,rfl,h3,h4⟩:=ho
    have hi:=h4.ids
    have hne':=hne a rfl
    show AM.reach _ (99996 + 1 + 1 + 1 + 1) [o] [] = [o,a]
    simp [AM.reach,h0,h3,bF,ids,aB,hi,hne']
theorem aae {m cd sy:Nat} {dl:List Int} {E:AM.Heap}:∃ code,((Try.f58.body).bind (aI [0])) = some code∧Run X (evT X) 58 m code [(0,.ptr 0 0 0 0),(1,.int .i64 (sy:Nat)),(2,.ro cd (.pi .i64 dl) 3)] E
    ⟨.normal,[(0,.ptr 0 0 0 0),(1,.int .i64 (sy:Nat)),(2,.ro cd (.pi .i64 dl) 3),(6,.ptr E.length 0 0 0)],E ++ [some Kv]⟩:=by
  refine ⟨_,rfl,?_⟩
  simp only [Kv]
  (refine ⟨0,?_⟩;simp (maxSteps:=2000000) -implicitDefEqProofs [-getElem?_pos,go_sem,eqV,ah,aez,aad,yh,uf,Ea])
theorem IrV.off {j:Nat} (h:∀ a,oa = some a→j ≠ a) (h0:j ≠ o):j ∉ o :: oa.toList:=by
  intro hm
  rcases List.mem_cons.1 hm with h1 | h1
  · exact h0 h1
  · exact h j (by simpa using h1) rfl
theorem aaf {m cd sy j:Nat} {dl:List Int} {E:AM.Heap} {d:Bool} (h:IrV c b mo t E 0 oa s) (hs:fE b mo s) (hb:b.length≤100000) (Kw:257≤sy) (TT:sy < 286) (hj:E[j]? = some (some Kv)) (hj0:j ≠ 0) (hja:∀ a,oa = some a→j ≠ a) :
    ∃ E' oa' s',∃ x:Int,IrV c b mo t E' 0 oa' s'∧bV b mo (gV b (CV sy)) 0 s s' x∧Kpt E E' 0 oa oa'∧∃ code,((Try.f58.body).bind (aI [1,1,0])) = some code∧Run X (evT X) 58 m code
      [(0,.ptr 0 0 0 0),(1,.int .i64 (sy:Nat)),(2,.ro cd (.pi .i64 dl) 3),(6,.ptr j 0 0 0),(44,.bool d)] E ⟨.normal,[(0,.ptr 0 0 0 0),(2,.ro cd (.pi .i64 dl) 3),(7,.int .i64 (AA sy + x))],E'⟩:=by
  have hrow:=Rh Kw TT
  obtain ⟨hb3,hb4,hb5⟩:=PY Kw TT
  obtain ⟨E1,oa1,s1,x,h1,h2,h3,h4⟩:=iQ (n:=CV sy) (I:=(CV sy:Nat)) rfl h hs hb (by omega)
  obtain ⟨xa,xb⟩:=gJ h3 hs
  have hp:2 ^ CV sy≤2 ^ 5:=Nat.pow_le_pow_right (by omega) hb5
  refine ⟨E1,oa1,s1,x,h2,h3,h4,_,rfl,?_⟩
  have hre:=h.reach
  have hoff:=IrV.off (o:=0) hja hj0
  have hjl:=eP hj
  have w1:IntKind.i64.wrap ((sy:Int) - 257) = ((sy - 257:Nat):Int):=by rw [wrap_i64 (by omega) (by omega)];omega
  have w2:IntKind.i64.wrap (AA sy + x) = AA sy + x:=wrap_i64 (by omega) (by omega)
  have h29:sy - 257 < 29:=by omega
  have aeA:((sy - 257:Nat):Int) < 29:=by omega
  generalize AA sy = B at *
  generalize CV sy = Xb at *
  generalize sy - 257 = i at *
  generalize 0 :: oa.toList = L at *
  simp only [Kv] at hj
  have hll:=Ea
  generalize AP = R at *
  apply Run.dy (by simp) TU (by simp)
  · (conv=>lhs;simp (maxSteps:=2000000) -implicitDefEqProofs [-getElem?_pos,go_sem,eqV,ah,jQ,out1,bI,lq,jq,pushes,jE,gK,touched,mentioned,iG,eX,bT,lu,Op.operands,ids,aB,aH,dR,dO,fQ,jR,w1,hj,hrow,h1,w2,hre,hll,h29,aeA,ak,iH])
  · refine jr (ps:=[(0,5),(1,5),(2,5),(3,5),(4,5),(0,6),(1,6),(2,6),(3,6),(4,6),(5,6),(0,7),(1,7),(2,7),(3,7),(4,7),(5,7),(0,8),(1,8),(2,8),(3,8),(4,8),(5,8),(0,9),(1,9),(2,9),(3,9),(4,9),(5,9),(0,10),(1,10),(2,10),(3,10),(4,10),(5,10),(0,11),(1,11),(2,11),(3,11),(4,11)]) (by kernel_rfl) ?_
    by_cases hl:E1.length = E.length
    · simp [uT,bear,disjoint,kT,Call.operands,aJ,ay,aB,ids,iH,hl,hoff,hjl]
    · simp [uT,bear,disjoint,kT,Call.operands,aJ,ay,aB,ids,iH,hl,hoff,hjl]
  · rfl
end
end Go.Proofs.Yteblpjhkgdpchaa
namespace Go.Proofs.Yteblpjhkgdpchaa
open Go.AM
section
variable {c:Nat} {b:List UInt8} {mo:Int} {t:Nat} {H:AM.Heap} {o:Nat} {oa:Option Nat} {s:Is}
theorem Wu {d:Nat} (h:d < 30):lJ d≤13:=by unfold lJ;split <;> omega
theorem PZ {d:Nat} (h:d < 30):1≤sN d∧sN d≤40000:=by
  unfold sN
  split
  · omega
  · have:2 ^ (d / 2 - 1)≤2 ^ 13:=Nat.pow_le_pow_right (by omega) (by omega)
    have h2:(2 + d % 2) * 2 ^ (d / 2 - 1)≤3 * 2 ^ 13:=Nat.mul_le_mul (by omega) this
    omega
def zu (n:Int) (d:Nat):AM.Frame:=[(0,.ptr 0 0 0 0),(7,.int .i64 n),(8,.int .i64 (d:Nat))]
def vU (n:Int) (k:Int):AM.Frame:=[(0,.ptr 0 0 0 0),(7,.int .i64 n),(9,.int .i64 k)]
theorem aag {m d:Nat} {n:Int} {E:AM.Heap} (h:IrV c b mo t E 0 oa s):∃ code,((Try.f58.body).bind (aI [1,1,1,1,0,0])) = some code∧Run X (evT X) 58 m code (zu n d) E ⟨.normal,zu n d ++ [(67,.bool (s.e != 0))],E⟩:=by
  refine ⟨_,rfl,?_⟩
  obtain ⟨⟨vo,τ1,τ,a1,a2,h0,ho⟩,hne⟩:=id h
  simp only [bF] at h0
  by_cases he:s.e = 0
  · rw [he] at h0 ⊢
    simp only [zu]
    (refine ⟨0,?_⟩;simp (maxSteps:=2000000) -implicitDefEqProofs [-getElem?_pos,go_sem,eqV,ah,h0])
  · have heb:(s.e != 0) = true:=by simpa using he
    simp only [zu]
    (refine ⟨0,?_⟩;simp (maxSteps:=2000000) -implicitDefEqProofs [-getElem?_pos,go_sem,eqV,ah,h0,he,heb])
theorem Yx {m d:Nat} {n:Int} {E:AM.Heap} (h:IrV c b mo t E 0 oa s) (hs:fE b mo s) (hb:b.length≤100000) (hd:d < 30) (h4:4≤d):∃ E' oa' s',∃ y:Int,IrV c b mo t E' 0 oa' s'∧bV b mo (gV b (lJ d)) 0 s s' y∧Kpt E E' 0 oa oa'∧∃ code,((Try.f58.body).bind (aI [1,1,1,1,1,1,1,0,1,0,1])) = some code ∧
    Run X (evT X) 58 m code [(0,.ptr 0 0 0 0),(7,.int .i64 n),(8,.int .i64 (d:Nat)),(10,.int .i64 (lJ d:Nat))] E ⟨.normal,vU n ((sN d:Nat) + y),E'⟩:=by
  have hx:=Wu hd
  obtain ⟨hb1,hb2⟩:=PZ hd
  obtain ⟨E1,oa1,s1,y,h1,h2,h3,h4'⟩:=iQ (n:=lJ d) (I:=(lJ d:Nat)) rfl h hs hb (by omega)
  obtain ⟨ya,yb⟩:=gJ h3 hs
  have hp:2 ^ lJ d≤2 ^ 13:=Nat.pow_le_pow_right (by omega) hx
  refine ⟨E1,oa1,s1,y,h2,h3,h4',_,rfl,?_⟩
  have e3:((d:Nat):Int).tmod 2 = ((d % 2:Nat):Int):=by rw [Int.tmod_eq_emod_of_nonneg (by omega)];omega
  have e4:((d:Nat):Int) % 2 = ((d % 2:Nat):Int):=by omega
  have w1:IntKind.i64.wrap (2 + ((d % 2:Nat):Int)) = ((2 + d % 2:Nat):Int):=by rw [wrap_i64 (by omega) (by omega)];omega
  have hdb:sN d = 1 + (2 + d % 2) * 2 ^ lJ d:=by unfold sN lJ;rw [if_neg (by omega),if_neg (by omega)]
  have hm:min (lJ d) 64 = lJ d:=by omega
  have w2:IntKind.i64.wrap (((2 + d % 2:Nat):Int) * 2 ^ lJ d) = (((2 + d % 2) * 2 ^ lJ d:Nat):Int):=by
    rw [show ((2 + d % 2:Nat):Int) * 2 ^ lJ d = (((2 + d % 2) * 2 ^ lJ d:Nat):Int) by simp]
    exact wrap_i64 (by omega) (by omega)
  have w3:IntKind.i64.wrap (1 + (((2 + d % 2) * 2 ^ lJ d:Nat):Int)) = ((sN d:Nat):Int):=by rw [hdb,wrap_i64 (by omega) (by omega)];omega
  have w4:IntKind.i64.wrap (((sN d:Nat):Int) + y) = ((sN d:Nat):Int) + y:=wrap_i64 (by omega) (by omega)
  have hx0:¬ ((lJ d:Nat):Int) < 0:=by omega
  generalize (2 + d % 2) * 2 ^ lJ d = w at *
  generalize lJ d = q at *
  generalize sN d = B at *
  generalize 2 + d % 2 = r at *
  generalize d % 2 = p at *
  simp only [vU]
  (refine ⟨0,?_⟩;simp (maxSteps:=2000000) -implicitDefEqProofs [-getElem?_pos,go_sem,eqV,ah,h1,e3,e4,w1,hm,w2,w3,w4,hx0,ak])
theorem Yy {m k:Nat} {n:Int} {E:AM.Heap} {fr:AM.Frame} (g0:ay fr 0 = .ptr 0 0 0 0) (g7:ay fr 7 = .int .i64 n) (g9:ay fr 9 = .int .i64 (k:Nat)) (h:IrV c b mo t E 0 oa s):∃ code,((Try.f58.body).bind (aI [1,1,1,1,1,1,1,1,0,0])) = some code∧Run X (evT X) 58 m code fr E ⟨.normal,vU n (k:Nat) ++ [(102,.bool (s.e == 0 && decide (s.o.length < k)))],E⟩:=by
  refine ⟨_,rfl,?_⟩
  obtain ⟨⟨vo,τ1,τ,a1,a2,h0,ho⟩,hne⟩:=id h
  simp only [bF] at h0
  by_cases he:s.e = 0
  · rw [he] at h0 ⊢
    simp only [beq_self_eq_true,Bool.true_and,vU]
    have hd:decide (s.o.length < k) = decide ((s.o.length:Int) < (k:Int)):=by
      by_cases h1:s.o.length < k
      · rw [decide_eq_true h1,decide_eq_true (by omega)]
      · rw [decide_eq_false h1,decide_eq_false (by omega)]
    rw [hd]
    cases oa with
    | none =>
      obtain ⟨h1,τ2,hτ2,rfl⟩:=ho
      rw [h1]
      (refine ⟨0,?_⟩;simp (maxSteps:=2000000) -implicitDefEqProofs [-getElem?_pos,go_sem,eqV,ah,g0,g7,g9,h0])
    | some a =>
      obtain ⟨g,τ2,ob,hτ2,rfl,h3,h4⟩:=ho
      have hg:=h4.g
      generalize s.o.length = N at *
      (refine ⟨0,?_⟩;simp (maxSteps:=2000000) -implicitDefEqProofs [-getElem?_pos,go_sem,eqV,ah,g0,g7,g9,h0,h3,hg])
  · rw [show (s.e == 0) = false by simpa using he,Bool.false_and]
    have heb:(s.e == 0) = false:=by simpa using he
    simp only [vU]
    (refine ⟨0,?_⟩;simp (maxSteps:=2000000) -implicitDefEqProofs [-getElem?_pos,go_sem,eqV,ah,g0,g7,g9,h0,he,heb])
def uZ (n k:Int) (i:Nat):AM.Frame:=[(0,.ptr 0 0 0 0),(7,.int .i64 n),(9,.int .i64 k),(11,.int .i64 (i:Nat))]
theorem Yz {m n i:Nat} {k:Int} {E:AM.Heap} (h:IrV c b mo t E 0 oa s):∃ code,((Try.f58.body).bind (aI [1,1,1,1,1,1,1,1,1,1,0,0,0,0])) = some code∧Run X (evT X) 58 m code (uZ (n:Nat) k i) E ⟨.normal,uZ (n:Nat) k i ++ [(114,.bool (decide (i < n) && (s.e == 0)))],E⟩:=by
  refine ⟨_,rfl,?_⟩
  obtain ⟨⟨vo,τ1,τ,a1,a2,h0,ho⟩,hne⟩:=id h
  simp only [bF] at h0
  by_cases hi:i < n
  · have hI:(i:Int) < (n:Int):=by omega
    simp only [uZ,hi,decide_true,Bool.true_and]
    (refine ⟨0,?_⟩;simp (maxSteps:=2000000) -implicitDefEqProofs [-getElem?_pos,go_sem,eqV,ah,h0,hI])
  · have hI:¬ (i:Int) < (n:Int):=by omega
    simp only [uZ,hi,decide_false,Bool.false_and]
    (refine ⟨0,?_⟩;simp (maxSteps:=2000000) -implicitDefEqProofs [-getElem?_pos,go_sem,eqV,ah,h0,hI])
theorem YA {m n i k:Nat} {E:AM.Heap} {d:Bool} (h:IrV c b mo t E 0 oa s) (hs:fE b mo s) (he:s.e = 0) (hm:mo≤1000000) (hk:1≤k) (hk2:k≤s.o.length):∃ E' oa' s',IrV c b mo t E' 0 oa' s'∧bV b mo (yu mo k) () s s' ()∧Kpt E E' 0 oa oa'∧∃ code,((Try.f58.body).bind (aI [1,1,1,1,1,1,1,1,1,1,0,0,1,0,0])) = some code ∧
    Run X (evT X) 58 m code (uZ (n:Nat) (k:Nat) i ++ [(114,.bool d)]) E ⟨.normal,uZ (n:Nat) (k:Nat) i,E'⟩:=by
  obtain ⟨⟨vo,τ1,τ,a1,a2,h0,ho⟩,hne⟩:=id h
  have hlt:s.o.length - k < s.o.length:=by omega
  obtain ⟨y,hy⟩:∃ y,s.o[s.o.length - k]? = some y:=⟨_,List.getElem?_eq_getElem hlt⟩
  have hyd:s.o.getD (s.o.length - k) 0 = y:=by rw [List.getD_eq_getElem?_getD,hy];rfl
  obtain ⟨E1,oa1,s1,h1,h2,h3,h4⟩:=Ir (y:=y) h hs hm
  refine ⟨E1,oa1,s1,h2,?_,h4,_,rfl,?_⟩
  · obtain ⟨r1,r2⟩:=h3
    refine ⟨r1,?_⟩
    rw [if_pos he] at r2 ⊢
    unfold yu
    rw [hyd]
    exact r2
  · simp only [bF] at h0
    cases oa with
    | none=>obtain ⟨h1,_⟩:=ho;rw [h1] at hk2;simp at hk2;omega
    | some a =>
      obtain ⟨g,τ2,ob,hτ2,rfl,q3,q4⟩:=ho
      have hg:=q4.g
      have hp:=q4.p
      have hi:=q4.ids
      have w:IntKind.i64.wrap ((s.o.length:Int) - (k:Int)) = ((s.o.length - k:Nat):Int):=by rw [wrap_i64 (by have:=hs.2;omega) (by have:=hs.2;omega)];omega
      have hI:((s.o.length - k:Nat):Int) < (s.o.length:Int):=by omega
      have hgen:0 + (s.o.length - k) = s.o.length - k:=by omega
      simp only [uZ]
      generalize s.o.length - k = q at *
      generalize s.o.length = N at *
      (refine ⟨0,?_⟩;simp (maxSteps:=2000000) -implicitDefEqProofs [-getElem?_pos,go_sem,eqV,ah,h0,q3,hg,hp,hi,w,hI,hy,h1])
end
end Go.Proofs.Yteblpjhkgdpchaa
namespace Go.Proofs.Yteblpjhkgdpchaa
open Go.AM
section
variable {c:Nat} {b:List UInt8} {mo:Int} {t:Nat} {H:AM.Heap} {o:Nat} {oa:Option Nat} {s:Is}
theorem zx {e:Int} (hs:fE b mo s):fE b mo (fP s e):=by
  unfold fP;split <;> exact ⟨hs.1,hs.2⟩
theorem Wv {m d:Nat} {n:Int} {E:AM.Heap} (h:IrV c b mo t E 0 oa s) (hs:fE b mo s) (hb:b.length≤100000) (hd:d < 30):∃ E' oa' s',∃ y:Nat,IrV c b mo t E' 0 oa' s'∧bV b mo (gV b (lJ d)) 0 s s' (y:Nat)∧Kpt E E' 0 oa oa'∧∃ code,((Try.f58.body).bind (aI [1,1,1,1,1,1,1,0])) = some code ∧
    ∃ fr,Run X (evT X) 58 m code [(0,.ptr 0 0 0 0),(7,.int .i64 n),(8,.int .i64 (d:Nat)),(9,.int .i64 ((1 + d:Nat):Int))] E ⟨.normal,fr,E'⟩∧aZ [0,7,9] fr = vU n ((sN d + y:Nat):Int):=by
  by_cases h4:4≤d
  · obtain ⟨E1,oa1,s1,y,h1,h2,h3,hr⟩:=Yx (m:=m) (n:=n) h hs hb hd h4
    obtain ⟨ya,yb⟩:=gJ h2 hs
    obtain ⟨y,rfl⟩:∃ y':Nat,y = (y':Int):=⟨y.toNat,by omega⟩
    refine ⟨E1,oa1,s1,y,h1,h2,h3,_,rfl,vU n ((sN d:Nat) + (y:Nat)),?_,?_⟩
    · have h4I:(4:Int)≤((d:Nat):Int):=by omega
      apply Run.seq (fr':=[(0,.ptr 0 0 0 0),(7,.int .i64 n),(8,.int .i64 (d:Nat)),(9,.int .i64 ((1 + d:Nat):Int)),(75,.bool true)]) (H':=E)
      · (refine ⟨0,?_⟩;simp (maxSteps:=2000000) -implicitDefEqProofs [-getElem?_pos,go_sem,eqV,ah,h4I])
      refine Run.cond (d:=true) rfl ?_
      apply Run.seq (fr':=[(0,.ptr 0 0 0 0),(7,.int .i64 n),(8,.int .i64 (d:Nat)),(10,.int .i64 (lJ d:Nat))]) (H':=E)
      · have e1:((d:Nat):Int).tdiv 2 = ((d / 2:Nat):Int):=by rw [Int.tdiv_eq_ediv_of_nonneg (by omega)];omega
        have e2:((d:Nat):Int) / 2 = ((d / 2:Nat):Int):=by omega
        have w1:IntKind.i64.wrap (((d / 2:Nat):Int)) = ((d / 2:Nat):Int):=wrap_i64 (by omega) (by omega)
        have w2:IntKind.i64.wrap (((d / 2:Nat):Int) - 1) = ((lJ d:Nat):Int):=by
          unfold lJ
          rw [if_neg (by omega),wrap_i64 (by omega) (by omega)];omega
        generalize lJ d = q at *
        generalize d / 2 = p at *
        (refine ⟨0,?_⟩;simp (maxSteps:=2000000) -implicitDefEqProofs [-getElem?_pos,go_sem,eqV,ah,e1,e2,w1,w2,ak])
      exact piece hr _ rfl
    · simp [aZ,vU,ay]
  · have hx:lJ d = 0:=by unfold lJ;rw [if_pos (by omega)]
    have hB:sN d = 1 + d:=by unfold sN;rw [if_pos (by omega)]
    refine ⟨E,oa,s,0,h,?_,Kpt.refl _ _ _,_,rfl,[(0,.ptr 0 0 0 0),(7,.int .i64 n),(8,.int .i64 (d:Nat)),(9,.int .i64 ((1 + d:Nat):Int)),(75,.bool false)],?_,?_⟩
    · rw [hx];exact bV.ret hs fun _=>rfl
    · have h4I:¬ (4:Int)≤((d:Nat):Int):=by omega
      apply Run.seq (fr':=[(0,.ptr 0 0 0 0),(7,.int .i64 n),(8,.int .i64 (d:Nat)),(9,.int .i64 ((1 + d:Nat):Int)),(75,.bool false)]) (H':=E)
      · (refine ⟨0,?_⟩;simp (maxSteps:=2000000) -implicitDefEqProofs [-getElem?_pos,go_sem,eqV,ah,h4I])
      exact Run.cond (d:=false) rfl ⟨0,rfl⟩
    · rw [hB];simp [aZ,vU,ay]
theorem Wx {m n k:Nat} {E:AM.Heap} (h:IrV c b mo t E 0 oa s) (hs:fE b mo s) (hm:mo≤1000000) (hn:n≤1000000) (hk:1≤k) (hk2:s.e = 0→k≤s.o.length):∃ code,((Try.f58.body).bind (aI [1,1,1,1,1,1,1,1,1,1])) = some code ∧
    aj (Goes fun fr E'=>∃ s' oa',IrV c b mo t E' 0 oa' s'∧(∀ x,oa = some x→oa' = some x)∧bV b mo (sK (yu mo k) n) () s s' ()) X (evT X) 58 m code (uZ (n:Nat) (k:Nat) 0) E:=by
  refine ⟨_,rfl,?_⟩
  apply aj.block
  refine aj.kE (I:=fun q fr E'=>∃ oa' s' i,i≤n∧q = n - i∧fr = uZ (n:Nat) (k:Nat) i∧IrV c b mo t E' 0 oa' s'∧(∀ a,oa = some a→oa' = some a)∧fE b mo s'∧(s'.e = 0→k≤s'.o.length)∧Cnt b mo (sK (yu mo k) (n - i)) () s' (sK (yu mo k) n) () s (fun u=>u)) ?_ (k:=n) ⟨oa,s,0,by omega,by omega,rfl,h,fun _ h=>h,hs,hk2,fun _ _ h=>h⟩
  rintro q fr E' ⟨oa',s',i,hi,rfl,rfl,hV,hm',hs',hk',hC⟩
  have h6:=Yz (m:=m) (n:=n) (i:=i) (k:=(k:Nat)) hV
  by_cases hin:i < n∧s'.e = 0
  · obtain ⟨E5,oa5,s5,v1,v2,v3,hr8⟩:=YA (m:=m) (n:=n) (i:=i) (d:=true) hV hs' hin.2 hm hk (hk' hin.2)
    have hup:=(Py k).up b mo s'.k s'.o
    refine aj.of (o:=⟨.normal,uZ (n:Nat) (k:Nat) (i + 1),E5⟩) ?_ (.inl ⟨rfl,n - (i + 1),by omega,oa5,s5,i + 1,by omega,rfl,rfl,v1,fun a ha=>v3.same a (hm' a ha),v2.1,?_,?_⟩)
    · rw [show decide (i < n) = true by simp [hin.1],hin.2] at h6
      apply Run.seq (fr':=uZ (n:Nat) (k:Nat) i ++ [(114,.bool true)]) (H':=E')
      · apply Run.seq (piece h6 _ rfl)
        refine ⟨0,?_⟩
        simp only [uZ]
        simp (maxSteps:=2000000) -implicitDefEqProofs [-getElem?_pos,go_sem,eqV,ah]
      apply Run.seq (fr':=uZ (n:Nat) (k:Nat) i) (H':=E5)
      · apply Run.block
        · exact piece hr8 _ rfl
        · simp
      · have w:IntKind.i64.wrap ((i:Int) + 1) = ((i + 1:Nat):Int):=by rw [wrap_i64 (by omega) (by omega)];omega
        simp only [uZ]
        (refine ⟨0,?_⟩;simp (maxSteps:=2000000) -implicitDefEqProofs [-getElem?_pos,go_sem,eqV,ah,w,ak])
    · intro he5
      obtain ⟨_,hok⟩:=v2.fine he5
      obtain ⟨_,_,⟨x,hx⟩,_⟩:=hup _ _ _ hok hs'.1
      rw [hx,List.length_append]
      have:=hk' hin.2
      omega
    · have:n - i = (n - (i + 1)) + 1:=by omega
      rw [this] at hC
      exact Cnt.step (m:=yu mo k) (k:=fun _=>sK (yu mo k) (n - (i + 1))) hC v2
  · refine aj.of (o:=⟨.exit 0,uZ (n:Nat) (k:Nat) i ++ [(114,.bool false)],E'⟩) ?_ (.inr ⟨by simp,rfl,s',oa',hV,hm',?_⟩)
    · have hd:(decide (i < n) && (s'.e == 0)) = false:=by
        by_cases h1:i < n
        · have:¬ s'.e = 0:=fun h=>hin ⟨h1,h⟩
          simp [this]
        · simp [h1]
      rw [hd] at h6
      apply Run.bG
      · apply Run.seq (piece h6 _ rfl)
        refine ⟨0,?_⟩
        simp only [uZ]
        simp (maxSteps:=2000000) -implicitDefEqProofs [-getElem?_pos,go_sem,eqV,ah]
      · simp
    · refine hC _ () ?_
      by_cases h1:s'.e = 0
      · have:n - i = 0:=by
          have:¬ i < n:=fun h=>hin ⟨h,h1⟩
          omega
        rw [this]
        exact bV.ret hs' fun _=>rfl
      · exact bV.stop hs' h1
theorem Ky {m cd sy:Nat} {dl:List Int} {E:AM.Heap} (h:IrV c b mo t E 0 oa s) (hs:fE b mo s) (hb:b.length≤100000) (hm:mo≤1000000) (Kw:257≤sy) (hsy:sy≤100000) (hl:dl.length < 9223372036854775808):∃ code,Try.f58.body = some code ∧
    aj (jZ fun fr E'=>∃ s' oa',IrV c b mo t E' 0 oa' s'∧(∀ x,oa = some x→oa' = some x)∧bV b mo (CW b mo dl sy) () s s' ()) X (evT X) 58 m code [(0,.ptr 0 0 0 0),(1,.int .i64 (sy:Nat)),(2,.ro cd (.pi .i64 dl) 3)] E:=by
  refine ⟨_,rfl,?_⟩
  apply aj.seq (piece aae _ rfl)
  have hV0:IrV c b mo t (E ++ [some Kv]) 0 oa s:=h.cat
  have hj:(E ++ [some Kv])[E.length]? = some (some Kv):=by simp
  have hj0:E.length ≠ 0:=by have:=h.lt.1;omega
  have hja:∀ a,oa = some a→E.length ≠ a:=fun a ha=>by have:=h.lt.2 a ha;omega
  have w1:IntKind.i64.wrap ((sy:Int) - 257) = ((sy - 257:Nat):Int):=by rw [wrap_i64 (by omega) (by omega)];omega
  generalize hEj:E ++ [some Kv] = E0 at *
  generalize E.length = j at *
  by_cases TT:286≤sy
  · have hI:(29:Int)≤((sy - 257:Nat):Int):=by omega
    obtain ⟨E1,oa1,k1,k2,k3⟩:=qy (e:=5) hV0
    refine ⟨⟨.ret,[],E1⟩,⟨.inr rfl,_,oa1,k2,k3.same,?_⟩,?_⟩
    · unfold CW;rw [if_pos TT];exact bV.bad hs (by simp)
    · generalize sy - 257 = q at *
      (refine ⟨0,?_⟩;simp (maxSteps:=2000000) -implicitDefEqProofs [-getElem?_pos,go_sem,eqV,ah,w1,hI,k1])
  have X0:sy < 286:=by omega
  have hC:Cnt b mo (dG (gV b (CV sy)) fun x=>dG (uh b dl) fun d=>if 30≤d then nK 5 else dG (gV b (lJ d)) fun y=>NK mo (sN d + y.toNat) (AA sy + x).toNat) () s (CW b mo dl sy) () s (fun u=>u):=by
    intro s2 y hy
    unfold CW;rw [if_neg TT];exact hy
  apply aj.seq (fr':=[(0,.ptr 0 0 0 0),(1,.int .i64 (sy:Nat)),(2,.ro cd (.pi .i64 dl) 3),(6,.ptr j 0 0 0),(44,.bool false)]) (H':=E0)
  · have hI:¬ (29:Int)≤((sy - 257:Nat):Int):=by omega
    generalize sy - 257 = q at *
    (refine ⟨0,?_⟩;simp (maxSteps:=2000000) -implicitDefEqProofs [-getElem?_pos,go_sem,eqV,ah,w1,hI])
  obtain ⟨E1,oa1,s1,x,v1,r1,k1,hr1⟩:=aaf (m:=m) (cd:=cd) (dl:=dl) (d:=false) hV0 hs hb Kw X0 hj hj0 hja
  have hC1:=hC.step r1
  obtain ⟨hb3,hb4,hb5⟩:=PY Kw X0
  obtain ⟨xa,xb⟩:=gJ r1 hs
  have hp:2 ^ CV sy≤2 ^ 5:=Nat.pow_le_pow_right (by omega) hb5
  obtain ⟨n,hn⟩:∃ n:Nat,AA sy + x = (n:Int):=⟨(AA sy + x).toNat,by omega⟩
  rw [hn] at hr1
  simp only [hn,Int.toNat_natCast] at hC1
  apply aj.seq (piece hr1 _ rfl)
  obtain ⟨E2,oa2,s2,d,h2,v2,r2,k2⟩:=AQ (a:=.ro cd (.pi .i64 dl) 3) (l:=dl) v1 r1.1 hb rfl (fun x hx=>by cases hx) hl
  have hC2:=hC1.step r2
  apply aj.seq (fr':=zu (n:Nat) d) (H':=E2)
  · simp only [zu]
    (refine ⟨0,?_⟩;simp (maxSteps:=2000000) -implicitDefEqProofs [-getElem?_pos,go_sem,eqV,ah,h2,ak])
  apply aj.assoc
  apply aj.seq (piece (aag (m:=m) v2) _ rfl)
  have hsm:∀ a,oa = some a→oa2 = some a:=fun a ha=>k2.same a (k1.same a ha)
  by_cases he2:¬ s2.e = 0
  · have heb:(s2.e != 0) = true:=by simpa using he2
    refine ⟨⟨.ret,zu (n:Nat) d ++ [(67,.bool true)],E2⟩,⟨.inr rfl,s2,oa2,v2,hsm,hC2 _ () (bV.stop r2.1 he2)⟩,?_⟩
    rw [heb]
    refine ⟨0,?_⟩
    simp only [zu]
    simp (maxSteps:=2000000) -implicitDefEqProofs [-getElem?_pos,go_sem,eqV,ah]
  have he2:s2.e = 0:=Classical.not_not.1 he2
  apply aj.seq (fr':=zu (n:Nat) d ++ [(67,.bool false)]) (H':=E2)
  · rw [he2]
    refine ⟨0,?_⟩
    simp only [zu]
    simp (maxSteps:=2000000) -implicitDefEqProofs [-getElem?_pos,go_sem,eqV,ah]
  by_cases h30:30≤d
  · have hI:(30:Int)≤((d:Nat):Int):=by omega
    obtain ⟨E3,oa3,g1,g2,g3⟩:=qy (e:=5) v2
    rw [if_pos h30] at hC2
    refine ⟨⟨.ret,[],E3⟩,⟨.inr rfl,_,oa3,g2,fun a ha=>g3.same a (hsm a ha),hC2 _ () (bV.bad r2.1 (by simp))⟩,?_⟩
    simp only [zu]
    (refine ⟨0,?_⟩;simp (maxSteps:=2000000) -implicitDefEqProofs [-getElem?_pos,go_sem,eqV,ah,hI,g1])
  have aah:d < 30:=by omega
  rw [if_neg h30] at hC2
  apply aj.seq (fr':=zu (n:Nat) d ++ [(69,.bool false)]) (H':=E2)
  · have hI:¬ (30:Int)≤((d:Nat):Int):=by omega
    simp only [zu]
    (refine ⟨0,?_⟩;simp (maxSteps:=2000000) -implicitDefEqProofs [-getElem?_pos,go_sem,eqV,ah,hI])
  apply aj.seq (fr':=[(0,.ptr 0 0 0 0),(7,.int .i64 (n:Nat)),(8,.int .i64 (d:Nat)),(9,.int .i64 ((1 + d:Nat):Int))]) (H':=E2)
  · have w:IntKind.i64.wrap (1 + (d:Int)) = ((1 + d:Nat):Int):=by rw [wrap_i64 (by omega) (by omega)];omega
    simp only [zu]
    generalize 1 + d = q at *
    (refine ⟨0,?_⟩;simp (maxSteps:=2000000) -implicitDefEqProofs [-getElem?_pos,go_sem,eqV,ah,w,ak])
  obtain ⟨E3,oa3,s3,y,v3,r3,k3,Z9,hcode3,fr3,hr3,hf3⟩:=Wv (m:=m) (n:=(n:Nat)) v2 r2.1 hb aah
  have hC3:=hC2.step r3
  simp only [Int.toNat_natCast] at hC3
  apply aj.seq (fr':=fr3) (H':=E3)
  · exact (Option.some.inj hcode3) ▸ hr3
  have YB:∀ a,oa = some a→oa3 = some a:=fun a ha=>k3.same a (hsm a ha)
  have hk1:1≤sN d + y:=by have:=(PZ aah).1;omega
  generalize hk:sN d + y = k at *
  have g0:ay fr3 0 = .ptr 0 0 0 0:=by
    have:=congrArg (fun f=>ay f 0) hf3
    simpa [aZ,vU,ay] using this
  have g7:ay fr3 7 = .int .i64 (n:Nat):=by
    have:=congrArg (fun f=>ay f 7) hf3
    simpa [aZ,vU,ay] using this
  have g9:ay fr3 9 = .int .i64 (k:Nat):=by
    have:=congrArg (fun f=>ay f 9) hf3
    simpa [aZ,vU,ay] using this
  apply aj.assoc
  apply aj.seq (piece (Yy (m:=m) g0 g7 g9 v3) _ rfl)
  -- may it be?
  have hP:∃ E4 oa4 s4,IrV c b mo t E4 0 oa4 s4∧(∀ x,oa = some x→oa4 = some x)∧Cnt b mo (sK (yu mo k) n) () s4 (CW b mo dl sy) () s (fun u=>u)∧fE b mo s4∧(s4.e = 0→k≤s4.o.length) ∧
      ∃ code,((Try.f58.body).bind (aI [1,1,1,1,1,1,1,1,0,1])) = some code∧∃ fr,Run X (evT X) 58 m code (vU (n:Nat) (k:Nat) ++ [(102,.bool (s3.e == 0 && decide (s3.o.length < k)))]) E3 ⟨.normal,fr,E4⟩∧ay fr 0 = .ptr 0 0 0 0∧ay fr 7 = .int .i64 (n:Nat)∧ay fr 9 = .int .i64 (k:Nat):=by
    by_cases he3:s3.e = 0
    · by_cases hlk:s3.o.length < k
      · obtain ⟨E4,oa4,q1,q2,q3⟩:=qy (e:=5) v3
        have hf:(fP s3 5).e ≠ 0:=by unfold fP;rw [if_pos he3];simp
        refine ⟨E4,oa4,_,q2,fun a ha=>q3.same a (YB a ha),?_,zx r3.1,fun h=>absurd h hf,_,rfl,vU (n:Nat) (k:Nat),?_,rfl,rfl,rfl⟩
        · intro s5 u hu
          obtain ⟨rfl,rfl⟩:=hu.stopped hf
          refine hC3 _ () ?_
          unfold fP
          rw [if_pos he3]
          exact bV.Eb (e:=5) ⟨r3.1.1,r3.1.2⟩ he3 (by unfold NK;rw [if_pos hlk]) rfl (by simp)
        · rw [he3,decide_eq_true hlk]
          refine Run.cond (d:=true) rfl ?_
          simp only [vU]
          (refine ⟨0,?_⟩;simp (maxSteps:=2000000) -implicitDefEqProofs [-getElem?_pos,go_sem,eqV,ah,q1])
      · refine ⟨E3,oa3,s3,v3,YB,?_,r3.1,fun _=>by omega,_,rfl,vU (n:Nat) (k:Nat) ++ [(102,.bool false)],?_,rfl,rfl,rfl⟩
        · intro s5 u hu
          refine hC3 _ _ ⟨hu.1,?_⟩
          have h2:=hu.2
          rw [if_pos he3] at h2 ⊢
          unfold NK
          rw [if_neg hlk]
          exact h2
        · rw [he3,decide_eq_false hlk]
          exact Run.cond (d:=false) rfl ⟨0,rfl⟩
    · refine ⟨E3,oa3,s3,v3,YB,?_,r3.1,fun h=>absurd h he3,_,rfl,vU (n:Nat) (k:Nat) ++ [(102,.bool false)],?_,rfl,rfl,rfl⟩
      · intro s5 u hu
        obtain ⟨rfl,rfl⟩:=hu.stopped he3
        exact hC3 _ () (bV.stop r3.1 he3)
      · rw [show (s3.e == 0) = false by simpa using he3,Bool.false_and]
        exact Run.cond (d:=false) rfl ⟨0,rfl⟩
  obtain ⟨E4,oa4,s4,v4,aeB,hC4,hs4,hk4,aiX,YC,fr4,hr4,f0,f7,f9⟩:=hP
  apply aj.seq (fr':=fr4) (H':=E4)
  · exact (Option.some.inj YC) ▸ hr4
  apply aj.seq (fr':=uZ (n:Nat) (k:Nat) 0) (H':=E4)
  · simp only [uZ]
    (refine ⟨0,?_⟩;simp (maxSteps:=2000000) -implicitDefEqProofs [-getElem?_pos,go_sem,eqV,ah,f0,f7,f9,ak])
  have hL:=Wx (m:=m) (n:=n) (k:=k) v4 hs4 hm (by omega) hk1 hk4
  refine (piece hL _ rfl).mono ?_
  rintro out ⟨ho1,s5,oa5,p1,p2,p3⟩
  exact ⟨.inl ho1,s5,oa5,p1,fun a ha=>p2 a (aeB a ha),hC4 _ () p3⟩
theorem Ri {sy:Nat} {dl:List Int} {a:AV} (h:IrV c b mo t H o oa s) (hs:fE b mo s) (hb:b.length≤100000) (hm:mo≤1000000) (Kw:257≤sy) (hsy:sy≤100000) (ha:eG H a = some (.pi .i64 dl)) (hd:∀ x ∈ slO a,x ≠ o∧∀ y,oa = some y→x ≠ y) (hl:dl.length < 9223372036854775808) :
    ∃ H' oa' s',evT X 58 [.ptr o 0 0 0,.int .i64 (sy:Nat),a] H = some (.tup [],H')∧IrV c b mo t H' o oa' s'∧bV b mo (CW b mo dl sy) () s s' ()∧Kpt H H' o oa oa':=by
  obtain ⟨code,hc⟩:∃ code,Try.f58.body = some code:=⟨_,rfl⟩
  obtain ⟨H',oa',s',a,h1,h2,h3,h4⟩:=AO (f:=58) (n:=4) (xs:=[.int .i64 (sy:Nat),a]) (ys:=[.int .i64 (sy:Nat),.ro (tY H a) (.pi .i64 dl) 3]) (m:=CW b mo dl sy) (d:=()) (v:=fun _=>[]) Try.func58 hc rfl h (fun π K hπ=>fD.flat rfl rfl (fD.TV rfl ha rfl (by
    rw [hπ]
    refine gZ.2 ?_
    intro x hx hx2
    obtain ⟨h1,h2⟩:=hd x hx
    rcases List.mem_cons.1 hx2 with h3 | h3
    · exact h1 h3
    · exact h2 x (by simpa using h3) rfl) fD.nil)) rfl rfl (by simp [dM]) (fun _=>⟨rfl,rfl,rfl⟩) (by
    intro mm E oa1 hE
    obtain ⟨code,hc,ht⟩:=Ky (m:=mm) (cd:=tY H a) hE hs hb hm Kw hsy hl
    refine ⟨code,hc,?_⟩
    rw [aai]
    refine ht.mono fun o ho=>⟨ho.1,?_⟩
    obtain ⟨s',oa',q1,q2,q3⟩:=ho.2
    exact ⟨s',oa',(),rfl,q1,q2,q3⟩)
  exact ⟨H',oa',s',h1,h2,h3,h4⟩
end
end Go.Proofs.Yteblpjhkgdpchaa
