/- E1 to DA: texts of this claim, one behind the other; what each shows stands at its head. -/
import Derived.Test.YteblpjhkgdpchaaAm4
import Derived.Test.YteblpjhkgdpchaaMg0
set_option linter.unusedSimpArgs false
set_option linter.unusedVariables false
set_option maxRecDepth 100000
set_option maxHeartbeats 8000000
namespace Go.Proofs.Yteblpjhkgdpchaa
open Go.AM
structure Ws where
 k:Nat
 o:List UInt8
def fM (s:Ws) (vo:AV) (τ:Nat):AM.Obj:=⟨.pc [vo,.int .i64 (s.k:Nat)],0,some 2,1,false,true,τ⟩
def OuW (t:Nat) (H:AM.Heap) (oa:Option Nat) (vo:AV) (l:List UInt8):Prop:=match oa with
 | none=>l = []∧∃ τ,(τ = 0∨τ = t)∧vo = .ro 0 .pn τ
 | some a=>∃ g τ ob,(τ = 0∨τ = t)∧vo = .sl a 0 l.length g∧H[a]? = some (some ob)∧RwT (.pb l) g τ ob
structure WrV (t:Nat) (H:AM.Heap) (o:Nat) (oa:Option Nat) (s:Ws):Prop where
 bx:∃ vo τ,(τ = 0∨τ = t)∧H[o]? = some (some (fM s vo τ))∧OuW t H oa vo s.o
 ne:∀ a,oa = some a→a ≠ o
def wrS (s:Ws):Bool→List AM.Obj
 | false=>[fM s (.ro 0 .pn 0) 0]
 | true=>[fM s (.sl 1 0 s.o.length 0) 0,⟨.pb s.o,0,none,0,true,false,0⟩]
section
variable {t:Nat} {H:AM.Heap} {o:Nat} {oa:Option Nat} {s:Ws}
theorem PG (s:Ws) (r:Bool):OkS (wrS s r):=by
 intro k ob0 hk x hx
 cases r
 ·cases k with
  | zero =>
   obtain rfl:=Option.some.inj hk
   simp [fM,ids,aT] at hx
  | succ k=>simp [wrS] at hk
 ·match k,hk with
  | 0,hk =>
   obtain rfl:=Option.some.inj hk
   simp [fM,ids,aT] at hx
   subst hx
   simp [wrS]
  | 1,hk =>
   obtain rfl:=Option.some.inj hk
   simp [ids] at hx
  | k + 2,hk=>simp [wrS] at hk
theorem nP (s:Ws) (r:Bool):(wrS s r).length = if r then 2 else 1:=by cases r <;> rfl
theorem ER (s:Ws) (r:Bool):reach ((wrS s r).map some) aJ [0] [] = List.range (wrS s r).length:=by
 cases r
 ·exact nC rfl (by simp [fM,ids,aT])
 ·show reach _ (99996 + 1 + 1 + 1 + 1) [0] [] = [0,1]
  simp [wrS,fM,reach,ids,aT]
theorem WrV.img (h:WrV t H o oa s):∃ π,Img t H π (wrS s oa.isSome)∧π.map Prod.fst = o :: oa.toList∧π[0]? = some (o,0):=by
 obtain ⟨⟨vo,τ,hτ,h0,ho⟩,hne⟩:=h
 cases oa with
 | none =>
  obtain ⟨hl,τ2,hτ2,rfl⟩:=ho
  refine ⟨[(o,0)],⟨rfl,?_,?_⟩,rfl,rfl⟩
  ·intro j k oj gj ok gk h1 h2 _
   have:=iF h1;have:=iF h2
   simp at *;omega
  ·intro k ob0 hk
   cases k with
   | succ k=>simp [wrS] at hk
   | zero =>
    obtain rfl:=Option.some.inj hk
    refine ⟨o,0,_,rfl,h0,⟨?_,rfl,rfl,rfl,fun _=>⟨rfl,rfl,rfl⟩,hτ,?_⟩⟩
    ·simp [fM,ren,dN,tz]
    ·intro k hk
     simp [fM,tags,bW] at hk
     rw [hk]
     exact hτ2
 | some a =>
  obtain ⟨g,τ2,ob,hτ2,rfl,ha,hw⟩:=ho
  have hao:=hne a rfl
  refine ⟨[(o,0),(a,g)],⟨rfl,?_,?_⟩,rfl,rfl⟩
  ·intro j k oj gj ok gk h1 h2 e
   match j,k,h1,h2 with
   | 0,0,_,_=>rfl
   | 1,1,_,_=>rfl
   | 0,1,h1,h2=>simp at h1 h2;omega
   | 1,0,h1,h2=>simp at h1 h2;omega
   | j + 2,_,h1,_=>simp at h1
   | 0,k + 2,_,h2=>simp at h2
   | 1,k + 2,_,h2=>simp at h2
  ·intro k ob0 hk
   match k,hk with
   | 0,hk =>
    obtain rfl:=Option.some.inj hk
    refine ⟨o,0,_,rfl,h0,⟨?_,rfl,rfl,rfl,fun _=>⟨rfl,rfl,rfl⟩,hτ,?_⟩⟩
    ·simp [fM,ren,dN,tz,kT,idN]
    ·intro k hk
     simp [fM,tags,bW] at hk
   | 1,hk =>
    obtain rfl:=Option.some.inj hk
    refine ⟨a,g,ob,rfl,ha,⟨by rw [hw.p];rfl,hw.g,hw.row,hw.ids,(fun h=>by cases h),by rw [hw.tg];exact hτ2,?_⟩⟩
    intro k hk
    rw [hw.p] at hk
    simp [tags] at hk
   | k + 2,hk=>simp [wrS] at hk
theorem WrV.C9 {π:List (Nat × Nat)} {r:Bool} (h:Img t H π (wrS s r)) (h0:π[0]? = some (o,0)) (hr:r = false→s.o = []):∃ oa,WrV t H o oa s∧π.map Prod.fst = o :: oa.toList∧oa.isSome = r∧(∀ a,oa = some a→∃ g,π[1]? = some (a,g)):=by
 obtain ⟨o',g',ob,q1,q2,q3⟩:=h.ob 0 _ (by cases r <;> rfl:(wrS s r)[0]? = some (fM s (if r then .sl 1 0 s.o.length 0 else .ro 0 .pn 0) 0))
 rw [h0] at q1
 simp only [Option.some.injEq,Prod.mk.injEq] at q1
 obtain ⟨rfl,rfl⟩:=q1
 obtain ⟨b1,b2,_⟩:=q3.bx rfl
 obtain ⟨p,g,cap,z,row,idb,tg⟩:=ob
 have r2:=q3.gen;have r3:=q3.row;have r4:=q3.ids;have r5:=q3.tg;have r6:=q3.tp;have r1:=q3.p
 simp only [fM] at r1 r2 r3 r4 r5 r6 b1 b2
 subst r2 r3 r4 b1 b2
 simp only [ren,dN] at r1
 obtain ⟨l1,rfl,k1⟩:=Gj r1
 obtain ⟨x3,l2,rfl,e3,k2⟩:=pG k1
 obtain ⟨x2,l3,rfl,e2,k3⟩:=pG k2
 obtain rfl:=vV k3
 obtain rfl:=RQ e2
 cases r with
 | false =>
  simp only [Bool.false_eq_true,if_false,ren] at e3
  obtain ⟨τ2,rfl⟩:=PI e3
  have hτ2:τ2 = 0∨τ2 = t:=r6 τ2 (by simp [tags,bW])
  have hl:=h.len
  refine ⟨none,⟨⟨_,tg,r5,q2,hr rfl,τ2,hτ2,rfl⟩,fun a h=>by cases h⟩,?_,rfl,fun a h=>by cases h⟩
  match π,hl,h0 with
  | [x],_,h0=>simp at h0;subst h0;rfl
 | true =>
  obtain ⟨a,g,ob,p1,p2,p3⟩:=h.ob 1 _ rfl
  simp only [if_true,ren,kT,p1] at e3
  obtain rfl:=PK e3
  have hl:=h.len
  have hne:a ≠ o:=fun e=>by have:=h.nd 1 0 a g o 0 p1 h0 e;omega
  have ep:=p3.p
  simp only [ren] at ep
  refine ⟨some a,⟨⟨_,tg,r5,q2,g,ob.tg,ob,p3.tg,rfl,p2,PL ep,p3.gen,p3.row,p3.ids,rfl⟩,fun a' h=>by cases h;exact hne⟩,?_,rfl,fun a' h=>by cases h;exact ⟨g,p1⟩⟩
  match π,hl,h0,p1 with
  | [x,y],_,h0,p1=>simp at h0 p1;subst h0 p1;rfl
theorem Jd {f n:Nat} {fn:Func} {code:Code} {xs ys:List AV} {Q:Ws→List AV→Bool→Prop} (hF:X.P.funcs[f]? = some fn) (hb:fn.body = some code) (hrw:X.rw f 0 = false) (h:WrV t H o oa s)
  (hA:∀ π K,π.map Prod.fst = o :: oa.toList→kE X f H π K 1 xs ys) (hi:aT ys = []) (hn:xs.length + 2 = n) (hng:n < dJ)
  (run:∀ m E,WrV n E 0 (oa.map fun _=>1) s→au (qQ fun fr E'=>∃ s' oa' l,bf X fr E' fn.results.toList = some l∧aT l = []∧bW l = []∧gG l = true∧WrV n E' 0 oa' s'∧(oa ≠ none→oa' = some 1)∧Q s' l oa'.isSome)
   X (evT X) f m code (numbered 0 (coerce X (.ptr 0 0 0 0 :: ys) (aV X f))) E) :
  ∃ H' oa' s' l,evT X f (.ptr o 0 0 0 :: xs) H = some (aW l,H')∧WrV t H' o oa' s'∧Q s' l oa'.isSome∧H.length≤H'.length∧(∀ a,oa = some a→oa' = some a)∧(∀ a,oa = none→oa' = some a→H.length≤a) ∧
   (∀ j,j < H.length→j ≠ o→(∀ a,oa = some a→j ≠ a)→H'[j]? = H[j]?):=by
 obtain ⟨π,hI,hπ,hπ0⟩:=h.img
 have hK:0 < (wrS s oa.isSome).length:=by rw [nP];split <;> omega
 have hA':=(hA π (wrS s oa.isSome).length hπ)
 have hA2:kE X f H π (wrS s oa.isSome).length 0 (.ptr o 0 0 0 :: xs) (.ptr 0 0 0 0 :: ys):=kE.ptr hI hrw hπ0 hK hA'
 have hoa:oa.isSome = false→s.o = []:=by
  intro h1
  cases oa with
  | some a=>cases h1
  | none=>obtain ⟨⟨vo,τ,_,_,ho⟩,_⟩:=h;exact ho.1
 obtain ⟨π'',S',v0,H',τf,hE,hτf,hI',hok',hid,⟨s',l,r',hS',hv0,hr',hQ,hil⟩,hlen,hfix,hnew,hrest⟩:=Ev1.img (C:=X) (T:=evT X) (f:=f) (H:=H) (n:=n) (ys:=.ptr 0 0 0 0 :: ys) (Q:=fun S' v0=>∃ s' l r',S' = wrS s' r'∧v0 = aW l∧(r' = false→s'.o = [])∧Q s' l r'∧aT l = []∧bW l = []∧gG l = true∧(oa.isSome = true→r' = true)) (bJ X) hF hb hI (PG s _) hA2
  (by rw [show aT (AV.ptr 0 0 0 0 :: ys) = [0] by simp [aT,ids,hi]];exact ER s _) (by simp;omega) hng (by
   intro E hEl hEI
   obtain ⟨oa1,hV,hπ1,hs1,zO⟩:=WrV.C9 hEI (by rw [zQ,if_pos hK]) hoa
   have aaE:oa1 = oa.map fun _=>1:=by
    cases oa with
    | none=>cases oa1 with
     | none=>rfl
     | some a=>cases hs1
    | some a=>cases oa1 with
     | none=>cases hs1
     | some a1 =>
      obtain ⟨g,hg⟩:=zO a1 rfl
      rw [zQ] at hg
      simp [nP] at hg
      rw [Option.map_some,← hg.1]
   rw [aaE] at hV
   obtain ⟨out,hout,hrun⟩:=run (wrS s oa.isSome).length E hV
   refine ⟨out,⟨hout.1,?_⟩,hrun⟩
   obtain ⟨s',oa',l,hr,hil,htl,hnt,hV',ho',hQ⟩:=hout.2
   obtain ⟨π',hI',hπ',Tt⟩:=hV'.img
   have aaF:oa'.isSome = false→s'.o = []:=by
    intro h1
    cases oa' with
    | some a=>cases h1
    | none=>obtain ⟨⟨vo,τ,_,_,ho⟩,_⟩:=hV';exact ho.1
   refine Leaves.plain hr hil htl hnt hI' (PG s' _) ?_ ?_ ?_ ?_ ⟨s',l,_,rfl,rfl,aaF,hQ,hil,htl,hnt,?_⟩
   ·rw [nP,nP]
    cases oa with
    | none=>cases oa'.isSome <;> simp
    | some a=>rw [ho' (by simp)];simp
   ·intro k hk
    cases oa with
    | none =>
     rw [nP] at hk
     simp at hk
     subst hk
     exact ⟨0,Tt⟩
    | some a =>
     rw [nP] at hk
     simp at hk
     have:k = 0∨k = 1:=by omega
     rcases this with rfl | rfl
     ·exact ⟨0,Tt⟩
     ·rw [ho' (by simp)] at hπ'
      have h1:(π'.map Prod.fst)[1]? = some 1:=by rw [hπ'];rfl
      rw [List.getElem?_map] at h1
      cases hp:π'[1]? with
      | none=>rw [hp] at h1;cases h1
      | some x =>
       rw [hp] at h1
       simp at h1
       exact ⟨x.2,by rw [← h1]⟩
   ·intro k ob ob' h1 h2
    cases hx:oa.isSome <;> cases hy:oa'.isSome <;> rw [hx] at h1 <;> rw [hy] at h2
    all_goals
     match k,h1,h2 with
     | 0,h1,h2 =>
      have e1:=Option.some.inj h1
      have e2:=Option.some.inj h2
      subst e1 e2;rfl
     | 1,h1,h2=>first | (simp [wrS] at h1;done) | (simp [wrS] at h2;done) | (
      have e1:=Option.some.inj h1
      have e2:=Option.some.inj h2
      subst e1 e2;rfl)
     | k + 2,h1,h2=>simp [wrS] at h1
   ·intro k hk1 hk2
    cases hx:oa.isSome <;> cases hy:oa'.isSome <;> rw [hx,nP] at hk1 <;> rw [hy,nP] at hk2 <;> simp at hk1 hk2
    all_goals first | omega | skip
    have:k = 1:=by omega
    subst this
    rw [show List.range (wrS s false).length = [0] from rfl,ER]
    rw [nP];simp
   ·intro h1
    cases oa with
    | none=>cases h1
    | some a=>rw [ho' (by simp)];rfl)
 subst hS' hv0
 obtain ⟨g0,hg0⟩:=hfix 0 o 0 hπ0
 have aaG:g0 = 0:=by
  obtain ⟨o',g',ob,q1,q2,q3⟩:=hI'.ob 0 _ (by cases r' <;> rfl:(wrS s' r')[0]? = some (fM s' (if r' then .sl 1 0 s'.o.length 0 else .ro 0 .pn 0) 0))
  rw [hg0] at q1
  simp only [Option.some.injEq,Prod.mk.injEq] at q1
  obtain ⟨_,rfl⟩:=q1
  exact (q3.bx rfl).2.2
 subst aaG
 obtain ⟨oa',hV',aek,hs',hat'⟩:=WrV.C9 hI' hg0 hr'
 obtain ⟨hil,htl,hnt,hmono⟩:=hil
 rw [je (aW l) (by rw [kY hnt];exact hil) (fun k hk=>by rw [jP hnt,htl] at hk;cases hk)] at hE
 refine ⟨H',oa',s',l,eH hE,hV',by rw [hs'];exact hQ,hlen,?_,?_,?_⟩
 ·intro a ha
  subst ha
  cases oa' with
  | none =>
   have:=hmono rfl
   rw [this] at hs';cases hs'
  | some a' =>
   obtain ⟨g,hg⟩:=hat' a' rfl
   have h1:(π.map Prod.fst)[1]? = some a:=by rw [hπ];rfl
   rw [List.getElem?_map] at h1
   cases hp:π[1]? with
   | none=>rw [hp] at h1;cases h1
   | some x =>
    rw [hp] at h1
    simp at h1
    obtain ⟨g2,hg2⟩:=hfix 1 x.1 x.2 hp
    rw [hg] at hg2
    simp at hg2
    rw [hg2.1,h1]
 ·intro a ha ha'
  subst ha ha'
  obtain ⟨g,hg⟩:=hat' a rfl
  exact hnew 1 a g (by rw [nP];simp) hg
 ·intro j hj hjo hja
  refine hrest j hj ?_
  intro k x g hk e
  have h1:x ∈ π.map Prod.fst:=List.mem_map.2 ⟨(x,g),List.mem_of_getElem? hk,rfl⟩
  rw [hπ] at h1
  rcases List.mem_cons.1 h1 with h1 | h1
  ·exact hjo (e.trans h1)
  ·cases oa with
   | none=>simp at h1
   | some a =>
    simp at h1
    exact hja a rfl (e.trans h1)
end
end Go.Proofs.Yteblpjhkgdpchaa
namespace Go.Proofs.Yteblpjhkgdpchaa
open Go.AM
theorem PN (x:Int):IntKind.i64.wrap ((AM.bits .i64 x &&& AM.bits .i64 1).toNat:Nat) = ((x % 2).toNat:Nat):=by
 have h1:(AM.bits .i64 1).toNat = 1:=by decide
 have h2:(AM.bits .i64 x).toNat % 2 = (x % 2).toNat:=by
  unfold AM.bits
  rw [BitVec.toNat_ofInt]
  show (x % 18446744073709551616).toNat % 2 = _
  omega
 rw [BitVec.toNat_and,h1,Nat.and_one_is_mod,h2,wrap_i64 (by omega) (by omega)]
theorem Gl {v:Nat} (h:v < 256):(AM.bits .u8 (v:Int)).toNat = v:=by
 unfold AM.bits
 rw [BitVec.toNat_ofInt]
 show ((v:Int) % 256).toNat = v
 omega
theorem wu8 {v:Nat} (h:v < 256):IntKind.u8.wrap (v:Int) = (v:Int):=by
 show (v:Int) % 256 = v
 omega
theorem Un {u k:Nat} (hu:u < 2) (hk:k < 8):u * 2 ^ k < 256:=by
 have h1:2 ^ k≤2 ^ 7:=Nat.pow_le_pow_right (by omega) (by omega)
 have:u * 2 ^ k≤1 * 2 ^ 7:=Nat.mul_le_mul (by omega) h1
 omega
def orB (y:UInt8) (x:Int) (k:Nat):UInt8:=UInt8.ofNat (y.toNat ||| (x % 2).toNat * 2 ^ k)
def dZ (s:Ws) (x:Int):Ws:=⟨s.k + 1,(if s.k % 8 = 0 then s.o ++ [0] else s.o).set (s.k / 8) (orB ((if s.k % 8 = 0 then s.o ++ [0] else s.o).getD (s.k / 8) 0) x (s.k % 8))⟩
section
variable {t:Nat} {H:AM.Heap} {o:Nat} {oa:Option Nat} {s:Ws}
theorem V5 {m a g τ τ2:Nat} {x:Int} {ob:AM.Obj} {E:AM.Heap} {y:UInt8} {tl:AM.Frame} (h0:E[0]? = some (some (fM s (.sl a 0 s.o.length g) τ))) (ha:E[a]? = some (some ob)) (hw:RwT (.pb s.o) g τ2 ob) (hk:s.k / 8 < s.o.length) (hy:s.o[s.k / 8]? = some y) (hl:s.k≤10000000) :
  ∃ ob',RwT (.pb (s.o.set (s.k / 8) (orB y x (s.k % 8)))) g τ2 ob'∧∃ code,((Try.f35.body).bind (aS [1,0])) = some code∧Run X (evT X) 35 m code ((0,.ptr 0 0 0 0) :: (1,.int .i64 x) :: tl) E ⟨.normal,[(0,.ptr 0 0 0 0)],upd E a (some ob')⟩:=by
 have q1:=hw.p;have q2:=hw.g;have q4:=hw.ids;have q5:=hw.tg
 simp only [fM] at h0
 have w2:((s.k:Nat):Int).tdiv 8 = ((s.k / 8:Nat):Int):=by rw [Int.tdiv_eq_ediv_of_nonneg (by omega)];omega
 have w2':((s.k:Nat):Int) / 8 = ((s.k / 8:Nat):Int):=by omega
 have w3:((s.k:Nat):Int).tmod 8 = ((s.k % 8:Nat):Int):=by rw [Int.tmod_eq_emod_of_nonneg (by omega)];omega
 have w3':((s.k:Nat):Int) % 8 = ((s.k % 8:Nat):Int):=by omega
 have w4:IntKind.i64.wrap ((s.k / 8:Nat):Int) = ((s.k / 8:Nat):Int):=wrap_i64 (by omega) (by omega)
 have w5:IntKind.i64.wrap ((s.k % 8:Nat):Int) = ((s.k % 8:Nat):Int):=wrap_i64 (by omega) (by omega)
 have hkI:((s.k / 8:Nat):Int) < (s.o.length:Int):=by omega
 have hkr:s.k % 8 < 8:=Nat.mod_lt _ (by omega)
 have hx2:(x % 2).toNat < 2:=by omega
 have hy2:=y.toNat_lt
 have hsh:=Un hx2 hkr
 have hor:y.toNat ||| (x % 2).toNat * 2 ^ (s.k % 8) < 256:=Nat.or_lt_two_pow (n:=8) hy2 hsh
 have f1:¬ ((s.k % 8:Nat):Int) < 0:=by omega
 have f2:IntKind.u8.wrap (IntKind.u8.wrap (IntKind.i64.wrap ((AM.bits .i64 x &&& AM.bits .i64 1).toNat:Nat)) * 2 ^ min (s.k % 8) 8) = (((x % 2).toNat * 2 ^ (s.k % 8):Nat):Int):=by
  rw [PN,wu8 (by omega),Nat.min_eq_left (by omega)]
  have e:(((x % 2).toNat:Nat):Int) * 2 ^ (s.k % 8) = (((x % 2).toNat * 2 ^ (s.k % 8):Nat):Int):=by push_cast;rfl
  rw [e,wu8 hsh]
 have f3:IntKind.u8.wrap ((AM.bits .u8 ((y.toNat:Nat):Int) ||| AM.bits .u8 (((x % 2).toNat * 2 ^ (s.k % 8):Nat):Int)).toNat:Nat) = ((y.toNat ||| (x % 2).toNat * 2 ^ (s.k % 8):Nat):Int):=by
  rw [BitVec.toNat_or,Gl hy2,Gl hsh,wu8 hor]
 have hwI:((y.toNat ||| (x % 2).toNat * 2 ^ (s.k % 8):Nat):Int) < 256:=by omega
 refine ⟨{ ob with p:=.pb (s.o.set (s.k / 8) (orB y x (s.k % 8))) },⟨rfl,hw.g,hw.row,hw.ids,hw.tg⟩,_,rfl,?_⟩
 unfold orB
 generalize (x % 2).toNat * 2 ^ (s.k % 8) = sh at *
 generalize y.toNat ||| sh = wv at *
 generalize s.k / 8 = kd at *
 generalize s.k % 8 = kr at *
 generalize hN:s.o.length = N at *
 generalize s.o = B at *
 have hτ:(if τ2 = 0 then some 0 else some τ2) = some τ2:=by
  split
  ·rename_i h;rw [h]
  ·rfl
 simp only [go_sem] at f2 f3
 refine ⟨0,?_⟩
 simp (maxSteps:=2000000) -implicitDefEqProofs [-getElem?_pos,go_sem,eqV,aj,retag,h0,ha,q1,q2,q4,q5,w2,w2',w3,w3',w4,w5,hk,hkI,hy,hN,f1,f2,f3,hwI,hτ]
end
end Go.Proofs.Yteblpjhkgdpchaa
namespace Go.Proofs.Yteblpjhkgdpchaa
open Go.AM
structure Kpw (H H':AM.Heap) (o:Nat) (oa oa':Option Nat):Prop where
 len:H.length≤H'.length
 same:∀ a,oa = some a→oa' = some a
 new:∀ a,oa = none→oa' = some a→H.length≤a
 rest:∀ j,j < H.length→j ≠ o→(∀ a,oa = some a→j ≠ a)→H'[j]? = H[j]?
theorem Kpw.refl (H:AM.Heap) (o:Nat) (oa:Option Nat):Kpw H H o oa oa:=⟨Nat.le_refl _,fun _ h=>h,fun a h h2=>(by rw [h] at h2;cases h2),fun _ _ _ _=>rfl⟩
theorem Kpw.trans {H H1 H2:AM.Heap} {o:Nat} {oa oa1 oa2:Option Nat} (h:Kpw H H1 o oa oa1) (h2:Kpw H1 H2 o oa1 oa2):Kpw H H2 o oa oa2 where
 len:=Nat.le_trans h.len h2.len
 same:=fun a ha=>h2.same a (h.same a ha)
 new:=by
  intro a ha ha2
  cases h1:oa1 with
  | none=>exact Nat.le_trans h.len (h2.new a h1 ha2)
  | some x =>
   have:=h2.same x h1
   rw [ha2] at this
   cases this
   exact h.new a ha h1
 rest:=by
  intro j hj hjo hja
  rw [h2.rest j (Nat.lt_of_lt_of_le hj h.len) hjo ?_,h.rest j hj hjo hja]
  intro a ha
  cases h1:oa with
  | none=>have:=h.new a h1 ha;omega
  | some x =>
   have:=h.same x h1
   rw [ha] at this
   cases this
   exact hja a h1
theorem Kpw.upd {H:AM.Heap} {o:Nat} {oa:Option Nat} (x:Option AM.Obj):Kpw H (AM.upd H o x) o oa oa where
 len:=by simp [AM.upd]
 same:=fun _ h=>h
 new:=fun a h h2=>by rw [h] at h2;cases h2
 rest:=fun j hj hjo _=>by unfold AM.upd;rw [List.getElem?_set_ne (Ne.symm hjo)]
theorem Kpw.cat {H:AM.Heap} {o:Nat} {oa:Option Nat} (r:AM.Heap):Kpw H (H ++ r) o oa oa where
 len:=by simp
 same:=fun _ h=>h
 new:=fun a h h2=>by rw [h] at h2;cases h2
 rest:=fun j hj hjo _=>List.getElem?_append_left hj
section
variable {t:Nat} {H:AM.Heap} {o:Nat} {oa:Option Nat} {s:Ws}
theorem OuW.upd {vo:AV} {l:List UInt8} {x:Option AM.Obj} (h:OuW t H oa vo l) (hne:∀ a,oa = some a→a ≠ o):OuW t (AM.upd H o x) oa vo l:=by
 cases oa with
 | none=>exact h
 | some a =>
  obtain ⟨g,τ,ob,h1,h2,h3,h4⟩:=h
  exact ⟨g,τ,ob,h1,h2,Bz h3 (Ne.symm (hne a rfl)),h4⟩
theorem WrV.set {s':Ws} {vo:AV} {τ:Nat} (hne:∀ a,oa = some a→a ≠ o) (h2:τ = 0∨τ = t) (ho:o < H.length) (hv:OuW t H oa vo s'.o):WrV t (AM.upd H o (some (fM s' vo τ))) o oa s' :=
 ⟨⟨vo,τ,h2,by unfold AM.upd;rw [List.getElem?_set_self ho],hv.upd hne⟩,hne⟩
theorem WrV.lt (h:WrV t H o oa s):o < H.length∧∀ a,oa = some a→a < H.length:=by
 obtain ⟨⟨vo,τ,_,h0,ho⟩,_⟩:=h
 refine ⟨iF h0,fun a ha=>?_⟩
 subst ha
 obtain ⟨g,τ,ob,_,_,h3,_⟩:=ho
 exact iF h3
theorem WrV.keep {H':AM.Heap} (h:WrV t H o oa s) (h1:H'[o]? = H[o]?) (h2:∀ a,oa = some a→H'[a]? = H[a]?):WrV t H' o oa s:=by
 obtain ⟨⟨vo,τ,a1,h0,ho⟩,hne⟩:=h
 refine ⟨⟨vo,τ,a1,by rw [h1];exact h0,?_⟩,hne⟩
 cases oa with
 | none=>exact ho
 | some a =>
  obtain ⟨g,τ,ob,b1,b2,b3,b4⟩:=ho
  exact ⟨g,τ,ob,b1,b2,by rw [h2 a rfl];exact b3,b4⟩
theorem WrV.cat {r:AM.Heap} (h:WrV t H o oa s):WrV t (H ++ r) o oa s:=h.keep (List.getElem?_append_left h.lt.1) fun a ha=>List.getElem?_append_left (h.lt.2 a ha)
theorem WrV.other {j:Nat} {x:Option AM.Obj} (h:WrV t H o oa s) (h1:j ≠ o) (h2:∀ a,oa = some a→j ≠ a):WrV t (AM.upd H j x) o oa s :=
 h.keep (by unfold AM.upd;rw [List.getElem?_set_ne h1]) fun a ha=>by unfold AM.upd;rw [List.getElem?_set_ne (h2 a ha)]
theorem bsW (H:AM.Heap) (y:UInt8):dL X H 28 1 [(0,.int .u8 (y.toNat:Nat))] = some (.ro 1 (.pb [y]) 0,H):=by
 have:=y.toNat_lt
 have h1:(y.toNat:Int) < 256:=by omega
 simp [dL,kF,uK,mkRow,jT,eF,cellsOf,scalars,scalar,aT,ids,bW,tags,fK,h1]
theorem OuW.app {vo:AV} {l:List UInt8} (y:UInt8) (h:OuW t H oa vo l) (hH:0 < H.length) (hne:∀ a,oa = some a→a ≠ 0) (hl:l.length≤10000000):∃ v' H' oa',dV X H 28 vo (.ro 1 (.pb [y]) 0) = some (v',H')∧OuW t H' oa' v' (l ++ [y])∧Kpw H H' 0 oa oa'∧H'[0]? = H[0]?∧(∀ a,oa' = some a→a ≠ 0):=by
 cases oa with
 | none =>
  obtain ⟨rfl,τ,hτ,rfl⟩:=h
  have hat:(H ++ [some (⟨.pb [y],0,none,0,true,false,0⟩:AM.Obj)])[H.length]? = some (some ⟨.pb [y],0,none,0,true,false,0⟩):=by simp
  refine ⟨.sl H.length 0 1 0,H ++ [some ⟨.pb [y],0,none,0,true,false,0⟩],some H.length,?_,⟨0,0,_,.inl rfl,rfl,hat,⟨rfl,rfl,rfl,rfl,rfl⟩⟩,⟨by simp,fun a h=>(by cases h),fun a _ h=>(by cases h;exact Nat.le_refl _),fun j hj _ _=>List.getElem?_append_left hj⟩,List.getElem?_append_left hH,fun a h=>by cases h;omega⟩
  simp only [dV,uf,ug,BD]
  simp [kD,oM,aj,qO,ji,tJ,dB,aQ]
 | some a =>
  obtain ⟨g,τ,ob,hτ,rfl,ho,hw⟩:=h
  obtain ⟨ob',w1,w2⟩:=Gm (C:=X) (T:=28) (e:=5) (src:=.ro 1 (.pb [y]) 0) (m:=[y]) uf BA ug bytes5 BD ho hw (.inl (by simp [kD,oM,qO])) (by simp;omega)
  refine ⟨_,_,some a,w2,⟨g + 1,τ,ob',hτ,by simp,setAt ho,w1⟩,⟨by simp [AM.upd],fun a' h=>h,fun a' h=>(by cases h),fun j hj h0 hja=>by unfold AM.upd;rw [List.getElem?_set_ne (Ne.symm (hja a rfl))]⟩,by unfold AM.upd;rw [List.getElem?_set_ne (hne a rfl)],hne⟩
def iq (s:Ws):Prop:=s.o.length = (s.k + 7) / 8
theorem vG {x:Int} (h:iq s):iq (dZ s x):=by
 unfold iq dZ at *
 rw [List.length_set]
 simp only
 split
 ·rw [List.length_append,List.length_singleton];omega
 ·omega
theorem V6 {m:Nat} {x:Int} {E:AM.Heap} (h:WrV t E 0 oa s) (hl:s.k≤10000000):∃ code,((Try.f35.body).bind (aS [0,0])) = some code∧Run X (evT X) 35 m code [(0,.ptr 0 0 0 0),(1,.int .i64 x)] E ⟨.normal,[(0,.ptr 0 0 0 0),(1,.int .i64 x),(9,.bool (decide (s.k % 8 = 0)))],E⟩:=by
 refine ⟨_,rfl,?_⟩
 obtain ⟨⟨vo,τ,a1,h0,ho⟩,hne⟩:=id h
 simp only [fM] at h0
 have w3:((s.k:Nat):Int).tmod 8 = ((s.k % 8:Nat):Int):=by rw [Int.tmod_eq_emod_of_nonneg (by omega)];omega
 have w3':((s.k:Nat):Int) % 8 = ((s.k % 8:Nat):Int):=by omega
 have w5:IntKind.i64.wrap ((s.k % 8:Nat):Int) = ((s.k % 8:Nat):Int):=wrap_i64 (by omega) (by omega)
 by_cases hz:s.k % 8 = 0
 ·rw [decide_eq_true hz]
  rw [hz] at w3 w3' w5
  (refine ⟨0,?_⟩;simp (maxSteps:=2000000) -implicitDefEqProofs [-getElem?_pos,go_sem,eqV,aj,h0,w3,w3',w5])
 ·have hzI:¬ ((s.k % 8:Nat):Int) = 0:=by omega
  have hzb:(((s.k % 8:Nat):Int) == 0) = false:=by simpa using hzI
  rw [decide_eq_false hz]
  generalize s.k % 8 = kr at *
  (refine ⟨0,?_⟩;simp (maxSteps:=2000000) -implicitDefEqProofs [-getElem?_pos,go_sem,eqV,aj,h0,w3,w3',w5,hz,hzI,hzb])
theorem V7 {m:Nat} {x:Int} {d:Bool} {E:AM.Heap} (h:WrV t E 0 oa s) (hl:s.o.length≤10000000):∃ E' oa',WrV t E' 0 oa' ⟨s.k,s.o ++ [0]⟩∧Kpw E E' 0 oa oa'∧∃ code,((Try.f35.body).bind (aS [0,1,0])) = some code∧Run X (evT X) 35 m code [(0,.ptr 0 0 0 0),(1,.int .i64 x),(9,.bool d)] E ⟨.normal,[(0,.ptr 0 0 0 0),(1,.int .i64 x)],E'⟩:=by
 obtain ⟨⟨vo,τ,a1,h0,ho⟩,hne⟩:=id h
 obtain ⟨v',E',oa',hA,hv',hk,hE0,hne'⟩:=ho.app 0 h.lt.1 hne hl
 have h0':E'[0]? = some (some (fM s vo τ)):=by rw [hE0];exact h0
 have hbs:=bsW E 0
 refine ⟨AM.upd E' 0 (some (fM ⟨s.k,s.o ++ [0]⟩ v' τ)),oa',WrV.set hne' a1 (iF h0') hv',hk.trans (Kpw.upd _),_,rfl,?_⟩
 simp only [fM] at h0 h0' ⊢
 simp only [show ((0:UInt8).toNat:Int) = 0 from rfl] at hbs
 cases oa' with
 | none=>exact absurd hv'.1 (by simp)
 | some a =>
  obtain ⟨g,τ2,ob,_,rfl,_⟩:=hv'
  generalize (s.o ++ [0]).length = N at *
  (refine ⟨0,?_⟩;simp (maxSteps:=2000000) -implicitDefEqProofs [-getElem?_pos,go_sem,eqV,aj,h0,h0',hbs,hA])
theorem V8 {m:Nat} {E:AM.Heap} (h:WrV t E 0 oa s) (hl:s.k≤10000000):∃ E',WrV t E' 0 oa ⟨s.k + 1,s.o⟩∧Kpw E E' 0 oa oa∧∃ code,((Try.f35.body).bind (aS [1,1])) = some code∧Run X (evT X) 35 m code [(0,.ptr 0 0 0 0)] E ⟨.normal,[],E'⟩:=by
 obtain ⟨⟨vo,τ,a1,h0,ho⟩,hne⟩:=id h
 refine ⟨AM.upd E 0 (some (fM ⟨s.k + 1,s.o⟩ vo τ)),WrV.set hne a1 (iF h0) ho,Kpw.upd _,_,rfl,?_⟩
 have w1:IntKind.i64.wrap ((s.k:Int) + 1) = ((s.k + 1:Nat):Int):=by rw [wrap_i64 (by omega) (by omega)];omega
 simp only [fM] at h0 ⊢
 generalize s.k + 1 = k1 at *
 (refine ⟨0,?_⟩;simp (maxSteps:=2000000) -implicitDefEqProofs [-getElem?_pos,go_sem,eqV,aj,h0,w1])
theorem PO {m:Nat} {x:Int} {E:AM.Heap} (h:WrV t E 0 oa s) (hs:iq s) (hl:s.k≤9000000):∃ code,Try.f35.body = some code ∧
  au (qQ fun fr E'=>∃ oa',WrV t E' 0 oa' (dZ s x)∧Kpw E E' 0 oa oa') X (evT X) 35 m code [(0,.ptr 0 0 0 0),(1,.int .i64 x)] E:=by
 refine ⟨_,rfl,?_⟩
 have hso:=hs
 unfold iq at hso
 apply au.assoc
 apply au.seq (piece (V6 h (by omega)) _ rfl)
 -- the byte
 have key:∀ {E1:AM.Heap} {oa1:Option Nat} {tl:AM.Frame},WrV t E1 0 oa1 ⟨s.k,if s.k % 8 = 0 then s.o ++ [0] else s.o⟩→Kpw E E1 0 oa oa1→∃ code,((Try.f35.body).bind (aS [1])) = some code∧au (qQ fun fr E'=>∃ oa',WrV t E' 0 oa' (dZ s x)∧Kpw E E' 0 oa oa') X (evT X) 35 m code ((0,.ptr 0 0 0 0) :: (1,.int .i64 x) :: tl) E1:=by
  intro E1 oa1 tl hV hk
  refine ⟨_,rfl,?_⟩
  have hB:s.k / 8 < (if s.k % 8 = 0 then s.o ++ [0] else s.o).length:=by
   split
   ·rw [List.length_append,List.length_singleton];omega
   ·omega
  have hg:(if s.k % 8 = 0 then s.o ++ [0] else s.o).getD (s.k / 8) 0 = (if s.k % 8 = 0 then s.o ++ [0] else s.o)[s.k / 8]:=by
   rw [List.getD_eq_getElem?_getD,List.getElem?_eq_getElem hB];rfl
  have hbw:dZ s x = ⟨s.k + 1,(if s.k % 8 = 0 then s.o ++ [0] else s.o).set (s.k / 8) (orB ((if s.k % 8 = 0 then s.o ++ [0] else s.o)[s.k / 8]) x (s.k % 8))⟩:=by
   unfold dZ
   rw [hg]
  rw [hbw]
  generalize (if s.k % 8 = 0 then s.o ++ [0] else s.o) = B at *
  obtain ⟨⟨vo,τ,a1,h0,ho⟩,hne⟩:=id hV
  cases oa1 with
  | none =>
   have:=ho.1
   simp only at this
   subst this
   simp at hB
  | some a =>
   obtain ⟨g,τ2,ob,hτ2,rfl,h3,h4⟩:=ho
   obtain ⟨ob',w1,hr2⟩:=V5 (m:=m) (s:=⟨s.k,B⟩) (x:=x) (tl:=tl) (y:=B[s.k / 8]) h0 h3 h4 hB (List.getElem?_eq_getElem hB) (by simp only;omega)
   have hV2:WrV t (upd E1 a (some ob')) 0 (some a) ⟨s.k,B.set (s.k / 8) (orB (B[s.k / 8]) x (s.k % 8))⟩ :=
    ⟨⟨_,τ,a1,Bz h0 (hne a rfl),g,τ2,ob',hτ2,by simp,setAt h3,w1⟩,hne⟩
   obtain ⟨E3,hV3,hk3,hr3⟩:=V8 (m:=m) hV2 (by simp only;omega)
   have hk2:Kpw E (upd E1 a (some ob')) 0 oa (some a):=by
    refine ⟨by have:=hk.len;simpa [AM.upd] using this,hk.same,hk.new,?_⟩
    intro j hj h1 h2
    have hja:j ≠ a:=by
     intro e
     subst e
     cases hq:oa with
     | none=>have:=hk.new j hq rfl;omega
     | some z=>have:=hk.same z hq;cases this;exact h2 _ hq rfl
    unfold AM.upd
    rw [List.getElem?_set_ne (Ne.symm hja)]
    exact hk.rest j hj h1 h2
   refine au.of (o:=⟨.normal,[],E3⟩) ?_ ⟨.inl rfl,_,hV3,hk2.trans hk3⟩
   exact Run.seq (piece hr2 _ rfl) (piece hr3 _ rfl)
 by_cases hz:s.k % 8 = 0
 ·obtain ⟨E1,oa1,hV1,hk1,hr1⟩:=V7 (m:=m) (x:=x) (d:=decide (s.k % 8 = 0)) h (by omega)
  apply au.seq (fr':=[(0,.ptr 0 0 0 0),(1,.int .i64 x)]) (H':=E1)
  ·refine Run.cond (d:=true) (by simp [aK,aI,hz]) ?_
   exact piece hr1 _ rfl
  refine piece (key (tl:=[]) ?_ hk1) _ rfl
  rw [if_pos hz]
  exact hV1
 ·apply au.seq (fr':=[(0,.ptr 0 0 0 0),(1,.int .i64 x),(9,.bool (decide (s.k % 8 = 0)))]) (H':=E)
  ·exact Run.cond (d:=false) (by simp [aK,aI,hz]) ⟨0,rfl⟩
  refine piece (key ?_ (Kpw.refl E 0 oa)) _ rfl
  rw [if_neg hz]
  exact h
theorem PS {x:Int} (h:WrV t H o oa s) (hs:iq s) (hl:s.k≤9000000):∃ H' oa',evT X 35 [.ptr o 0 0 0,.int .i64 x] H = some (.tup [],H')∧WrV t H' o oa' (dZ s x)∧Kpw H H' o oa oa':=by
 obtain ⟨code,hc⟩:∃ code,Try.f35.body = some code:=⟨_,rfl⟩
 obtain ⟨H',oa',s',l,hE,hV,⟨rfl,rfl⟩,h1,h2,h3,h4⟩:=Jd (f:=35) (n:=3) (xs:=[.int .i64 x]) (ys:=[.int .i64 x]) (Q:=fun s' l r=>s' = dZ s x∧l = []) Try.func35 hc rfl h (fun π K _=>kE.flat rfl rfl kE.nil) rfl rfl (by simp [dJ]) (by
  intro m E hE
  obtain ⟨wO,hc2,ht⟩:=PO (m:=m) (x:=x) hE hs hl
  rw [hc] at hc2
  obtain rfl:=Option.some.inj hc2
  rw [V9]
  refine ht.mono fun out ho=>⟨ho.1,?_⟩
  obtain ⟨oa',q1,q2⟩:=ho.2
  refine ⟨_,oa',[],rfl,rfl,rfl,rfl,q1,fun hn=>?_,rfl,rfl⟩
  cases oa with
  | none=>exact absurd rfl hn
  | some a=>exact q2.same 1 rfl)
 exact ⟨H',oa',hE,hV,⟨h1,h2,h3,h4⟩⟩
end
end Go.Proofs.Yteblpjhkgdpchaa
namespace Go.Proofs.Yteblpjhkgdpchaa
open Go.AM
def cu (s:Ws) (x:Int):Nat→Ws
 | 0=>s
 | n + 1=>dZ (cu s x n) (x / 2 ^ n)
def oP (s:Ws) (x:Int):Nat→Ws
 | 0=>s
 | n + 1=>oP (dZ s (x / 2 ^ n)) x n
theorem bT {s:Ws} {x:Int} (h:iq s):∀ n,iq (cu s x n)∧(cu s x n).k = s.k + n
 | 0=>⟨h,rfl⟩
 | n + 1=>by
  obtain ⟨h1,h2⟩:=bT h n
  exact ⟨vG h1,by simp only [cu,dZ,h2];omega⟩
theorem Hu {x:Int}:∀ (n:Nat) {s:Ws},iq s→iq (oP s x n)∧(oP s x n).k = s.k + n
 | 0,_,h=>⟨h,rfl⟩
 | n + 1,s,h=>by
  obtain ⟨h1,h2⟩:=Hu n (vG (x:=x / 2 ^ n) h)
  have hk:(dZ s (x / 2 ^ n)).k = s.k + 1:=rfl
  exact ⟨h1,by show (oP (dZ s (x / 2 ^ n)) x n).k = _;rw [h2,hk];omega⟩
theorem Gn {x:Int} {i:Nat} (hi:i≤60):x.fdiv (2 ^ min i 64) = x / 2 ^ i:=by
 rw [Nat.min_eq_left (by omega)]
 exact Int.fdiv_eq_ediv_of_nonneg _ (Int.le_of_lt (Int.pow_pos (by omega)))
section
variable {t:Nat} {H:AM.Heap} {o:Nat} {oa:Option Nat} {s:Ws}
def wF (x:Int) (n i:Nat):AM.Frame:=[(0,.ptr 0 0 0 0),(1,.int .i64 x),(7,.int .i64 (n:Nat)),(8,.int .i64 (i:Nat))]
theorem Wh {m n i:Nat} {x:Int} {E:AM.Heap} (h:WrV t E 0 oa s) (hs:iq s) (hl:s.k≤9000000) (hi:i≤60):∃ E' oa',WrV t E' 0 oa' (dZ s (x / 2 ^ i))∧Kpw E E' 0 oa oa'∧∃ code,((Try.f25.body).bind (aS [1,0,0,1,1])) = some code∧Run X (evT X) 25 m code (wF x n i ++ [(9,.bool true)]) E ⟨.normal,wF x n (i + 1),E'⟩:=by
 obtain ⟨E',oa',g1,g2,g3⟩:=PS (x:=x / 2 ^ i) h hs hl
 refine ⟨E',oa',g2,g3,_,rfl,?_⟩
 have w1:IntKind.i64.wrap ((i:Int) + 1) = ((i + 1:Nat):Int):=by rw [wrap_i64 (by omega) (by omega)];omega
 have hi0:¬ (i:Int) < 0:=by omega
 have w2:=Gn (x:=x) hi
 apply Run.seq (fr':=wF x n i) (H':=E')
 ·apply Run.block
  ·apply Run.seq (fr':=[(0,.ptr 0 0 0 0),(1,.int .i64 x),(6,.int .i64 (i:Nat)),(7,.int .i64 (n:Nat)),(8,.int .i64 (i:Nat))]) (H':=E)
   ·simp only [wF]
    (refine ⟨0,?_⟩;simp (maxSteps:=2000000) -implicitDefEqProofs [-getElem?_pos,go_sem,eqV,aj,aC])
   ·simp only [wF]
    (refine ⟨0,?_⟩;simp (maxSteps:=2000000) -implicitDefEqProofs [-getElem?_pos,go_sem,eqV,aj,g1,hi0,w2])
  ·simp
 ·generalize i + 1 = i1 at *
  simp only [wF]
  (refine ⟨0,?_⟩;simp (maxSteps:=2000000) -implicitDefEqProofs [-getElem?_pos,go_sem,eqV,aj,w1])
theorem Je {m n:Nat} {x:Int} {E:AM.Heap} (h:WrV t E 0 oa s) (hs:iq s) (hl:s.k≤8000000) (hn:n≤60):∃ code,Try.f25.body = some code ∧
  au (qQ fun fr E'=>∃ oa',WrV t E' 0 oa' (cu s x n)∧Kpw E E' 0 oa oa') X (evT X) 25 m code [(0,.ptr 0 0 0 0),(1,.int .i64 x),(2,.int .i64 (n:Nat))] E:=by
 refine ⟨_,rfl,?_⟩
 apply au.seq (fr':=wF x n 0) (H':=E)
 ·simp only [wF]
  (refine ⟨0,?_⟩;simp (maxSteps:=2000000) -implicitDefEqProofs [-getElem?_pos,go_sem,eqV,aj])
 refine au.mono (Q:=Goes fun fr E'=>∃ oa',WrV t E' 0 oa' (cu s x n)∧Kpw E E' 0 oa oa') ?_ fun o ho=>⟨.inl ho.1,ho.2⟩
 apply au.block
 refine au.lJ (I:=fun q fr E'=>∃ i oa',i≤n∧q = n - i∧fr = wF x n i∧WrV t E' 0 oa' (cu s x i)∧Kpw E E' 0 oa oa') ?_ (k:=n) ⟨0,oa,by omega,rfl,rfl,h,Kpw.refl E 0 oa⟩
 rintro q fr E' ⟨i,oa',hi,rfl,rfl,hV,hk⟩
 by_cases hin:i = n
 ·subst hin
  refine au.of (o:=⟨.exit 0,wF x i i ++ [(9,.bool false)],E'⟩) ?_ (.inr ⟨by simp,rfl,oa',hV,hk⟩)
  refine ⟨0,?_⟩
  simp only [wF]
  simp (maxSteps:=2000000) -implicitDefEqProofs [-getElem?_pos,go_sem,eqV,aj]
 ·have hlt:i < n:=by omega
  have jB:(i:Int) < (n:Int):=by omega
  obtain ⟨f1,f2⟩:=bT (x:=x) hs i
  obtain ⟨E2,oa2,h1,h2,hr⟩:=Wh (m:=m) (n:=n) (i:=i) (x:=x) hV f1 (by omega) (by omega)
  refine au.of (o:=⟨.normal,wF x n (i + 1),E2⟩) ?_ (.inl ⟨rfl,n - (i + 1),by omega,i + 1,oa2,by omega,rfl,rfl,h1,hk.trans h2⟩)
  apply Run.seq (fr':=wF x n i ++ [(9,.bool true)]) (H':=E')
  ·simp only [wF]
   (refine ⟨0,?_⟩;simp (maxSteps:=2000000) -implicitDefEqProofs [-getElem?_pos,go_sem,eqV,aj,jB,hlt])
  apply Run.seq (fr':=wF x n i ++ [(9,.bool true)]) (H':=E')
  ·exact Run.cond (d:=true) (by simp [wF,aK,aI]) ⟨0,rfl⟩
  exact piece hr _ rfl
def zS (x:Int) (I:Int):AM.Frame:=[(0,.ptr 0 0 0 0),(1,.int .i64 x),(6,.int .i64 I)]
theorem KF {m n:Nat} {x:Int} {E:AM.Heap} (h:WrV t E 0 oa s) (hs:iq s) (hl:s.k≤8000000) (hn:n≤60):∃ code,Try.f32.body = some code ∧
  au (qQ fun fr E'=>∃ oa',WrV t E' 0 oa' (oP s x n)∧Kpw E E' 0 oa oa') X (evT X) 32 m code [(0,.ptr 0 0 0 0),(1,.int .i64 x),(2,.int .i64 (n:Nat))] E:=by
 refine ⟨_,rfl,?_⟩
 apply au.seq (fr':=zS x ((n:Int) - 1)) (H':=E)
 ·have w1:IntKind.i64.wrap ((n:Int) - 1) = (n:Int) - 1:=by rw [wrap_i64 (by omega) (by omega)]
  simp only [zS]
  (refine ⟨0,?_⟩;simp (maxSteps:=2000000) -implicitDefEqProofs [-getElem?_pos,go_sem,eqV,aj,w1,aC])
 refine au.mono (Q:=Goes fun fr E'=>∃ oa',WrV t E' 0 oa' (oP s x n)∧Kpw E E' 0 oa oa') ?_ fun o ho=>⟨.inl ho.1,ho.2⟩
 apply au.block
 refine au.lJ (I:=fun q fr E'=>∃ oa' s',q≤n∧s'.k + q = s.k + n∧iq s'∧fr = zS x ((q:Int) - 1)∧WrV t E' 0 oa' s'∧Kpw E E' 0 oa oa'∧oP s' x q = oP s x n) ?_ (k:=n) ⟨oa,s,by omega,rfl,hs,rfl,h,Kpw.refl E 0 oa,rfl⟩
 rintro q fr E' ⟨oa',s',hq,hkk,hs',rfl,hV,hk,hc⟩
 cases q with
 | zero =>
  refine au.of (o:=⟨.exit 0,zS x (((0:Nat):Int) - 1) ++ [(10,.bool false)],E'⟩) ?_ (.inr ⟨by simp,rfl,oa',by rw [← hc];exact hV,hk⟩)
  have e1:(((0:Nat):Int) - 1) = -1:=rfl
  rw [e1]
  refine ⟨0,?_⟩
  simp only [zS]
  simp (maxSteps:=2000000) -implicitDefEqProofs [-getElem?_pos,go_sem,eqV,aj]
 | succ q =>
  have e1:(((q + 1:Nat):Int) - 1) = (q:Nat):=by omega
  rw [e1]
  obtain ⟨E2,oa2,g1,g2,g3⟩:=PS (x:=x / 2 ^ q) hV hs' (by omega)
  refine au.of (o:=⟨.normal,zS x ((q:Int) - 1),E2⟩) ?_ (.inl ⟨rfl,q,by omega,oa2,dZ s' (x / 2 ^ q),by omega,by simp only [dZ];omega,vG hs',rfl,g2,hk.trans g3,hc⟩)
  have w1:IntKind.i64.wrap ((q:Int) - 1) = (q:Int) - 1:=by rw [wrap_i64 (by omega) (by omega)]
  have hq0:¬ (q:Int) < 0:=by omega
  have hq1:(0:Int)≤(q:Int):=by omega
  have w2:=Gn (x:=x) (i:=q) (by omega)
  apply Run.seq (fr':=zS x (q:Nat) ++ [(10,.bool true)]) (H':=E')
  ·apply Run.seq (fr':=zS x (q:Nat) ++ [(10,.bool true)]) (H':=E')
   ·simp only [zS]
    (refine ⟨0,?_⟩;simp (maxSteps:=2000000) -implicitDefEqProofs [-getElem?_pos,go_sem,eqV,aj,hq1])
   ·exact Run.cond (d:=true) (by simp [zS,aK,aI]) ⟨0,rfl⟩
  apply Run.seq (fr':=zS x (q:Nat)) (H':=E2)
  ·apply Run.block
   ·simp only [zS]
    (refine ⟨0,?_⟩;simp (maxSteps:=2000000) -implicitDefEqProofs [-getElem?_pos,go_sem,eqV,aj,g1,hq0,w2])
   ·simp
  ·simp only [zS]
   (refine ⟨0,?_⟩;simp (maxSteps:=2000000) -implicitDefEqProofs [-getElem?_pos,go_sem,eqV,aj,w1,aC])
theorem Bl {f n:Nat} {fn:Func} {code:Code} {xs ys:List AV} {s':Ws} (hF:X.P.funcs[f]? = some fn) (hb:fn.body = some code) (hrw:X.rw f 0 = false) (h:WrV t H o oa s)
  (hA:∀ π K,π.map Prod.fst = o :: oa.toList→kE X f H π K 1 xs ys) (hi:aT ys = []) (hn:xs.length + 2 = n) (hng:n < dJ) (hr:fn.results.toList = [])
  (run:∀ m E oa1,WrV n E 0 oa1 s→∃ code,fn.body = some code∧au (qQ fun fr E'=>∃ oa',WrV n E' 0 oa' s'∧Kpw E E' 0 oa1 oa') X (evT X) f m code (numbered 0 (coerce X (.ptr 0 0 0 0 :: ys) (aV X f))) E) :
  ∃ H' oa',evT X f (.ptr o 0 0 0 :: xs) H = some (.tup [],H')∧WrV t H' o oa' s'∧Kpw H H' o oa oa':=by
 obtain ⟨H',oa',s2,l,hE,hV,⟨rfl,rfl⟩,h1,h2,h3,h4⟩:=Jd (Q:=fun s2 l r=>s2 = s'∧l = []) hF hb hrw h hA hi hn hng (by
  intro m E hE
  obtain ⟨wO,hc2,ht⟩:=run m E _ hE
  rw [hb] at hc2
  obtain rfl:=Option.some.inj hc2
  refine ht.mono fun out ho=>⟨ho.1,?_⟩
  obtain ⟨oa',q1,q2⟩:=ho.2
  refine ⟨_,oa',[],by rw [hr];rfl,rfl,rfl,rfl,q1,fun hn=>?_,rfl,rfl⟩
  cases oa with
  | none=>exact absurd rfl hn
  | some a=>exact q2.same 1 rfl)
 exact ⟨H',oa',hE,hV,⟨h1,h2,h3,h4⟩⟩
theorem mQ {x I:Int} {n:Nat} (hI:I = (n:Nat)) (h:WrV t H o oa s) (hs:iq s) (hl:s.k≤8000000) (hn:n≤60):∃ H' oa',evT X 25 [.ptr o 0 0 0,.int .i64 x,.int .i64 I] H = some (.tup [],H')∧WrV t H' o oa' (cu s x n)∧Kpw H H' o oa oa':=by
 subst hI
 obtain ⟨code,hc⟩:∃ code,Try.f25.body = some code:=⟨_,rfl⟩
 exact Bl (n:=4) (xs:=[.int .i64 x,.int .i64 (n:Nat)]) (ys:=[.int .i64 x,.int .i64 (n:Nat)]) Try.func25 hc rfl h (fun π K _=>kE.flat rfl rfl (kE.flat rfl rfl kE.nil)) rfl rfl (by simp [dJ]) rfl fun m E oa1 hE=>by
  obtain ⟨wO,hc2,ht⟩:=Je (m:=m) (x:=x) hE hs hl hn
  rw [Wi]
  exact ⟨wO,hc2,ht⟩
theorem yg {x I:Int} {n:Nat} (hI:I = (n:Nat)) (h:WrV t H o oa s) (hs:iq s) (hl:s.k≤8000000) (hn:n≤60):∃ H' oa',evT X 32 [.ptr o 0 0 0,.int .i64 x,.int .i64 I] H = some (.tup [],H')∧WrV t H' o oa' (oP s x n)∧Kpw H H' o oa oa':=by
 subst hI
 obtain ⟨code,hc⟩:∃ code,Try.f32.body = some code:=⟨_,rfl⟩
 exact Bl (n:=4) (xs:=[.int .i64 x,.int .i64 (n:Nat)]) (ys:=[.int .i64 x,.int .i64 (n:Nat)]) Try.func32 hc rfl h (fun π K _=>kE.flat rfl rfl (kE.flat rfl rfl kE.nil)) rfl rfl (by simp [dJ]) rfl fun m E oa1 hE=>by
  obtain ⟨wO,hc2,ht⟩:=KF (m:=m) (x:=x) hE hs hl hn
  rw [Wj]
  exact ⟨wO,hc2,ht⟩
end
end Go.Proofs.Yteblpjhkgdpchaa
namespace Go.Proofs.Yteblpjhkgdpchaa
open Go.AM
def pI:AM.Obj:=⟨.pb [],0,none,0,true,false,0⟩
theorem Gp:rowOf (dB X 5) none 0 = pI:=by simp [dB,rowOf,pI]
section
variable {s:Ws} {v:Nat} {E:AM.Heap}
theorem Wn {m q g τ:Nat} {B:List UInt8} {ob:AM.Obj} {tl:AM.Frame} (ho:E[q]? = some (some ob)) (hw:RwT (.pb B) g τ ob) (hk:s.k / 8 < B.length) (hv:v < 2) (hl:s.k≤10000000) :
    ∃ ob',RwT (.pb (B.set (s.k / 8) (orB (B[s.k / 8]) (v:Nat) (s.k % 8)))) g τ ob'∧∃ code,((Try.f55.body).bind (aS [1,1,0])) = some code∧Run X (evT X) 55 m code ((0,.sl q 0 B.length g) :: (1,.int .i64 (s.k:Nat)) :: (2,.int .i64 (v:Nat)) :: tl) E ⟨.normal,[(0,.sl q 0 B.length g)],upd E q (some ob')⟩:=by
  have q1:=hw.p;have q2:=hw.g;have q4:=hw.ids;have q5:=hw.tg
  have w2:((s.k:Nat):Int).tdiv 8 = ((s.k / 8:Nat):Int):=by rw [Int.tdiv_eq_ediv_of_nonneg (by omega)];omega
  have w2':((s.k:Nat):Int) / 8 = ((s.k / 8:Nat):Int):=by omega
  have w3:((s.k:Nat):Int).tmod 8 = ((s.k % 8:Nat):Int):=by rw [Int.tmod_eq_emod_of_nonneg (by omega)];omega
  have w3':((s.k:Nat):Int) % 8 = ((s.k % 8:Nat):Int):=by omega
  have w4:IntKind.i64.wrap ((s.k / 8:Nat):Int) = ((s.k / 8:Nat):Int):=wrap_i64 (by omega) (by omega)
  have w5:IntKind.i64.wrap ((s.k % 8:Nat):Int) = ((s.k % 8:Nat):Int):=wrap_i64 (by omega) (by omega)
  have w6:IntKind.u64.wrap ((s.k % 8:Nat):Int) = ((s.k % 8:Nat):Int):=wrap_u64 (by omega) (by omega)
  have w7:IntKind.u8.wrap ((v:Nat):Int) = ((v:Nat):Int):=wu8 (by omega)
  have hkI:((s.k / 8:Nat):Int) < (B.length:Int):=by omega
  have hkr:s.k % 8 < 8:=Nat.mod_lt _ (by omega)
  obtain ⟨y,hy⟩:∃ y,B[s.k / 8]? = some y:=⟨_,List.getElem?_eq_getElem hk⟩
  have hyg:B[s.k / 8] = y:=by rw [List.getElem?_eq_getElem hk] at hy;exact Option.some.inj hy
  rw [hyg]
  clear hyg
  have hv2:(((v:Nat):Int) % 2).toNat = v:=by omega
  have hy2:=y.toNat_lt
  have hsh:=Un hv hkr
  have hor:y.toNat ||| v * 2 ^ (s.k % 8) < 256:=Nat.or_lt_two_pow (n:=8) hy2 hsh
  have f0:¬ ((s.k % 8:Nat):Int) < 0:=by omega
  have f2:IntKind.u8.wrap (((v:Nat):Int) * 2 ^ min (s.k % 8) 8) = ((v * 2 ^ (s.k % 8):Nat):Int):=by
    rw [Nat.min_eq_left (by omega)]
    have e:((v:Nat):Int) * 2 ^ (s.k % 8) = ((v * 2 ^ (s.k % 8):Nat):Int):=by push_cast;rfl
    rw [e,wu8 hsh]
  have f3:IntKind.u8.wrap ((AM.bits .u8 ((y.toNat:Nat):Int) ||| AM.bits .u8 ((v * 2 ^ (s.k % 8):Nat):Int)).toNat:Nat) = ((y.toNat ||| v * 2 ^ (s.k % 8):Nat):Int):=by
    rw [BitVec.toNat_or,Gl hy2,Gl hsh,wu8 hor]
  have hwI:((y.toNat ||| v * 2 ^ (s.k % 8):Nat):Int) < 256:=by omega
  refine ⟨{ ob with p:=.pb (B.set (s.k / 8) (orB y (v:Nat) (s.k % 8))) },⟨rfl,hw.g,hw.row,hw.ids,hw.tg⟩,_,rfl,?_⟩
  unfold orB
  rw [hv2]
  generalize v * 2 ^ (s.k % 8) = sh at *
  generalize y.toNat ||| sh = wv at *
  generalize s.k / 8 = kd at *
  generalize s.k % 8 = kr at *
  generalize hN:B.length = N at *
  have hτ:(if τ = 0 then some 0 else some τ) = some τ:=by
    split
    · rename_i h;rw [h]
    · rfl
  simp only [go_sem] at f2 f3 w7
  refine ⟨0,?_⟩
  simp (maxSteps:=2000000) -implicitDefEqProofs [-getElem?_pos,go_sem,eqV,aj,retag,ho,q1,q2,q4,q5,w2,w2',w3,w3',w4,w5,w6,w7,hk,hkI,hy,hN,f0,f2,f3,hwI,hτ]
theorem KG {m q g τ:Nat} {B:List UInt8} {ob:AM.Obj} {tl:AM.Frame} (ho:E[q]? = some (some ob)) (hw:RwT (.pb B) g τ ob) (hk:s.k / 8 < B.length) (hv:v < 2) (hl:s.k≤10000000) (hB:B = if s.k % 8 = 0 then s.o ++ [0] else s.o) :
    ∃ ob',RwT (.pb (dZ s (v:Nat)).o) g τ ob'∧∃ code,((Try.f55.body).bind (aS [1,1])) = some code∧Run X (evT X) 55 m code ((0,.sl q 0 B.length g) :: (1,.int .i64 (s.k:Nat)) :: (2,.int .i64 (v:Nat)) :: tl) E ⟨.ret,[(6,.sl q 0 (dZ s (v:Nat)).o.length g)],upd E q (some ob')⟩:=by
  obtain ⟨ob',w,hr⟩:=Wn (m:=m) (tl:=tl) ho hw hk hv hl
  have hbw:(dZ s (v:Nat)).o = B.set (s.k / 8) (orB (B[s.k / 8]) (v:Nat) (s.k % 8)):=by
    have hg:B.getD (s.k / 8) 0 = B[s.k / 8]:=by rw [List.getD_eq_getElem?_getD,List.getElem?_eq_getElem hk];rfl
    unfold dZ
    rw [← hB,hg]
  have hlen:(dZ s (v:Nat)).o.length = B.length:=by rw [hbw,List.length_set]
  refine ⟨ob',by rw [hbw];exact w,_,rfl,?_⟩
  rw [hlen]
  apply Run.seq (piece hr _ rfl)
  clear hr hlen hbw w
  generalize B.length = N at *
  refine ⟨0,?_⟩
  simp (maxSteps:=2000000) -implicitDefEqProofs [-getElem?_pos,go_sem,eqV,aj,aC]
theorem PU {m τ:Nat} {ob:AM.Obj} (hw:RwT (.pb s.o) 0 τ ob) (hs:iq s) (hv:v < 2) (hl:s.k≤9000000):∃ g ob1 R,RwT (.pb (dZ s (v:Nat)).o) g τ ob1∧∃ code,Try.f55.body = some code ∧
    Run X (evT X) 55 m code [(0,.sl 0 0 s.o.length 0),(1,.int .i64 (s.k:Nat)),(2,.int .i64 (v:Nat))] [some ob] ⟨.ret,[(6,.sl 0 0 (dZ s (v:Nat)).o.length g)],some ob1 :: R⟩:=by
  have hso:=hs
  unfold iq at hso
  have w3:((s.k:Nat):Int).tmod 8 = ((s.k % 8:Nat):Int):=by rw [Int.tmod_eq_emod_of_nonneg (by omega)];omega
  have w3':((s.k:Nat):Int) % 8 = ((s.k % 8:Nat):Int):=by omega
  have w5:IntKind.i64.wrap ((s.k % 8:Nat):Int) = ((s.k % 8:Nat):Int):=wrap_i64 (by omega) (by omega)
  by_cases h8:s.k % 8 = 0
  · obtain ⟨ob2,w2,hA⟩:=Gm (C:=X) (T:=28) (e:=5) (H:=[some ob,some pI]) (o:=0) (src:=.ro 1 (.pb [0]) 0) (m:=[0]) uf BA ug bytes5 BD rfl hw (.inl (by simp [kD,oM,qO])) (by simp;omega)
    have hlen:(s.o ++ [0]).length = s.o.length + 1:=by simp
    have hB:s.k / 8 < (s.o ++ [0]).length:=by rw [hlen];omega
    obtain ⟨ob3,w4,hr⟩:=KG (m:=m) (E:=AM.upd [some ob,some pI] 0 (some ob2)) (q:=0) (tl:=[]) rfl w2 hB hv (by omega) (by rw [if_pos h8])
    refine ⟨_,ob3,[some pI],w4,_,rfl,?_⟩
    have hbs:=bsW [some ob,some pI] 0
    simp only [show ((0:UInt8).toNat:Int) = 0 from rfl] at hbs
    rw [hlen] at hr
    rw [h8] at w3 w3' w5
    simp only [List.length_singleton] at hA
    apply Run.seq (fr':=[(0,.sl 0 0 s.o.length 0),(1,.int .i64 (s.k:Nat)),(2,.int .i64 (v:Nat))]) (H':=[some ob,some pI])
    · generalize s.o.length = N at *
      (refine ⟨0,?_⟩;simp (maxSteps:=2000000) -implicitDefEqProofs [-getElem?_pos,go_sem,eqV,aj,aC,Gp])
    apply Run.seq (fr':=[(0,.sl 0 0 (s.o.length + 1) (0 + 1)),(1,.int .i64 (s.k:Nat)),(2,.int .i64 (v:Nat))]) (H':=AM.upd [some ob,some pI] 0 (some ob2))
    · apply Run.seq (fr':=[(0,.sl 0 0 s.o.length 0),(1,.int .i64 (s.k:Nat)),(2,.int .i64 (v:Nat)),(9,.bool true)]) (H':=[some ob,some pI])
      · generalize s.o.length = N at *
        (refine ⟨0,?_⟩;simp (maxSteps:=2000000) -implicitDefEqProofs [-getElem?_pos,go_sem,eqV,aj,w3,w3',w5])
      · refine Run.cond (d:=true) (by simp [aK,aI]) ?_
        generalize s.o.length + 1 = N1 at *
        generalize s.o.length = N at *
        (refine ⟨0,?_⟩;simp (maxSteps:=2000000) -implicitDefEqProofs [-getElem?_pos,go_sem,eqV,aj,hbs,hA,aC])
    exact piece hr _ rfl
  · have hB:s.k / 8 < s.o.length:=by omega
    obtain ⟨ob3,w4,hr⟩:=KG (m:=m) (s:=s) (v:=v) (B:=s.o) (E:=[some ob,some pI]) (q:=0) (tl:=[(9,.bool false)]) rfl hw hB hv (by omega) (by rw [if_neg h8])
    refine ⟨_,ob3,[some pI],w4,_,rfl,?_⟩
    have hzI:¬ ((s.k % 8:Nat):Int) = 0:=by omega
    have hzb:(((s.k % 8:Nat):Int) == 0) = false:=by simpa using hzI
    apply Run.seq (fr':=[(0,.sl 0 0 s.o.length 0),(1,.int .i64 (s.k:Nat)),(2,.int .i64 (v:Nat))]) (H':=[some ob,some pI])
    · generalize s.o.length = N at *
      (refine ⟨0,?_⟩;simp (maxSteps:=2000000) -implicitDefEqProofs [-getElem?_pos,go_sem,eqV,aj,aC,Gp])
    apply Run.seq (fr':=[(0,.sl 0 0 s.o.length 0),(1,.int .i64 (s.k:Nat)),(2,.int .i64 (v:Nat)),(9,.bool false)]) (H':=[some ob,some pI])
    · apply Run.seq (fr':=[(0,.sl 0 0 s.o.length 0),(1,.int .i64 (s.k:Nat)),(2,.int .i64 (v:Nat)),(9,.bool false)]) (H':=[some ob,some pI])
      · generalize s.k % 8 = kr at *
        generalize s.o.length = N at *
        (refine ⟨0,?_⟩;simp (maxSteps:=2000000) -implicitDefEqProofs [-getElem?_pos,go_sem,eqV,aj,w3,w3',w5,h8,hzI,hzb])
      · exact Run.cond (d:=false) (by simp [aK,aI]) ⟨0,rfl⟩
    exact piece hr _ rfl
end
end Go.Proofs.Yteblpjhkgdpchaa
namespace Go.Proofs.Yteblpjhkgdpchaa
open Go.AM
section
variable {t:Nat} {H:AM.Heap} {o:Nat} {oa:Option Nat} {s:Ws}
theorem UD {vo:AV} {v:Nat} (h:OuW t H oa vo s.o) (hs:iq s) (hv:v < 2) (hl:s.k≤9000000) (ht:t < dJ):∃ v' H' oa',evT X 55 [vo,.int .i64 (s.k:Nat),.int .i64 (v:Nat)] H = some (v',H')∧OuW t H' oa' v' (dZ s (v:Nat)).o∧H.length≤H'.length∧(∀ a,oa = some a→oa' = some a)∧(∀ a,oa = none→oa' = some a→H.length≤a)∧(∀ j,j < H.length→(∀ a,oa = some a→j ≠ a)→H'[j]? = H[j]?):=by
  have hf2:=iM (C:=X) (f:=55) (i:=2) (a:=.int .i64 (v:Nat)) (H:=H) rfl rfl (dQ 3)
  have hf1:=iM (C:=X) (f:=55) (i:=1) (a:=.int .i64 (s.k:Nat)) (H:=H) rfl rfl hf2
  cases oa with
  | some a =>
    obtain ⟨g,τ,ob,hτ,rfl,ho,hw⟩:=h
    have hw4:RwT (.pb s.o) 0 4 { ob with g:=0,tg:=4 }:=⟨hw.p,rfl,hw.row,hw.ids,rfl⟩
    obtain ⟨g1,ob1,R,w1,code,hc,hr⟩:=PU (m:=1) (v:=v) hw4 hs hv hl
    have hE:=Ev1.rwB (C:=X) (f:=55) (H:=H) (o:=a) (off:=0) (len:=s.o.length) (g:=g) (ob:=ob) (ob1:=ob1) (xs:=[.int .i64 (s.k:Nat),.int .i64 (v:Nat)]) (ys:=[.int .i64 (s.k:Nat),.int .i64 (v:Nat)]) (n:=4) (rest:=[]) (Tv:=R) (off1:=0) (n1:=(dZ s (v:Nat)).o.length) (g1:=g1)
      (bJ X) Try.func55 hc rfl ho hw.g hw.ids (by rw [hw.p];rfl) hf1 rfl rfl rfl (by simp [dJ]) (by rw [Tz];exact hr) (.inr rfl) rfl rfl w1.g w1.ids (by rw [w1.p];rfl) (.inr w1.tg) rfl rfl rfl
    refine ⟨_,_,some a,eH hE,⟨_,bk 4 ob.tg ob1.tg,_,?_,rfl,setAt ho,⟨w1.p,rfl,w1.row,w1.ids,rfl⟩⟩,by simp [AM.upd],fun a' h=>h,fun a' h=>(by cases h),fun j hj hja=>by unfold AM.upd;rw [List.getElem?_set_ne (Ne.symm (hja a rfl))]⟩
    rw [w1.tg]
    unfold bk
    rw [if_pos rfl,hw.tg]
    exact hτ
  | none =>
    obtain ⟨h1,τ,hτ,rfl⟩:=h
    have hk0:s.k = 0:=by unfold iq at hs;rw [h1] at hs;simp at hs;omega
    have hs0:s = ⟨0,[]⟩:=by
      obtain ⟨k,o⟩:=s
      simp only at h1 hk0
      rw [h1,hk0]
    have hbw:(dZ s (v:Nat)).o = [orB 0 (v:Nat) 0]:=by rw [hs0];rfl
    have hl0:aO X 55 H 0 [.ro 0 .pn τ,.int .i64 (s.k:Nat),.int .i64 (v:Nat)] = some ([.ro 0 .pn 1,.int .i64 (s.k:Nat),.int .i64 (v:Nat)],[⟨[],[τ]⟩,⟨[],[]⟩,⟨[],[]⟩]):=by
      rw [aO]
      all_goals first | (intro _ _ _ _ _ h;cases h;done) | (rw [hf1];simp [fU,eY];done) | (rw [hf1];simp [fU,eY];intro _ _ _ _ h;cases h)
    -- the code
    have hrun:∃ code,Try.f55.body = some code∧∃ ob,Rw (.pb (dZ s (v:Nat)).o) 0 ob∧Run X (evT X) 55 0 code [(0,.ro 0 (.pb []) 1),(1,.int .i64 (s.k:Nat)),(2,.int .i64 (v:Nat))] [] ⟨.ret,[(6,.sl 1 0 (dZ s (v:Nat)).o.length 0)],[some pI,some ob]⟩:=by
      refine ⟨_,rfl,?_⟩
      have hbs:=bsW [some pI] 0
      simp only [show ((0:UInt8).toNat:Int) = 0 from rfl] at hbs
      have hA:dV X [some pI] 28 (.ro 0 (.pb []) 1) (.ro 1 (.pb [0]) 0) = some (.sl 1 0 1 0,[some pI,some ⟨.pb [0],0,none,0,true,false,0⟩]):=by
        simp only [dV,uf,ug,BD]
        simp [kD,oM,aj,qO,ji,tJ,dB,aQ]
      obtain ⟨ob',w,hr⟩:=KG (m:=0) (E:=[some pI,some ⟨.pb [0],0,none,0,true,false,0⟩]) (s:=s) (v:=v) (B:=[0]) (q:=1) (g:=0) (τ:=0) (ob:=⟨.pb [0],0,none,0,true,false,0⟩) (tl:=[]) rfl ⟨rfl,rfl,rfl,rfl,rfl⟩ (by rw [hk0];simp) hv (by omega) (by rw [hk0,h1];rfl)
      refine ⟨ob',w.rw,?_⟩
      have w3:((s.k:Nat):Int) = 0:=by omega
      apply Run.seq (fr':=[(0,.ro 0 (.pb []) 1),(1,.int .i64 (s.k:Nat)),(2,.int .i64 (v:Nat))]) (H':=[some pI])
      · (refine ⟨0,?_⟩;simp (maxSteps:=2000000) -implicitDefEqProofs [-getElem?_pos,go_sem,eqV,aj,aC,Gp])
      apply Run.seq (fr':=[(0,.sl 1 0 1 0),(1,.int .i64 (s.k:Nat)),(2,.int .i64 (v:Nat))]) (H':=[some pI,some ⟨.pb [0],0,none,0,true,false,0⟩])
      · rw [w3]
        (refine ⟨0,?_⟩;simp (maxSteps:=2000000) -implicitDefEqProofs [-getElem?_pos,go_sem,eqV,aj,hbs,hA,aC])
      have hu:upd [some pI,some (⟨.pb [0],0,none,0,true,false,0⟩:AM.Obj)] 1 (some ob') = [some pI,some ob']:=rfl
      rw [hu] at hr
      exact piece hr _ rfl
    obtain ⟨code,hc,ob,w,hr⟩:=hrun
    obtain ⟨ob',q1,q2⟩:=Ev1.Fq (C:=X) (H:=H) (bJ X) (n:=(dZ s (v:Nat)).o.length) (l:=(dZ s (v:Nat)).o) (rest:=[]) Try.func55 hc hl0 rfl (by simp [dJ]) rfl rfl rfl (by
      rw [Tz]
      exact ⟨_,⟨rfl,1,0,ob,rfl,rfl,w⟩,by simpa [coerce,numbered,dB] using hr⟩)
    exact ⟨_,H ++ [some ob'],some H.length,eH q2,⟨0,0,ob',.inl rfl,rfl,List.getElem?_concat_length,q1.rwt⟩,by simp,fun a h=>(by cases h),fun a _ h=>(by cases h;exact Nat.le_refl _),fun j hj _=>List.getElem?_append_left hj⟩
end
end Go.Proofs.Yteblpjhkgdpchaa
namespace Go.Proofs.Yteblpjhkgdpchaa
open Go.AM
theorem PV (s:Ws) (x:Int):dZ s (((x % 2).toNat:Nat):Int) = dZ s x:=by
  unfold dZ orB
  have:((((x % 2).toNat:Nat):Int) % 2).toNat = (x % 2).toNat:=by omega
  rw [this]
section
variable {t:Nat} {H:AM.Heap} {o:Nat} {oa:Option Nat} {s:Ws}
def uT (x:Int) (n i:Nat):AM.Frame:=[(0,.ptr 0 0 0 0),(1,.int .i64 x),(2,.int .i64 (n:Nat)),(6,.int .i64 (i:Nat))]
def uU (x:Int) (I:Int):AM.Frame:=[(0,.ptr 0 0 0 0),(1,.int .i64 x),(6,.int .i64 I)]
theorem PW {x:Int} {E:AM.Heap} (h:WrV t E 0 oa s) (hs:iq s) (hl:s.k≤9000000) (ht:t < dJ):∃ vo τ v' E1 oa1,E[0]? = some (some (fM s vo τ))∧evT X 55 [vo,.int .i64 (s.k:Nat),.int .i64 ((x % 2).toNat:Nat)] E = some (v',E1)∧E1[0]? = some (some (fM s vo τ)) ∧
    (∃ a g,v' = .sl a 0 (dZ s x).o.length g∧a ≠ 0∧(E1[a]?).isSome)∧WrV t (AM.upd E1 0 (some (fM ⟨s.k,(dZ s x).o⟩ v' τ))) 0 oa1 ⟨s.k,(dZ s x).o⟩∧Kpw E (AM.upd E1 0 (some (fM ⟨s.k,(dZ s x).o⟩ v' τ))) 0 oa oa1:=by
  obtain ⟨⟨vo,τ,a1,h0,ho⟩,hne⟩:=id h
  have hv2:(x % 2).toNat < 2:=by omega
  obtain ⟨v',E1,oa1,q1,q2,q3,q4,q5,q6⟩:=UD (v:=(x % 2).toNat) ho hs hv2 hl ht
  rw [PV] at q2
  have hE1:E1[0]? = some (some (fM s vo τ)):=by rw [q6 0 (iF h0) (fun a ha e=>hne a ha e.symm)];exact h0
  have hne1:∀ a,oa1 = some a→a ≠ 0:=by
    intro a ha
    cases hq:oa with
    | none=>have:=q5 a hq ha;have:=iF h0;omega
    | some z=>have:=q4 z hq;rw [ha] at this;cases this;exact hne _ hq
  have hlen:(dZ s x).o ≠ []:=by
    have h1:=vG (x:=x) hs
    intro e
    unfold iq at h1
    rw [e] at h1
    have:(dZ s x).k = s.k + 1:=rfl
    simp at h1
    omega
  refine ⟨vo,τ,v',E1,oa1,h0,q1,hE1,?_,WrV.set hne1 a1 (iF hE1) q2,?_⟩
  · cases oa1 with
    | none=>exact absurd q2.1 hlen
    | some a =>
      obtain ⟨g,τ2,ob,_,rfl,h3,_⟩:=q2
      exact ⟨a,g,rfl,hne1 a rfl,by rw [h3];rfl⟩
  · refine Kpw.trans (H1:=E1) (oa1:=oa1) ⟨q3,q4,q5,fun j hj _ hja=>q6 j hj hja⟩ (Kpw.upd _)
theorem Wp {m n i:Nat} {x:Int} {E:AM.Heap} (h:WrV t E 0 oa s) (hs:iq s) (hl:s.k≤9000000) (ht:t < dJ) (hi:i≤60):∃ E' oa',WrV t E' 0 oa' (dZ s (x / 2 ^ i))∧Kpw E E' 0 oa oa'∧∃ code,((Try.f39.body).bind (aS [1,0,0,1])) = some code∧Run X (evT X) 39 m code (uT x n i ++ [(9,.bool true)]) E ⟨.normal,uT x n (i + 1),E'⟩:=by
  obtain ⟨vo,τ,v',E1,oa1,h0,hP,h1,⟨a,g,rfl,ha0,_⟩,hV,hk⟩:=PW (x:=x / 2 ^ i) h hs hl ht
  obtain ⟨⟨vo2,τ2,a2,h2,ho2⟩,hne2⟩:=id hV
  have hb:dZ s (x / 2 ^ i) = ⟨s.k + 1,(dZ s (x / 2 ^ i)).o⟩:=rfl
  have hlt:=iF h1
  have h2':(AM.upd E1 0 (some (fM ⟨s.k,(dZ s (x / 2 ^ i)).o⟩ (.sl a 0 (dZ s (x / 2 ^ i)).o.length g) τ)))[0]? = some (some (fM ⟨s.k,(dZ s (x / 2 ^ i)).o⟩ (.sl a 0 (dZ s (x / 2 ^ i)).o.length g) τ)):=setAt h1
  rw [h2'] at h2
  obtain ⟨rfl,rfl⟩:AV.sl a 0 (dZ s (x / 2 ^ i)).o.length g = vo2∧τ = τ2:=by
    simp only [fM,Option.some.injEq,AM.Obj.mk.injEq,AV.pc.injEq,List.cons.injEq] at h2
    exact ⟨h2.1.1,h2.2.2.2.2.2.2⟩
  refine ⟨AM.upd (AM.upd E1 0 (some (fM ⟨s.k,(dZ s (x / 2 ^ i)).o⟩ (.sl a 0 (dZ s (x / 2 ^ i)).o.length g) τ))) 0 (some (fM ⟨s.k + 1,(dZ s (x / 2 ^ i)).o⟩ (.sl a 0 (dZ s (x / 2 ^ i)).o.length g) τ)),oa1,by rw [hb];exact WrV.set hne2 a2 (iF h2') ho2,hk.trans (Kpw.upd _),_,rfl,?_⟩
  have w1:IntKind.i64.wrap ((i:Int) + 1) = ((i + 1:Nat):Int):=by rw [wrap_i64 (by omega) (by omega)];omega
  have w3:IntKind.i64.wrap ((s.k:Int) + 1) = ((s.k + 1:Nat):Int):=by rw [wrap_i64 (by omega) (by omega)];omega
  have w4:IntKind.u64.wrap (i:Int) = (i:Int):=wrap_u64 (by omega) (by omega)
  have hi0:¬ (i:Int) < 0:=by omega
  have w2:=Gn (x:=x) hi
  have w5:=PN (x / 2 ^ i)
  simp only [fM] at h0 h1 h2' hP ⊢
  generalize ((x / 2 ^ i) % 2).toNat = v at *
  generalize (dZ s (x / 2 ^ i)).o.length = N at *
  generalize hy:x / 2 ^ i = y at *
  simp only [go_sem] at w5
  generalize s.k + 1 = k1 at *
  generalize i + 1 = i1 at *
  have hu:AM.upd E1 0 (some (⟨.pc [.sl a 0 N g,.int .i64 (s.k:Nat)],0,some 2,1,false,true,τ⟩:AM.Obj)) = E1.set 0 (some ⟨.pc [.sl a 0 N g,.int .i64 (s.k:Nat)],0,some 2,1,false,true,τ⟩):=rfl
  rw [hu] at h2' ⊢
  apply Run.seq (fr':=uT x n i) (H':=(E1.set 0 (some ⟨.pc [.sl a 0 N g,.int .i64 (s.k:Nat)],0,some 2,1,false,true,τ⟩)).set 0 (some ⟨.pc [.sl a 0 N g,.int .i64 (k1:Nat)],0,some 2,1,false,true,τ⟩))
  · refine Run.block ?_ (by simp)
    apply Run.seq (fr':=uT x n i) (H':=E1.set 0 (some ⟨.pc [.sl a 0 N g,.int .i64 (s.k:Nat)],0,some 2,1,false,true,τ⟩))
    · simp only [uT]
      (refine ⟨0,?_⟩;simp (maxSteps:=2000000) -implicitDefEqProofs [-getElem?_pos,go_sem,eqV,aj,h0,h1,w4,hi0,w2,w5,hP])
    · simp only [uT]
      generalize E1.set 0 (some (⟨.pc [.sl a 0 N g,.int .i64 (s.k:Nat)],0,some 2,1,false,true,τ⟩:AM.Obj)) = E2 at *
      (refine ⟨0,?_⟩;simp (maxSteps:=2000000) -implicitDefEqProofs [-getElem?_pos,go_sem,eqV,aj,h2',w3])
  · simp only [uT]
    (refine ⟨0,?_⟩;simp (maxSteps:=2000000) -implicitDefEqProofs [-getElem?_pos,go_sem,eqV,aj,w1])
theorem Wq {m i:Nat} {x:Int} {E:AM.Heap} (h:WrV t E 0 oa s) (hs:iq s) (hl:s.k≤9000000) (ht:t < dJ) (hi:i≤60):∃ E' oa',WrV t E' 0 oa' (dZ s (x / 2 ^ i))∧Kpw E E' 0 oa oa'∧∃ code,((Try.f40.body).bind (aS [1,0,0,1])) = some code∧Run X (evT X) 40 m code (uU x (i:Nat) ++ [(10,.bool true)]) E ⟨.normal,uU x ((i:Int) - 1),E'⟩:=by
  obtain ⟨vo,τ,v',E1,oa1,h0,hP,h1,⟨a,g,rfl,ha0,_⟩,hV,hk⟩:=PW (x:=x / 2 ^ i) h hs hl ht
  obtain ⟨⟨vo2,τ2,a2,h2,ho2⟩,hne2⟩:=id hV
  have hb:dZ s (x / 2 ^ i) = ⟨s.k + 1,(dZ s (x / 2 ^ i)).o⟩:=rfl
  have hlt:=iF h1
  have h2':(AM.upd E1 0 (some (fM ⟨s.k,(dZ s (x / 2 ^ i)).o⟩ (.sl a 0 (dZ s (x / 2 ^ i)).o.length g) τ)))[0]? = some (some (fM ⟨s.k,(dZ s (x / 2 ^ i)).o⟩ (.sl a 0 (dZ s (x / 2 ^ i)).o.length g) τ)):=setAt h1
  rw [h2'] at h2
  obtain ⟨rfl,rfl⟩:AV.sl a 0 (dZ s (x / 2 ^ i)).o.length g = vo2∧τ = τ2:=by
    simp only [fM,Option.some.injEq,AM.Obj.mk.injEq,AV.pc.injEq,List.cons.injEq] at h2
    exact ⟨h2.1.1,h2.2.2.2.2.2.2⟩
  refine ⟨AM.upd (AM.upd E1 0 (some (fM ⟨s.k,(dZ s (x / 2 ^ i)).o⟩ (.sl a 0 (dZ s (x / 2 ^ i)).o.length g) τ))) 0 (some (fM ⟨s.k + 1,(dZ s (x / 2 ^ i)).o⟩ (.sl a 0 (dZ s (x / 2 ^ i)).o.length g) τ)),oa1,by rw [hb];exact WrV.set hne2 a2 (iF h2') ho2,hk.trans (Kpw.upd _),_,rfl,?_⟩
  have w1:IntKind.i64.wrap ((i:Int) - 1) = (i:Int) - 1:=by rw [wrap_i64 (by omega) (by omega)]
  have w3:IntKind.i64.wrap ((s.k:Int) + 1) = ((s.k + 1:Nat):Int):=by rw [wrap_i64 (by omega) (by omega)];omega
  have w4:IntKind.u64.wrap (i:Int) = (i:Int):=wrap_u64 (by omega) (by omega)
  have hi0:¬ (i:Int) < 0:=by omega
  have w2:=Gn (x:=x) hi
  have w5:=PN (x / 2 ^ i)
  simp only [fM] at h0 h1 h2' hP ⊢
  generalize ((x / 2 ^ i) % 2).toNat = v at *
  generalize (dZ s (x / 2 ^ i)).o.length = N at *
  generalize hy:x / 2 ^ i = y at *
  simp only [go_sem] at w5
  generalize s.k + 1 = k1 at *
  have hu:AM.upd E1 0 (some (⟨.pc [.sl a 0 N g,.int .i64 (s.k:Nat)],0,some 2,1,false,true,τ⟩:AM.Obj)) = E1.set 0 (some ⟨.pc [.sl a 0 N g,.int .i64 (s.k:Nat)],0,some 2,1,false,true,τ⟩):=rfl
  rw [hu] at h2' ⊢
  apply Run.seq (fr':=uU x (i:Nat)) (H':=(E1.set 0 (some ⟨.pc [.sl a 0 N g,.int .i64 (s.k:Nat)],0,some 2,1,false,true,τ⟩)).set 0 (some ⟨.pc [.sl a 0 N g,.int .i64 (k1:Nat)],0,some 2,1,false,true,τ⟩))
  · refine Run.block ?_ (by simp)
    apply Run.seq (fr':=uU x (i:Nat)) (H':=E1.set 0 (some ⟨.pc [.sl a 0 N g,.int .i64 (s.k:Nat)],0,some 2,1,false,true,τ⟩))
    · simp only [uU]
      (refine ⟨0,?_⟩;simp (maxSteps:=2000000) -implicitDefEqProofs [-getElem?_pos,go_sem,eqV,aj,h0,h1,w4,hi0,w2,w5,hP])
    · simp only [uU]
      generalize E1.set 0 (some (⟨.pc [.sl a 0 N g,.int .i64 (s.k:Nat)],0,some 2,1,false,true,τ⟩:AM.Obj)) = E2 at *
      (refine ⟨0,?_⟩;simp (maxSteps:=2000000) -implicitDefEqProofs [-getElem?_pos,go_sem,eqV,aj,h2',w3])
  · simp only [uU]
    (refine ⟨0,?_⟩;simp (maxSteps:=2000000) -implicitDefEqProofs [-getElem?_pos,go_sem,eqV,aj,w1])
theorem Jf {m n:Nat} {x:Int} {E:AM.Heap} (h:WrV t E 0 oa s) (hs:iq s) (hl:s.k≤8000000) (ht:t < dJ) (hn:n≤60):∃ code,Try.f39.body = some code ∧
    au (qQ fun fr E'=>∃ oa',WrV t E' 0 oa' (cu s x n)∧Kpw E E' 0 oa oa') X (evT X) 39 m code [(0,.ptr 0 0 0 0),(1,.int .i64 x),(2,.int .i64 (n:Nat))] E:=by
  refine ⟨_,rfl,?_⟩
  apply au.seq (fr':=uT x n 0) (H':=E)
  · simp only [uT]
    (refine ⟨0,?_⟩;simp (maxSteps:=2000000) -implicitDefEqProofs [-getElem?_pos,go_sem,eqV,aj])
  refine au.mono (Q:=Goes fun fr E'=>∃ oa',WrV t E' 0 oa' (cu s x n)∧Kpw E E' 0 oa oa') ?_ fun o ho=>⟨.inl ho.1,ho.2⟩
  apply au.block
  refine au.lJ (I:=fun q fr E'=>∃ i oa',i≤n∧q = n - i∧fr = uT x n i∧WrV t E' 0 oa' (cu s x i)∧Kpw E E' 0 oa oa') ?_ (k:=n) ⟨0,oa,by omega,rfl,rfl,h,Kpw.refl E 0 oa⟩
  rintro q fr E' ⟨i,oa',hi,rfl,rfl,hV,hk⟩
  by_cases hin:i = n
  · subst hin
    refine au.of (o:=⟨.exit 0,uT x i i ++ [(9,.bool false)],E'⟩) ?_ (.inr ⟨by simp,rfl,oa',hV,hk⟩)
    refine ⟨0,?_⟩
    simp only [uT]
    simp (maxSteps:=2000000) -implicitDefEqProofs [-getElem?_pos,go_sem,eqV,aj]
  · have hlt:i < n:=by omega
    have jB:(i:Int) < (n:Int):=by omega
    obtain ⟨f1,f2⟩:=bT (x:=x) hs i
    obtain ⟨E2,oa2,h1,h2,hr⟩:=Wp (m:=m) (n:=n) (i:=i) (x:=x) hV f1 (by omega) ht (by omega)
    refine au.of (o:=⟨.normal,uT x n (i + 1),E2⟩) ?_ (.inl ⟨rfl,n - (i + 1),by omega,i + 1,oa2,by omega,rfl,rfl,h1,hk.trans h2⟩)
    apply Run.seq (fr':=uT x n i ++ [(9,.bool true)]) (H':=E')
    · apply Run.seq (fr':=uT x n i ++ [(9,.bool true)]) (H':=E')
      · simp only [uT]
        (refine ⟨0,?_⟩;simp (maxSteps:=2000000) -implicitDefEqProofs [-getElem?_pos,go_sem,eqV,aj,jB,hlt])
      · exact Run.cond (d:=true) (by simp [uT,aK,aI]) ⟨0,rfl⟩
    exact piece hr _ rfl
theorem KH {m n:Nat} {x:Int} {E:AM.Heap} (h:WrV t E 0 oa s) (hs:iq s) (hl:s.k≤8000000) (ht:t < dJ) (hn:n≤60):∃ code,Try.f40.body = some code ∧
    au (qQ fun fr E'=>∃ oa',WrV t E' 0 oa' (oP s x n)∧Kpw E E' 0 oa oa') X (evT X) 40 m code [(0,.ptr 0 0 0 0),(1,.int .i64 x),(2,.int .i64 (n:Nat))] E:=by
  refine ⟨_,rfl,?_⟩
  apply au.seq (fr':=uU x ((n:Int) - 1)) (H':=E)
  · have w1:IntKind.i64.wrap ((n:Int) - 1) = (n:Int) - 1:=by rw [wrap_i64 (by omega) (by omega)]
    simp only [uU]
    (refine ⟨0,?_⟩;simp (maxSteps:=2000000) -implicitDefEqProofs [-getElem?_pos,go_sem,eqV,aj,w1,aC])
  refine au.mono (Q:=Goes fun fr E'=>∃ oa',WrV t E' 0 oa' (oP s x n)∧Kpw E E' 0 oa oa') ?_ fun o ho=>⟨.inl ho.1,ho.2⟩
  apply au.block
  refine au.lJ (I:=fun q fr E'=>∃ oa' s',q≤n∧s'.k + q = s.k + n∧iq s'∧fr = uU x ((q:Int) - 1)∧WrV t E' 0 oa' s'∧Kpw E E' 0 oa oa'∧oP s' x q = oP s x n) ?_ (k:=n) ⟨oa,s,by omega,rfl,hs,rfl,h,Kpw.refl E 0 oa,rfl⟩
  rintro q fr E' ⟨oa',s',hq,hkk,hs',rfl,hV,hk,hc⟩
  cases q with
  | zero =>
    refine au.of (o:=⟨.exit 0,uU x (((0:Nat):Int) - 1) ++ [(10,.bool false)],E'⟩) ?_ (.inr ⟨by simp,rfl,oa',by rw [← hc];exact hV,hk⟩)
    have e1:(((0:Nat):Int) - 1) = -1:=rfl
    rw [e1]
    refine ⟨0,?_⟩
    simp only [uU]
    simp (maxSteps:=2000000) -implicitDefEqProofs [-getElem?_pos,go_sem,eqV,aj]
  | succ q =>
    have e1:(((q + 1:Nat):Int) - 1) = (q:Nat):=by omega
    rw [e1]
    obtain ⟨E2,oa2,g1,g2,hr⟩:=Wq (m:=m) (i:=q) (x:=x) hV hs' (by omega) ht (by omega)
    refine au.of (o:=⟨.normal,uU x ((q:Int) - 1),E2⟩) ?_ (.inl ⟨rfl,q,by omega,oa2,dZ s' (x / 2 ^ q),by omega,by simp only [dZ];omega,vG hs',rfl,g1,hk.trans g2,hc⟩)
    have hq1:(0:Int)≤(q:Int):=by omega
    apply Run.seq (fr':=uU x (q:Nat) ++ [(10,.bool true)]) (H':=E')
    · apply Run.seq (fr':=uU x (q:Nat) ++ [(10,.bool true)]) (H':=E')
      · simp only [uU]
        (refine ⟨0,?_⟩;simp (maxSteps:=2000000) -implicitDefEqProofs [-getElem?_pos,go_sem,eqV,aj,hq1])
      · exact Run.cond (d:=true) (by simp [uU,aK,aI]) ⟨0,rfl⟩
    exact piece hr _ rfl
theorem vW {x I:Int} {n:Nat} (hI:I = (n:Nat)) (h:WrV t H o oa s) (hs:iq s) (hl:s.k≤8000000) (hn:n≤60):∃ H' oa',evT X 39 [.ptr o 0 0 0,.int .i64 x,.int .i64 I] H = some (.tup [],H')∧WrV t H' o oa' (cu s x n)∧Kpw H H' o oa oa':=by
  subst hI
  obtain ⟨code,hc⟩:∃ code,Try.f39.body = some code:=⟨_,rfl⟩
  exact Bl (n:=4) (xs:=[.int .i64 x,.int .i64 (n:Nat)]) (ys:=[.int .i64 x,.int .i64 (n:Nat)]) Try.func39 hc rfl h (fun π K _=>kE.flat rfl rfl (kE.flat rfl rfl kE.nil)) rfl rfl (by simp [dJ]) rfl fun m E oa1 hE=>by
    obtain ⟨wO,hc2,ht⟩:=Jf (m:=m) (x:=x) hE hs hl (by simp [dJ]) hn
    rw [Wu]
    exact ⟨wO,hc2,ht⟩
theorem yU {x I:Int} {n:Nat} (hI:I = (n:Nat)) (h:WrV t H o oa s) (hs:iq s) (hl:s.k≤8000000) (hn:n≤60):∃ H' oa',evT X 40 [.ptr o 0 0 0,.int .i64 x,.int .i64 I] H = some (.tup [],H')∧WrV t H' o oa' (oP s x n)∧Kpw H H' o oa oa':=by
  subst hI
  obtain ⟨code,hc⟩:∃ code,Try.f40.body = some code:=⟨_,rfl⟩
  exact Bl (n:=4) (xs:=[.int .i64 x,.int .i64 (n:Nat)]) (ys:=[.int .i64 x,.int .i64 (n:Nat)]) Try.func40 hc rfl h (fun π K _=>kE.flat rfl rfl (kE.flat rfl rfl kE.nil)) rfl rfl (by simp [dJ]) rfl fun m E oa1 hE=>by
    obtain ⟨wO,hc2,ht⟩:=KH (m:=m) (x:=x) hE hs hl (by simp [dJ]) hn
    rw [Wv]
    exact ⟨wO,hc2,ht⟩
end
end Go.Proofs.Yteblpjhkgdpchaa
namespace Go.Proofs.Yteblpjhkgdpchaa
open Go.AM
def bP (b:List UInt8) (i k:Nat):Nat→Nat→Nat
 | 0,n=>n
 | f + 1,n=>if n < 258∧k + n < b.length∧b[i + n]? = b[k + n]? then bP b i k f (n + 1) else n
section
variable {c:Nat} {b:List UInt8}
def zT (c:Nat) (b:List UInt8) (i k n:Nat):AM.Frame:=[(0,.ro c (.pb b) 1),(1,.int .i64 (i:Nat)),(2,.int .i64 (k:Nat)),(7,.int .i64 (n:Nat))]
theorem Wx {m i k n:Nat} {E:AM.Heap} (hi:i < k) (hn:n≤258) (hb:b.length≤100000) (hk:k≤100000):∃ code,((Try.f24.body).bind (aS [1,1,0,0,0,0,0])) = some code∧Run X (evT X) 24 m code (zT c b i k n) E ⟨.normal,zT c b i k n ++ [(32,.bool (decide (n < 258∧k + n < b.length∧b[i + n]? = b[k + n]?)))],E⟩:=by
 refine ⟨_,rfl,?_⟩
 simp only [zT]
 by_cases h1:n < 258
 ·have h1I:(n:Int) < 258:=by omega
  have w1:IntKind.i64.wrap ((k:Int) + (n:Int)) = ((k + n:Nat):Int):=by rw [wrap_i64 (by omega) (by omega)];omega
  have w2:IntKind.i64.wrap ((i:Int) + (n:Int)) = ((i + n:Nat):Int):=by rw [wrap_i64 (by omega) (by omega)];omega
  by_cases h2:k + n < b.length
  ·have h2I:((k + n:Nat):Int) < (b.length:Int):=by omega
   have h3I:((i + n:Nat):Int) < (b.length:Int):=by omega
   have h3:i + n < b.length:=by omega
   obtain ⟨x,hx⟩:∃ x,b[i + n]? = some x:=⟨_,List.getElem?_eq_getElem h3⟩
   obtain ⟨y,hy⟩:∃ y,b[k + n]? = some y:=⟨_,List.getElem?_eq_getElem h2⟩
   rw [hx,hy]
   by_cases hxy:x = y
   ·subst hxy
    rw [show decide (n < 258∧k + n < b.length∧some x = some x) = true by simp [h1,h2]]
    generalize k + n = kn at *
    generalize i + n = n2 at *
    (refine ⟨0,?_⟩;simp (maxSteps:=2000000) -implicitDefEqProofs [-getElem?_pos,go_sem,eqV,aj,h1,h1I,w1,w2,h2,h2I,h3,h3I,hx,hy])
   ·rw [show decide (n < 258∧k + n < b.length∧some x = some y) = false by simp [hxy]]
    have hxI:¬ (x.toNat:Int) = (y.toNat:Int):=fun h=>hxy (UInt8.toNat_inj.1 (by omega))
    have hxN:¬ x.toNat = y.toNat:=fun h=>hxy (UInt8.toNat_inj.1 h)
    generalize k + n = kn at *
    generalize i + n = n2 at *
    (refine ⟨0,?_⟩;simp (maxSteps:=2000000) -implicitDefEqProofs [-getElem?_pos,go_sem,eqV,aj,h1,h1I,w1,w2,h2,h2I,h3,h3I,hx,hy,hxI,hxN])
  ·have h2I:¬ ((k + n:Nat):Int) < (b.length:Int):=by omega
   rw [show decide (n < 258∧k + n < b.length∧b[i + n]? = b[k + n]?) = false by simp [h2]]
   generalize k + n = kn at *
   (refine ⟨0,?_⟩;simp (maxSteps:=2000000) -implicitDefEqProofs [-getElem?_pos,go_sem,eqV,aj,h1,h1I,w1,w2,h2,h2I])
 ·have h1I:¬ (n:Int) < 258:=by omega
  rw [show decide (n < 258∧k + n < b.length∧b[i + n]? = b[k + n]?) = false by simp [h1]]
  (refine ⟨0,?_⟩;simp (maxSteps:=2000000) -implicitDefEqProofs [-getElem?_pos,go_sem,eqV,aj,h1,h1I])
theorem Dc {i k n:Nat} (h:n < 258∧k + n < b.length∧b[i + n]? = b[k + n]?):bP b i k (258 - n) n = bP b i k (258 - (n + 1)) (n + 1):=by
 obtain ⟨f,hf⟩:∃ f,258 - n = f + 1:=⟨258 - (n + 1),by omega⟩
 rw [hf,bP,if_pos h,show 258 - (n + 1) = f by omega]
theorem ES {i k n:Nat} (h:¬ (n < 258∧k + n < b.length∧b[i + n]? = b[k + n]?)):∀ f,bP b i k f n = n
 | 0=>rfl
 | f + 1=>by rw [bP,if_neg h]
theorem N9 {m i k:Nat} {E:AM.Heap} (hi:i < k) (hb:b.length≤100000) (hk:k≤100000):∃ code,Try.f24.body = some code ∧
  Run X (evT X) 24 m code [(0,.ro c (.pb b) 1),(1,.int .i64 (i:Nat)),(2,.int .i64 (k:Nat))] E ⟨.ret,[(6,.int .i64 (bP b i k 258 0:Nat))],E⟩:=by
 refine ⟨_,rfl,?_⟩
 suffices hT:au (fun o=>o = ⟨.ret,[(6,.int .i64 (bP b i k 258 0:Nat))],E⟩) X (evT X) 24 m _ [(0,.ro c (.pb b) 1),(1,.int .i64 (i:Nat)),(2,.int .i64 (k:Nat))] E by
  obtain ⟨o,rfl,hr⟩:=hT
  exact hr
 apply au.seq (fr':=[(0,.ro c (.pb b) 1),(1,.int .i64 (i:Nat)),(2,.int .i64 (k:Nat))]) (H':=E)
 ·(refine ⟨0,?_⟩;simp (maxSteps:=2000000) -implicitDefEqProofs [-getElem?_pos,go_sem,eqV,aj])
 apply au.seq (fr':=zT c b i k 0) (H':=E)
 ·simp only [zT]
  (refine ⟨0,?_⟩;simp (maxSteps:=2000000) -implicitDefEqProofs [-getElem?_pos,go_sem,eqV,aj,aC])
 apply au.andThen (P:=fun fr H=>fr = zT c b i k (bP b i k 258 0) ++ [(32,.bool false)]∧H = E)
 ·apply au.block
  refine au.loop (σ:=Nat) (fun n=>n≤258∧bP b i k (258 - n) n = bP b i k 258 0) (fun n=>zT c b i k n) (fun _=>E) (fun n=>258 - n) ?_ 0 ⟨by omega,rfl⟩
  rintro n ⟨hn,he⟩
  have h2:=Wx (m:=m) (c:=c) (E:=E) hi hn hb hk
  by_cases hc:n < 258∧k + n < b.length∧b[i + n]? = b[k + n]?
  ·left
   refine ⟨n + 1,⟨by omega,by rw [← Dc hc];exact he⟩,?_,by omega⟩
   rw [decide_eq_true hc] at h2
   apply Run.seq (fr':=zT c b i k n ++ [(32,.bool true)]) (H':=E)
   ·apply Run.seq (piece h2 _ rfl)
    refine Run.cond (d:=true) (by simp [zT,aK,aI]) ⟨0,rfl⟩
   ·apply Run.block
    ·have w1:IntKind.i64.wrap ((n:Int) + 1) = ((n + 1:Nat):Int):=by rw [wrap_i64 (by omega) (by omega)];omega
     simp only [zT]
     (refine ⟨0,?_⟩;simp (maxSteps:=2000000) -implicitDefEqProofs [-getElem?_pos,go_sem,eqV,aj,w1,aC])
    ·simp
  ·right
   rw [decide_eq_false hc] at h2
   refine ⟨⟨.exit 0,zT c b i k n ++ [(32,.bool false)],E⟩,⟨rfl,by rw [← he,ES hc],rfl⟩,by simp,?_⟩
   refine Run.bH ?_ (by simp)
   apply Run.seq (piece h2 _ rfl)
   refine Run.cond (d:=false) (by simp [zT,aK,aI]) ⟨0,rfl⟩
 rintro fr H ⟨rfl,rfl⟩
 generalize bP b i k 258 0 = n at *
 refine au.of (o:=⟨.ret,[(6,.int .i64 (n:Nat))],H⟩) ?_ rfl
 refine ⟨0,?_⟩
 simp only [zT]
 simp (maxSteps:=2000000) -implicitDefEqProofs [-getElem?_pos,go_sem,eqV,aj,aC]
theorem RS {H:AM.Heap} {a:AV} {i k:Nat} (ha:iD H a = some (.pb b)) (hi:i < k) (hb:b.length≤100000) (hk:k≤100000):evT X 24 [a,.int .i64 (i:Nat),.int .i64 (k:Nat)] H = some (.int .i64 (bP b i k 258 0:Nat),H):=by
 have h3:=iM (C:=X) (f:=24) (i:=2) (a:=.int .i64 (k:Nat)) (H:=H) rfl rfl (dQ 3)
 have h2:=iM (C:=X) (f:=24) (i:=1) (a:=.int .i64 (i:Nat)) (H:=H) rfl rfl h3
 obtain ⟨c,x,hx⟩:=fJ (C:=X) (f:=24) (i:=0) rfl ha h2
 obtain ⟨code,hc,hr⟩:=N9 (m:=0) (c:=c) (b:=b) (E:=[]) hi hb hk
 refine eH (Ev1.pR (l:=[.int .i64 (bP b i k 258 0:Nat)]) (bJ X) Try.func24 hc hx rfl (by simp [dJ]) rfl rfl rfl ?_)
 rw [Wy]
 exact ⟨_,⟨rfl,rfl⟩,hr⟩
end
end Go.Proofs.Yteblpjhkgdpchaa
