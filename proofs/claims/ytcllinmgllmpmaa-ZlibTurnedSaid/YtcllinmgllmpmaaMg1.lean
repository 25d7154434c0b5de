/- E1 to DD: texts of this claim, one behind the other; what each shows stands at its head. -/
import Derived.Test.YtcllinmgllmpmaaAm3
import Derived.Test.YtcllinmgllmpmaaMg0
set_option linter.unusedSimpArgs false
set_option linter.unusedVariables false
set_option maxRecDepth 100000
set_option maxHeartbeats 8000000
namespace Go.Proofs.Ytcllinmgllmpmaa
open Go.AM
structure Ws where
 k:Nat
 o:List UInt8
def jv (s:Ws) (vo:AV) (τ:Nat):AM.Obj:=⟨.pc [vo,.int .i64 (s.k:Nat)],0,some 2,1,false,true,τ⟩
def OuW (t:Nat) (H:AM.Heap) (oa:Option Nat) (vo:AV) (l:List UInt8):Prop:=match oa with
 | none=>l = []∧∃ τ,(τ = 0∨τ = t)∧vo = .ro 0 .pn τ
 | some a=>∃ g τ ob,(τ = 0∨τ = t)∧vo = .sl a 0 l.length g∧H[a]? = some (some ob)∧RwT (.pb l) g τ ob
structure WrV (t:Nat) (H:AM.Heap) (o:Nat) (oa:Option Nat) (s:Ws):Prop where
 bx:∃ vo τ,(τ = 0∨τ = t)∧H[o]? = some (some (jv s vo τ))∧OuW t H oa vo s.o
 ne:∀ a,oa = some a→a ≠ o
def wrS (s:Ws):Bool→List AM.Obj
 | false=>[jv s (.ro 0 .pn 0) 0]
 | true=>[jv s (.sl 1 0 s.o.length 0) 0,⟨.pb s.o,0,none,0,true,false,0⟩]
section
variable {t:Nat} {H:AM.Heap} {o:Nat} {oa:Option Nat} {s:Ws}
theorem Wp (s:Ws) (r:Bool):OkS (wrS s r):=by
 intro k ob0 hk x hx
 cases r
 ·cases k with
  | zero =>
   obtain rfl:=Option.some.inj hk
   simp [jv,ids,aA] at hx
  | succ k=>simp [wrS] at hk
 ·match k,hk with
  | 0,hk =>
   obtain rfl:=Option.some.inj hk
   simp [jv,ids,aA] at hx
   subst hx
   simp [wrS]
  | 1,hk =>
   obtain rfl:=Option.some.inj hk
   simp [ids] at hx
  | k + 2,hk=>simp [wrS] at hk
theorem oQ (s:Ws) (r:Bool):(wrS s r).length = if r then 2 else 1:=by cases r <;> rfl
theorem Iz (s:Ws) (r:Bool):reach ((wrS s r).map some) aB [0] [] = List.range (wrS s r).length:=by
 cases r
 ·exact qB rfl (by simp [jv,ids,aA])
 ·show reach _ (99996 + 1 + 1 + 1 + 1) [0] [] = [0,1]
  simp [wrS,jv,reach,ids,aA]
theorem WrV.img (h:WrV t H o oa s):∃ π,Img t H π (wrS s oa.isSome)∧π.map Prod.fst = o :: oa.toList∧π[0]? = some (o,0):=by
 obtain ⟨⟨vo,τ,hτ,h0,ho⟩,hne⟩:=h
 cases oa with
 | none =>
  obtain ⟨hl,τ2,hτ2,rfl⟩:=ho
  refine ⟨[(o,0)],⟨rfl,?_,?_⟩,rfl,rfl⟩
  ·intro j k oj gj ok gk h1 h2 _
   have:=eY h1;have:=eY h2
   simp at *;omega
  ·intro k ob0 hk
   cases k with
   | succ k=>simp [wrS] at hk
   | zero =>
    obtain rfl:=Option.some.inj hk
    refine ⟨o,0,_,rfl,h0,⟨?_,rfl,rfl,rfl,fun _=>⟨rfl,rfl,rfl⟩,hτ,?_⟩⟩
    ·simp [jv,ren,bn,tz]
    ·intro k hk
     simp [jv,tags,aU] at hk
     rw [hk]
     exact hτ2
 | some a =>
  obtain ⟨g,τ2,ob,hτ2,rfl,ha,hw⟩:=ho
  have hao:=hne a rfl
  refine ⟨[(o,0),(a,g)],⟨rfl,?_,?_⟩,rfl,rfl⟩
  ·intro j k oj gj ok gk h1 h2 e
   match j,k,h1,h2 with
   | 0,0,_,_=>rfl
   | 1,1,_,_=>rfl
   | 0,1,h1,h2=>simp at h1 h2;omega
   | 1,0,h1,h2=>simp at h1 h2;omega
   | j + 2,_,h1,_=>simp at h1
   | 0,k + 2,_,h2=>simp at h2
   | 1,k + 2,_,h2=>simp at h2
  ·intro k ob0 hk
   match k,hk with
   | 0,hk =>
    obtain rfl:=Option.some.inj hk
    refine ⟨o,0,_,rfl,h0,⟨?_,rfl,rfl,rfl,fun _=>⟨rfl,rfl,rfl⟩,hτ,?_⟩⟩
    ·simp [jv,ren,bn,tz,eP,idN]
    ·intro k hk
     simp [jv,tags,aU] at hk
   | 1,hk =>
    obtain rfl:=Option.some.inj hk
    refine ⟨a,g,ob,rfl,ha,⟨by rw [hw.p];rfl,hw.g,hw.row,hw.ids,(fun h=>by cases h),by rw [hw.tg];exact hτ2,?_⟩⟩
    intro k hk
    rw [hw.p] at hk
    simp [tags] at hk
   | k + 2,hk=>simp [wrS] at hk
theorem WrV.nS {π:List (Nat × Nat)} {r:Bool} (h:Img t H π (wrS s r)) (h0:π[0]? = some (o,0)) (hr:r = false→s.o = []):∃ oa,WrV t H o oa s∧π.map Prod.fst = o :: oa.toList∧oa.isSome = r∧(∀ a,oa = some a→∃ g,π[1]? = some (a,g)):=by
 obtain ⟨o',g',ob,q1,q2,q3⟩:=h.ob 0 _ (by cases r <;> rfl:(wrS s r)[0]? = some (jv s (if r then .sl 1 0 s.o.length 0 else .ro 0 .pn 0) 0))
 rw [h0] at q1
 simp only [Option.some.injEq,Prod.mk.injEq] at q1
 obtain ⟨rfl,rfl⟩:=q1
 obtain ⟨b1,b2,_⟩:=q3.bx rfl
 obtain ⟨p,g,cap,z,row,idb,tg⟩:=ob
 have r2:=q3.gen;have r3:=q3.row;have r4:=q3.ids;have r5:=q3.tg;have r6:=q3.tp;have r1:=q3.p
 simp only [jv] at r1 r2 r3 r4 r5 r6 b1 b2
 subst r2 r3 r4 b1 b2
 simp only [ren,bn] at r1
 obtain ⟨l1,rfl,k1⟩:=yL r1
 obtain ⟨x3,l2,rfl,e3,k2⟩:=fZ k1
 obtain ⟨x2,l3,rfl,e2,k3⟩:=fZ k2
 obtain rfl:=ql k3
 obtain rfl:=rU e2
 cases r with
 | false =>
  simp only [Bool.false_eq_true,if_false,ren] at e3
  obtain ⟨τ2,rfl⟩:=yM e3
  have hτ2:τ2 = 0∨τ2 = t:=r6 τ2 (by simp [tags,aU])
  have hl:=h.len
  refine ⟨none,⟨⟨_,tg,r5,q2,hr rfl,τ2,hτ2,rfl⟩,fun a h=>by cases h⟩,?_,rfl,fun a h=>by cases h⟩
  match π,hl,h0 with
  | [x],_,h0=>simp at h0;subst h0;rfl
 | true =>
  obtain ⟨a,g,ob,p1,p2,p3⟩:=h.ob 1 _ rfl
  simp only [if_true,ren,eP,p1] at e3
  obtain rfl:=Ez e3
  have hl:=h.len
  have hne:a ≠ o:=fun e=>by have:=h.nd 1 0 a g o 0 p1 h0 e;omega
  have ep:=p3.p
  simp only [ren] at ep
  refine ⟨some a,⟨⟨_,tg,r5,q2,g,ob.tg,ob,p3.tg,rfl,p2,JF ep,p3.gen,p3.row,p3.ids,rfl⟩,fun a' h=>by cases h;exact hne⟩,?_,rfl,fun a' h=>by cases h;exact ⟨g,p1⟩⟩
  match π,hl,h0,p1 with
  | [x,y],_,h0,p1=>simp at h0 p1;subst h0 p1;rfl
theorem NH {f n:Nat} {fn:Func} {code:Code} {xs ys:List AV} {Q:Ws→List AV→Bool→Prop} (hF:X.P.funcs[f]? = some fn) (hb:fn.body = some code) (hrw:X.rw f 0 = false) (h:WrV t H o oa s)
  (hA:∀ π K,π.map Prod.fst = o :: oa.toList→fK X f H π K 1 xs ys) (hi:aA ys = []) (hn:xs.length + 2 = n) (hng:n < dG)
  (run:∀ m E,WrV n E 0 (oa.map fun _=>1) s→aj (kE fun fr E'=>∃ s' oa' l,aP X fr E' fn.results.toList = some l∧aA l = []∧aU l = []∧eU l = true∧WrV n E' 0 oa' s'∧(oa ≠ none→oa' = some 1)∧Q s' l oa'.isSome)
   X (evT X) f m code (numbered 0 (coerce X (.ptr 0 0 0 0 :: ys) (aJ X f))) E) :
  ∃ H' oa' s' l,evT X f (.ptr o 0 0 0 :: xs) H = some (aO l,H')∧WrV t H' o oa' s'∧Q s' l oa'.isSome∧H.length≤H'.length∧(∀ a,oa = some a→oa' = some a)∧(∀ a,oa = none→oa' = some a→H.length≤a) ∧
   (∀ j,j < H.length→j ≠ o→(∀ a,oa = some a→j ≠ a)→H'[j]? = H[j]?):=by
 obtain ⟨π,hI,hπ,hπ0⟩:=h.img
 have hK:0 < (wrS s oa.isSome).length:=by rw [oQ];split <;> omega
 have hA':=(hA π (wrS s oa.isSome).length hπ)
 have hA2:fK X f H π (wrS s oa.isSome).length 0 (.ptr o 0 0 0 :: xs) (.ptr 0 0 0 0 :: ys):=fK.ptr hI hrw hπ0 hK hA'
 have hoa:oa.isSome = false→s.o = []:=by
  intro h1
  cases oa with
  | some a=>cases h1
  | none=>obtain ⟨⟨vo,τ,_,_,ho⟩,_⟩:=h;exact ho.1
 obtain ⟨π'',S',v0,H',τf,hE,hτf,hI',hok',hid,⟨s',l,r',hS',hv0,hr',hQ,hil⟩,hlen,hfix,hnew,hrest⟩:=Ev1.img (C:=X) (T:=evT X) (f:=f) (H:=H) (n:=n) (ys:=.ptr 0 0 0 0 :: ys) (Q:=fun S' v0=>∃ s' l r',S' = wrS s' r'∧v0 = aO l∧(r' = false→s'.o = [])∧Q s' l r'∧aA l = []∧aU l = []∧eU l = true∧(oa.isSome = true→r' = true)) (bU X) hF hb hI (Wp s _) hA2
  (by rw [show aA (AV.ptr 0 0 0 0 :: ys) = [0] by simp [aA,ids,hi]];exact Iz s _) (by simp;omega) hng (by
   intro E hEl hEI
   obtain ⟨oa1,hV,hπ1,hs1,EI⟩:=WrV.nS hEI (by rw [qR,if_pos hK]) hoa
   have aaC:oa1 = oa.map fun _=>1:=by
    cases oa with
    | none=>cases oa1 with
     | none=>rfl
     | some a=>cases hs1
    | some a=>cases oa1 with
     | none=>cases hs1
     | some a1 =>
      obtain ⟨g,hg⟩:=EI a1 rfl
      rw [qR] at hg
      simp [oQ] at hg
      rw [Option.map_some,← hg.1]
   rw [aaC] at hV
   obtain ⟨out,hout,hrun⟩:=run (wrS s oa.isSome).length E hV
   refine ⟨out,⟨hout.1,?_⟩,hrun⟩
   obtain ⟨s',oa',l,hr,hil,htl,hnt,hV',ho',hQ⟩:=hout.2
   obtain ⟨π',hI',hπ',EJ⟩:=hV'.img
   have Vk:oa'.isSome = false→s'.o = []:=by
    intro h1
    cases oa' with
    | some a=>cases h1
    | none=>obtain ⟨⟨vo,τ,_,_,ho⟩,_⟩:=hV';exact ho.1
   refine Leaves.plain hr hil htl hnt hI' (Wp s' _) ?_ ?_ ?_ ?_ ⟨s',l,_,rfl,rfl,Vk,hQ,hil,htl,hnt,?_⟩
   ·rw [oQ,oQ]
    cases oa with
    | none=>cases oa'.isSome <;> simp
    | some a=>rw [ho' (by simp)];simp
   ·intro k hk
    cases oa with
    | none =>
     rw [oQ] at hk
     simp at hk
     subst hk
     exact ⟨0,EJ⟩
    | some a =>
     rw [oQ] at hk
     simp at hk
     have:k = 0∨k = 1:=by omega
     rcases this with rfl | rfl
     ·exact ⟨0,EJ⟩
     ·rw [ho' (by simp)] at hπ'
      have h1:(π'.map Prod.fst)[1]? = some 1:=by rw [hπ'];rfl
      rw [List.getElem?_map] at h1
      cases hp:π'[1]? with
      | none=>rw [hp] at h1;cases h1
      | some x =>
       rw [hp] at h1
       simp at h1
       exact ⟨x.2,by rw [← h1]⟩
   ·intro k ob ob' h1 h2
    cases hx:oa.isSome <;> cases hy:oa'.isSome <;> rw [hx] at h1 <;> rw [hy] at h2
    all_goals
     match k,h1,h2 with
     | 0,h1,h2 =>
      have e1:=Option.some.inj h1
      have e2:=Option.some.inj h2
      subst e1 e2;rfl
     | 1,h1,h2=>first | (simp [wrS] at h1;done) | (simp [wrS] at h2;done) | (
      have e1:=Option.some.inj h1
      have e2:=Option.some.inj h2
      subst e1 e2;rfl)
     | k + 2,h1,h2=>simp [wrS] at h1
   ·intro k hk1 hk2
    cases hx:oa.isSome <;> cases hy:oa'.isSome <;> rw [hx,oQ] at hk1 <;> rw [hy,oQ] at hk2 <;> simp at hk1 hk2
    all_goals first | omega | skip
    have:k = 1:=by omega
    subst this
    rw [show List.range (wrS s false).length = [0] from rfl,Iz]
    rw [oQ];simp
   ·intro h1
    cases oa with
    | none=>cases h1
    | some a=>rw [ho' (by simp)];rfl)
 subst hS' hv0
 obtain ⟨g0,hg0⟩:=hfix 0 o 0 hπ0
 have Vl:g0 = 0:=by
  obtain ⟨o',g',ob,q1,q2,q3⟩:=hI'.ob 0 _ (by cases r' <;> rfl:(wrS s' r')[0]? = some (jv s' (if r' then .sl 1 0 s'.o.length 0 else .ro 0 .pn 0) 0))
  rw [hg0] at q1
  simp only [Option.some.injEq,Prod.mk.injEq] at q1
  obtain ⟨_,rfl⟩:=q1
  exact (q3.bx rfl).2.2
 subst Vl
 obtain ⟨oa',hV',Vm,hs',hat'⟩:=WrV.nS hI' hg0 hr'
 obtain ⟨hil,htl,hnt,hmono⟩:=hil
 rw [jc (aO l) (by rw [lq hnt];exact hil) (fun k hk=>by rw [jW hnt,htl] at hk;cases hk)] at hE
 refine ⟨H',oa',s',l,dX hE,hV',by rw [hs'];exact hQ,hlen,?_,?_,?_⟩
 ·intro a ha
  subst ha
  cases oa' with
  | none =>
   have:=hmono rfl
   rw [this] at hs';cases hs'
  | some a' =>
   obtain ⟨g,hg⟩:=hat' a' rfl
   have h1:(π.map Prod.fst)[1]? = some a:=by rw [hπ];rfl
   rw [List.getElem?_map] at h1
   cases hp:π[1]? with
   | none=>rw [hp] at h1;cases h1
   | some x =>
    rw [hp] at h1
    simp at h1
    obtain ⟨g2,hg2⟩:=hfix 1 x.1 x.2 hp
    rw [hg] at hg2
    simp at hg2
    rw [hg2.1,h1]
 ·intro a ha ha'
  subst ha ha'
  obtain ⟨g,hg⟩:=hat' a rfl
  exact hnew 1 a g (by rw [oQ];simp) hg
 ·intro j hj hjo hja
  refine hrest j hj ?_
  intro k x g hk e
  have h1:x ∈ π.map Prod.fst:=List.mem_map.2 ⟨(x,g),List.mem_of_getElem? hk,rfl⟩
  rw [hπ] at h1
  rcases List.mem_cons.1 h1 with h1 | h1
  ·exact hjo (e.trans h1)
  ·cases oa with
   | none=>simp at h1
   | some a =>
    simp at h1
    exact hja a rfl (e.trans h1)
end
end Go.Proofs.Ytcllinmgllmpmaa
namespace Go.Proofs.Ytcllinmgllmpmaa
open Go.AM
theorem acr (x:Int):IntKind.i64.wrap ((AM.bits .i64 x &&& AM.bits .i64 1).toNat:Nat) = ((x % 2).toNat:Nat):=by
 have h1:(AM.bits .i64 1).toNat = 1:=by decide
 have h2:(AM.bits .i64 x).toNat % 2 = (x % 2).toNat:=by
  unfold AM.bits
  rw [BitVec.toNat_ofInt]
  show (x % 18446744073709551616).toNat % 2 = _
  omega
 rw [BitVec.toNat_and,h1,Nat.and_one_is_mod,h2,wrap_i64 (by omega) (by omega)]
theorem BL {v:Nat} (h:v < 256):(AM.bits .u8 (v:Int)).toNat = v:=by
 unfold AM.bits
 rw [BitVec.toNat_ofInt]
 show ((v:Int) % 256).toNat = v
 omega
theorem wu8 {v:Nat} (h:v < 256):IntKind.u8.wrap (v:Int) = (v:Int):=by
 show (v:Int) % 256 = v
 omega
theorem acs {u k:Nat} (hu:u < 2) (hk:k < 8):u * 2 ^ k < 256:=by
 have h1:2 ^ k≤2 ^ 7:=Nat.pow_le_pow_right (by omega) (by omega)
 have:u * 2 ^ k≤1 * 2 ^ 7:=Nat.mul_le_mul (by omega) h1
 omega
def orB (y:UInt8) (x:Int) (k:Nat):UInt8:=UInt8.ofNat (y.toNat ||| (x % 2).toNat * 2 ^ k)
def pW (s:Ws) (x:Int):Ws:=⟨s.k + 1,(if s.k % 8 = 0 then s.o ++ [0] else s.o).set (s.k / 8) (orB ((if s.k % 8 = 0 then s.o ++ [0] else s.o).getD (s.k / 8) 0) x (s.k % 8))⟩
section
variable {t:Nat} {H:AM.Heap} {o:Nat} {oa:Option Nat} {s:Ws}
theorem acu {m a g τ τ2:Nat} {x:Int} {ob:AM.Obj} {E:AM.Heap} {y:UInt8} {tl:AM.Frame} (h0:E[0]? = some (some (jv s (.sl a 0 s.o.length g) τ))) (ha:E[a]? = some (some ob)) (hw:RwT (.pb s.o) g τ2 ob) (hk:s.k / 8 < s.o.length) (hy:s.o[s.k / 8]? = some y) (hl:s.k≤10000000) :
  ∃ ob',RwT (.pb (s.o.set (s.k / 8) (orB y x (s.k % 8)))) g τ2 ob'∧∃ code,((Try.f74.body).bind (aI [1,0])) = some code∧Run X (evT X) 74 m code ((0,.ptr 0 0 0 0) :: (1,.int .i64 x) :: tl) E ⟨.normal,[(0,.ptr 0 0 0 0)],upd E a (some ob')⟩:=by
 have q1:=hw.p;have q2:=hw.g;have q4:=hw.ids;have q5:=hw.tg
 simp only [jv] at h0
 have w2:((s.k:Nat):Int).tdiv 8 = ((s.k / 8:Nat):Int):=by rw [Int.tdiv_eq_ediv_of_nonneg (by omega)];omega
 have w2':((s.k:Nat):Int) / 8 = ((s.k / 8:Nat):Int):=by omega
 have w3:((s.k:Nat):Int).tmod 8 = ((s.k % 8:Nat):Int):=by rw [Int.tmod_eq_emod_of_nonneg (by omega)];omega
 have w3':((s.k:Nat):Int) % 8 = ((s.k % 8:Nat):Int):=by omega
 have w4:IntKind.i64.wrap ((s.k / 8:Nat):Int) = ((s.k / 8:Nat):Int):=wrap_i64 (by omega) (by omega)
 have w5:IntKind.i64.wrap ((s.k % 8:Nat):Int) = ((s.k % 8:Nat):Int):=wrap_i64 (by omega) (by omega)
 have hkI:((s.k / 8:Nat):Int) < (s.o.length:Int):=by omega
 have hkr:s.k % 8 < 8:=Nat.mod_lt _ (by omega)
 have hx2:(x % 2).toNat < 2:=by omega
 have hy2:=y.toNat_lt
 have hsh:=acs hx2 hkr
 have hor:y.toNat ||| (x % 2).toNat * 2 ^ (s.k % 8) < 256:=Nat.or_lt_two_pow (n:=8) hy2 hsh
 have f1:¬ ((s.k % 8:Nat):Int) < 0:=by omega
 have f2:IntKind.u8.wrap (IntKind.u8.wrap (IntKind.i64.wrap ((AM.bits .i64 x &&& AM.bits .i64 1).toNat:Nat)) * 2 ^ min (s.k % 8) 8) = (((x % 2).toNat * 2 ^ (s.k % 8):Nat):Int):=by
  rw [acr,wu8 (by omega),Nat.min_eq_left (by omega)]
  have e:(((x % 2).toNat:Nat):Int) * 2 ^ (s.k % 8) = (((x % 2).toNat * 2 ^ (s.k % 8):Nat):Int):=by push_cast;rfl
  rw [e,wu8 hsh]
 have f3:IntKind.u8.wrap ((AM.bits .u8 ((y.toNat:Nat):Int) ||| AM.bits .u8 (((x % 2).toNat * 2 ^ (s.k % 8):Nat):Int)).toNat:Nat) = ((y.toNat ||| (x % 2).toNat * 2 ^ (s.k % 8):Nat):Int):=by
  rw [BitVec.toNat_or,BL hy2,BL hsh,wu8 hor]
 have hwI:((y.toNat ||| (x % 2).toNat * 2 ^ (s.k % 8):Nat):Int) < 256:=by omega
 refine ⟨{ ob with p:=.pb (s.o.set (s.k / 8) (orB y x (s.k % 8))) },⟨rfl,hw.g,hw.row,hw.ids,hw.tg⟩,_,rfl,?_⟩
 unfold orB
 generalize (x % 2).toNat * 2 ^ (s.k % 8) = sh at *
 generalize y.toNat ||| sh = wv at *
 generalize s.k / 8 = kd at *
 generalize s.k % 8 = kr at *
 generalize hN:s.o.length = N at *
 generalize s.o = B at *
 have hτ:(if τ2 = 0 then some 0 else some τ2) = some τ2:=by
  split
  ·rename_i h;rw [h]
  ·rfl
 simp only [go_sem] at f2 f3
 refine ⟨0,?_⟩
 simp (maxSteps:=2000000) -implicitDefEqProofs [-getElem?_pos,go_sem,eqV,ah,retag,h0,ha,q1,q2,q4,q5,w2,w2',w3,w3',w4,w5,hk,hkI,hy,hN,f1,f2,f3,hwI,hτ]
end
end Go.Proofs.Ytcllinmgllmpmaa
namespace Go.Proofs.Ytcllinmgllmpmaa
open Go.AM
structure Kpw (H H':AM.Heap) (o:Nat) (oa oa':Option Nat):Prop where
 len:H.length≤H'.length
 same:∀ a,oa = some a→oa' = some a
 new:∀ a,oa = none→oa' = some a→H.length≤a
 rest:∀ j,j < H.length→j ≠ o→(∀ a,oa = some a→j ≠ a)→H'[j]? = H[j]?
theorem Kpw.refl (H:AM.Heap) (o:Nat) (oa:Option Nat):Kpw H H o oa oa:=⟨Nat.le_refl _,fun _ h=>h,fun a h h2=>(by rw [h] at h2;cases h2),fun _ _ _ _=>rfl⟩
theorem Kpw.trans {H H1 H2:AM.Heap} {o:Nat} {oa oa1 oa2:Option Nat} (h:Kpw H H1 o oa oa1) (h2:Kpw H1 H2 o oa1 oa2):Kpw H H2 o oa oa2 where
 len:=Nat.le_trans h.len h2.len
 same:=fun a ha=>h2.same a (h.same a ha)
 new:=by
  intro a ha ha2
  cases h1:oa1 with
  | none=>exact Nat.le_trans h.len (h2.new a h1 ha2)
  | some x =>
   have:=h2.same x h1
   rw [ha2] at this
   cases this
   exact h.new a ha h1
 rest:=by
  intro j hj hjo hja
  rw [h2.rest j (Nat.lt_of_lt_of_le hj h.len) hjo ?_,h.rest j hj hjo hja]
  intro a ha
  cases h1:oa with
  | none=>have:=h.new a h1 ha;omega
  | some x =>
   have:=h.same x h1
   rw [ha] at this
   cases this
   exact hja a h1
theorem Kpw.upd {H:AM.Heap} {o:Nat} {oa:Option Nat} (x:Option AM.Obj):Kpw H (AM.upd H o x) o oa oa where
 len:=by simp [AM.upd]
 same:=fun _ h=>h
 new:=fun a h h2=>by rw [h] at h2;cases h2
 rest:=fun j hj hjo _=>by unfold AM.upd;rw [List.getElem?_set_ne (Ne.symm hjo)]
theorem Kpw.cat {H:AM.Heap} {o:Nat} {oa:Option Nat} (r:AM.Heap):Kpw H (H ++ r) o oa oa where
 len:=by simp
 same:=fun _ h=>h
 new:=fun a h h2=>by rw [h] at h2;cases h2
 rest:=fun j hj hjo _=>List.getElem?_append_left hj
section
variable {t:Nat} {H:AM.Heap} {o:Nat} {oa:Option Nat} {s:Ws}
theorem OuW.upd {vo:AV} {l:List UInt8} {x:Option AM.Obj} (h:OuW t H oa vo l) (hne:∀ a,oa = some a→a ≠ o):OuW t (AM.upd H o x) oa vo l:=by
 cases oa with
 | none=>exact h
 | some a =>
  obtain ⟨g,τ,ob,h1,h2,h3,h4⟩:=h
  exact ⟨g,τ,ob,h1,h2,wB h3 (Ne.symm (hne a rfl)),h4⟩
theorem WrV.set {s':Ws} {vo:AV} {τ:Nat} (hne:∀ a,oa = some a→a ≠ o) (h2:τ = 0∨τ = t) (ho:o < H.length) (hv:OuW t H oa vo s'.o):WrV t (AM.upd H o (some (jv s' vo τ))) o oa s' :=
 ⟨⟨vo,τ,h2,by unfold AM.upd;rw [List.getElem?_set_self ho],hv.upd hne⟩,hne⟩
theorem WrV.lt (h:WrV t H o oa s):o < H.length∧∀ a,oa = some a→a < H.length:=by
 obtain ⟨⟨vo,τ,_,h0,ho⟩,_⟩:=h
 refine ⟨eY h0,fun a ha=>?_⟩
 subst ha
 obtain ⟨g,τ,ob,_,_,h3,_⟩:=ho
 exact eY h3
theorem WrV.keep {H':AM.Heap} (h:WrV t H o oa s) (h1:H'[o]? = H[o]?) (h2:∀ a,oa = some a→H'[a]? = H[a]?):WrV t H' o oa s:=by
 obtain ⟨⟨vo,τ,a1,h0,ho⟩,hne⟩:=h
 refine ⟨⟨vo,τ,a1,by rw [h1];exact h0,?_⟩,hne⟩
 cases oa with
 | none=>exact ho
 | some a =>
  obtain ⟨g,τ,ob,b1,b2,b3,b4⟩:=ho
  exact ⟨g,τ,ob,b1,b2,by rw [h2 a rfl];exact b3,b4⟩
theorem WrV.cat {r:AM.Heap} (h:WrV t H o oa s):WrV t (H ++ r) o oa s:=h.keep (List.getElem?_append_left h.lt.1) fun a ha=>List.getElem?_append_left (h.lt.2 a ha)
theorem WrV.other {j:Nat} {x:Option AM.Obj} (h:WrV t H o oa s) (h1:j ≠ o) (h2:∀ a,oa = some a→j ≠ a):WrV t (AM.upd H j x) o oa s :=
 h.keep (by unfold AM.upd;rw [List.getElem?_set_ne h1]) fun a ha=>by unfold AM.upd;rw [List.getElem?_set_ne (h2 a ha)]
theorem bsW (H:AM.Heap) (y:UInt8):dA X H 22 1 [(0,.int .u8 (y.toNat:Nat))] = some (.ro 1 (.pb [y]) 0,H):=by
 have:=y.toNat_lt
 have h1:(y.toNat:Int) < 256:=by omega
 simp [dA,jR,uN,mkRow,jO,dZ,cellsOf,scalars,scalar,aA,ids,aU,tags,dO,h1]
theorem OuW.app {vo:AV} {l:List UInt8} (y:UInt8) (h:OuW t H oa vo l) (hH:0 < H.length) (hne:∀ a,oa = some a→a ≠ 0) (hl:l.length≤10000000):∃ v' H' oa',dw X H 22 vo (.ro 1 (.pb [y]) 0) = some (v',H')∧OuW t H' oa' v' (l ++ [y])∧Kpw H H' 0 oa oa'∧H'[0]? = H[0]?∧(∀ a,oa' = some a→a ≠ 0):=by
 cases oa with
 | none =>
  obtain ⟨rfl,τ,hτ,rfl⟩:=h
  have hat:(H ++ [some (⟨.pb [y],0,none,0,true,false,0⟩:AM.Obj)])[H.length]? = some (some ⟨.pb [y],0,none,0,true,false,0⟩):=by simp
  refine ⟨.sl H.length 0 1 0,H ++ [some ⟨.pb [y],0,none,0,true,false,0⟩],some H.length,?_,⟨0,0,_,.inl rfl,rfl,hat,⟨rfl,rfl,rfl,rfl,rfl⟩⟩,⟨by simp,fun a h=>(by cases h),fun a _ h=>(by cases h;exact Nat.le_refl _),fun j hj _ _=>List.getElem?_append_left hj⟩,List.getElem?_append_left hH,fun a h=>by cases h;omega⟩
  simp only [dw,vI,zX,Jp]
  simp [lV,pI,ah,rD,fP,rE,bT,aN]
 | some a =>
  obtain ⟨g,τ,ob,hτ,rfl,ho,hw⟩:=h
  obtain ⟨ob',w1,w2⟩:=JE (C:=X) (T:=22) (e:=5) (src:=.ro 1 (.pb [y]) 0) (m:=[y]) vI SQ zX bytes5 Jp ho hw (.inl (by simp [lV,pI,rD])) (by simp;omega)
  refine ⟨_,_,some a,w2,⟨g + 1,τ,ob',hτ,by simp,setAt ho,w1⟩,⟨by simp [AM.upd],fun a' h=>h,fun a' h=>(by cases h),fun j hj h0 hja=>by unfold AM.upd;rw [List.getElem?_set_ne (Ne.symm (hja a rfl))]⟩,by unfold AM.upd;rw [List.getElem?_set_ne (hne a rfl)],hne⟩
def jM (s:Ws):Prop:=s.o.length = (s.k + 7) / 8
theorem D9 {x:Int} (h:jM s):jM (pW s x):=by
 unfold jM pW at *
 rw [List.length_set]
 simp only
 split
 ·rw [List.length_append,List.length_singleton];omega
 ·omega
theorem acv {m:Nat} {x:Int} {E:AM.Heap} (h:WrV t E 0 oa s) (hl:s.k≤10000000):∃ code,((Try.f74.body).bind (aI [0,0])) = some code∧Run X (evT X) 74 m code [(0,.ptr 0 0 0 0),(1,.int .i64 x)] E ⟨.normal,[(0,.ptr 0 0 0 0),(1,.int .i64 x),(9,.bool (decide (s.k % 8 = 0)))],E⟩:=by
 refine ⟨_,rfl,?_⟩
 obtain ⟨⟨vo,τ,a1,h0,ho⟩,hne⟩:=id h
 simp only [jv] at h0
 have w3:((s.k:Nat):Int).tmod 8 = ((s.k % 8:Nat):Int):=by rw [Int.tmod_eq_emod_of_nonneg (by omega)];omega
 have w3':((s.k:Nat):Int) % 8 = ((s.k % 8:Nat):Int):=by omega
 have w5:IntKind.i64.wrap ((s.k % 8:Nat):Int) = ((s.k % 8:Nat):Int):=wrap_i64 (by omega) (by omega)
 by_cases hz:s.k % 8 = 0
 ·rw [decide_eq_true hz]
  rw [hz] at w3 w3' w5
  (refine ⟨0,?_⟩;simp (maxSteps:=2000000) -implicitDefEqProofs [-getElem?_pos,go_sem,eqV,ah,h0,w3,w3',w5])
 ·have hzI:¬ ((s.k % 8:Nat):Int) = 0:=by omega
  have hzb:(((s.k % 8:Nat):Int) == 0) = false:=by simpa using hzI
  rw [decide_eq_false hz]
  generalize s.k % 8 = kr at *
  (refine ⟨0,?_⟩;simp (maxSteps:=2000000) -implicitDefEqProofs [-getElem?_pos,go_sem,eqV,ah,h0,w3,w3',w5,hz,hzI,hzb])
theorem acw {m:Nat} {x:Int} {d:Bool} {E:AM.Heap} (h:WrV t E 0 oa s) (hl:s.o.length≤10000000):∃ E' oa',WrV t E' 0 oa' ⟨s.k,s.o ++ [0]⟩∧Kpw E E' 0 oa oa'∧∃ code,((Try.f74.body).bind (aI [0,1,0])) = some code∧Run X (evT X) 74 m code [(0,.ptr 0 0 0 0),(1,.int .i64 x),(9,.bool d)] E ⟨.normal,[(0,.ptr 0 0 0 0),(1,.int .i64 x)],E'⟩:=by
 obtain ⟨⟨vo,τ,a1,h0,ho⟩,hne⟩:=id h
 obtain ⟨v',E',oa',hA,hv',hk,hE0,hne'⟩:=ho.app 0 h.lt.1 hne hl
 have h0':E'[0]? = some (some (jv s vo τ)):=by rw [hE0];exact h0
 have hbs:=bsW E 0
 refine ⟨AM.upd E' 0 (some (jv ⟨s.k,s.o ++ [0]⟩ v' τ)),oa',WrV.set hne' a1 (eY h0') hv',hk.trans (Kpw.upd _),_,rfl,?_⟩
 simp only [jv] at h0 h0' ⊢
 simp only [show ((0:UInt8).toNat:Int) = 0 from rfl] at hbs
 cases oa' with
 | none=>exact absurd hv'.1 (by simp)
 | some a =>
  obtain ⟨g,τ2,ob,_,rfl,_⟩:=hv'
  generalize (s.o ++ [0]).length = N at *
  (refine ⟨0,?_⟩;simp (maxSteps:=2000000) -implicitDefEqProofs [-getElem?_pos,go_sem,eqV,ah,h0,h0',hbs,hA])
theorem acy {m:Nat} {E:AM.Heap} (h:WrV t E 0 oa s) (hl:s.k≤10000000):∃ E',WrV t E' 0 oa ⟨s.k + 1,s.o⟩∧Kpw E E' 0 oa oa∧∃ code,((Try.f74.body).bind (aI [1,1])) = some code∧Run X (evT X) 74 m code [(0,.ptr 0 0 0 0)] E ⟨.normal,[],E'⟩:=by
 obtain ⟨⟨vo,τ,a1,h0,ho⟩,hne⟩:=id h
 refine ⟨AM.upd E 0 (some (jv ⟨s.k + 1,s.o⟩ vo τ)),WrV.set hne a1 (eY h0) ho,Kpw.upd _,_,rfl,?_⟩
 have w1:IntKind.i64.wrap ((s.k:Int) + 1) = ((s.k + 1:Nat):Int):=by rw [wrap_i64 (by omega) (by omega)];omega
 simp only [jv] at h0 ⊢
 generalize s.k + 1 = k1 at *
 (refine ⟨0,?_⟩;simp (maxSteps:=2000000) -implicitDefEqProofs [-getElem?_pos,go_sem,eqV,ah,h0,w1])
theorem Wq {m:Nat} {x:Int} {E:AM.Heap} (h:WrV t E 0 oa s) (hs:jM s) (hl:s.k≤9000000):∃ code,Try.f74.body = some code ∧
  aj (kE fun fr E'=>∃ oa',WrV t E' 0 oa' (pW s x)∧Kpw E E' 0 oa oa') X (evT X) 74 m code [(0,.ptr 0 0 0 0),(1,.int .i64 x)] E:=by
 refine ⟨_,rfl,?_⟩
 have hso:=hs
 unfold jM at hso
 apply aj.assoc
 apply aj.seq (piece (acv h (by omega)) _ rfl)
 -- the byte
 have key:∀ {E1:AM.Heap} {oa1:Option Nat} {tl:AM.Frame},WrV t E1 0 oa1 ⟨s.k,if s.k % 8 = 0 then s.o ++ [0] else s.o⟩→Kpw E E1 0 oa oa1→∃ code,((Try.f74.body).bind (aI [1])) = some code∧aj (kE fun fr E'=>∃ oa',WrV t E' 0 oa' (pW s x)∧Kpw E E' 0 oa oa') X (evT X) 74 m code ((0,.ptr 0 0 0 0) :: (1,.int .i64 x) :: tl) E1:=by
  intro E1 oa1 tl hV hk
  refine ⟨_,rfl,?_⟩
  have hB:s.k / 8 < (if s.k % 8 = 0 then s.o ++ [0] else s.o).length:=by
   split
   ·rw [List.length_append,List.length_singleton];omega
   ·omega
  have hg:(if s.k % 8 = 0 then s.o ++ [0] else s.o).getD (s.k / 8) 0 = (if s.k % 8 = 0 then s.o ++ [0] else s.o)[s.k / 8]:=by
   rw [List.getD_eq_getElem?_getD,List.getElem?_eq_getElem hB];rfl
  have hbw:pW s x = ⟨s.k + 1,(if s.k % 8 = 0 then s.o ++ [0] else s.o).set (s.k / 8) (orB ((if s.k % 8 = 0 then s.o ++ [0] else s.o)[s.k / 8]) x (s.k % 8))⟩:=by
   unfold pW
   rw [hg]
  rw [hbw]
  generalize (if s.k % 8 = 0 then s.o ++ [0] else s.o) = B at *
  obtain ⟨⟨vo,τ,a1,h0,ho⟩,hne⟩:=id hV
  cases oa1 with
  | none =>
   have:=ho.1
   simp only at this
   subst this
   simp at hB
  | some a =>
   obtain ⟨g,τ2,ob,hτ2,rfl,h3,h4⟩:=ho
   obtain ⟨ob',w1,hr2⟩:=acu (m:=m) (s:=⟨s.k,B⟩) (x:=x) (tl:=tl) (y:=B[s.k / 8]) h0 h3 h4 hB (List.getElem?_eq_getElem hB) (by simp only;omega)
   have hV2:WrV t (upd E1 a (some ob')) 0 (some a) ⟨s.k,B.set (s.k / 8) (orB (B[s.k / 8]) x (s.k % 8))⟩ :=
    ⟨⟨_,τ,a1,wB h0 (hne a rfl),g,τ2,ob',hτ2,by simp,setAt h3,w1⟩,hne⟩
   obtain ⟨E3,hV3,hk3,hr3⟩:=acy (m:=m) hV2 (by simp only;omega)
   have hk2:Kpw E (upd E1 a (some ob')) 0 oa (some a):=by
    refine ⟨by have:=hk.len;simpa [AM.upd] using this,hk.same,hk.new,?_⟩
    intro j hj h1 h2
    have hja:j ≠ a:=by
     intro e
     subst e
     cases hq:oa with
     | none=>have:=hk.new j hq rfl;omega
     | some z=>have:=hk.same z hq;cases this;exact h2 _ hq rfl
    unfold AM.upd
    rw [List.getElem?_set_ne (Ne.symm hja)]
    exact hk.rest j hj h1 h2
   refine aj.of (o:=⟨.normal,[],E3⟩) ?_ ⟨.inl rfl,_,hV3,hk2.trans hk3⟩
   exact Run.seq (piece hr2 _ rfl) (piece hr3 _ rfl)
 by_cases hz:s.k % 8 = 0
 ·obtain ⟨E1,oa1,hV1,hk1,hr1⟩:=acw (m:=m) (x:=x) (d:=decide (s.k % 8 = 0)) h (by omega)
  apply aj.seq (fr':=[(0,.ptr 0 0 0 0),(1,.int .i64 x)]) (H':=E1)
  ·refine Run.cond (d:=true) (by simp [aF,au,hz]) ?_
   exact piece hr1 _ rfl
  refine piece (key (tl:=[]) ?_ hk1) _ rfl
  rw [if_pos hz]
  exact hV1
 ·apply aj.seq (fr':=[(0,.ptr 0 0 0 0),(1,.int .i64 x),(9,.bool (decide (s.k % 8 = 0)))]) (H':=E)
  ·exact Run.cond (d:=false) (by simp [aF,au,hz]) ⟨0,rfl⟩
  refine piece (key ?_ (Kpw.refl E 0 oa)) _ rfl
  rw [if_neg hz]
  exact h
theorem Wu {x:Int} (h:WrV t H o oa s) (hs:jM s) (hl:s.k≤9000000):∃ H' oa',evT X 74 [.ptr o 0 0 0,.int .i64 x] H = some (.tup [],H')∧WrV t H' o oa' (pW s x)∧Kpw H H' o oa oa':=by
 obtain ⟨code,hc⟩:∃ code,Try.f74.body = some code:=⟨_,rfl⟩
 obtain ⟨H',oa',s',l,hE,hV,⟨rfl,rfl⟩,h1,h2,h3,h4⟩:=NH (f:=74) (n:=3) (xs:=[.int .i64 x]) (ys:=[.int .i64 x]) (Q:=fun s' l r=>s' = pW s x∧l = []) Try.func74 hc rfl h (fun π K _=>fK.flat rfl rfl fK.nil) rfl rfl (by simp [dG]) (by
  intro m E hE
  obtain ⟨pq,hc2,ht⟩:=Wq (m:=m) (x:=x) hE hs hl
  rw [hc] at hc2
  obtain rfl:=Option.some.inj hc2
  rw [acz]
  refine ht.mono fun out ho=>⟨ho.1,?_⟩
  obtain ⟨oa',q1,q2⟩:=ho.2
  refine ⟨_,oa',[],rfl,rfl,rfl,rfl,q1,fun hn=>?_,rfl,rfl⟩
  cases oa with
  | none=>exact absurd rfl hn
  | some a=>exact q2.same 1 rfl)
 exact ⟨H',oa',hE,hV,⟨h1,h2,h3,h4⟩⟩
end
end Go.Proofs.Ytcllinmgllmpmaa
namespace Go.Proofs.Ytcllinmgllmpmaa
open Go.AM
def dn (s:Ws) (x:Int):Nat→Ws
 | 0=>s
 | n + 1=>pW (dn s x n) (x / 2 ^ n)
def sD (s:Ws) (x:Int):Nat→Ws
 | 0=>s
 | n + 1=>sD (pW s (x / 2 ^ n)) x n
theorem dR {s:Ws} {x:Int} (h:jM s):∀ n,jM (dn s x n)∧(dn s x n).k = s.k + n
 | 0=>⟨h,rfl⟩
 | n + 1=>by
  obtain ⟨h1,h2⟩:=dR h n
  exact ⟨D9 h1,by simp only [dn,pW,h2];omega⟩
theorem FZ {x:Int}:∀ (n:Nat) {s:Ws},jM s→jM (sD s x n)∧(sD s x n).k = s.k + n
 | 0,_,h=>⟨h,rfl⟩
 | n + 1,s,h=>by
  obtain ⟨h1,h2⟩:=FZ n (D9 (x:=x / 2 ^ n) h)
  have hk:(pW s (x / 2 ^ n)).k = s.k + 1:=rfl
  exact ⟨h1,by show (sD (pW s (x / 2 ^ n)) x n).k = _;rw [h2,hk];omega⟩
theorem Wv {x:Int} {i:Nat} (hi:i≤60):x.fdiv (2 ^ min i 64) = x / 2 ^ i:=by
 rw [Nat.min_eq_left (by omega)]
 exact Int.fdiv_eq_ediv_of_nonneg _ (Int.le_of_lt (Int.pow_pos (by omega)))
section
variable {t:Nat} {H:AM.Heap} {o:Nat} {oa:Option Nat} {s:Ws}
def x9 (x:Int) (n i:Nat):AM.Frame:=[(0,.ptr 0 0 0 0),(1,.int .i64 x),(7,.int .i64 (n:Nat)),(8,.int .i64 (i:Nat))]
theorem acA {m n i:Nat} {x:Int} {E:AM.Heap} (h:WrV t E 0 oa s) (hs:jM s) (hl:s.k≤9000000) (hi:i≤60):∃ E' oa',WrV t E' 0 oa' (pW s (x / 2 ^ i))∧Kpw E E' 0 oa oa'∧∃ code,((Try.f43.body).bind (aI [1,0,0,1,1])) = some code∧Run X (evT X) 43 m code (x9 x n i ++ [(9,.bool true)]) E ⟨.normal,x9 x n (i + 1),E'⟩:=by
 obtain ⟨E',oa',g1,g2,g3⟩:=Wu (x:=x / 2 ^ i) h hs hl
 refine ⟨E',oa',g2,g3,_,rfl,?_⟩
 have w1:IntKind.i64.wrap ((i:Int) + 1) = ((i + 1:Nat):Int):=by rw [wrap_i64 (by omega) (by omega)];omega
 have hi0:¬ (i:Int) < 0:=by omega
 have w2:=Wv (x:=x) hi
 apply Run.seq (fr':=x9 x n i) (H':=E')
 ·apply Run.block
  ·apply Run.seq (fr':=[(0,.ptr 0 0 0 0),(1,.int .i64 x),(6,.int .i64 (i:Nat)),(7,.int .i64 (n:Nat)),(8,.int .i64 (i:Nat))]) (H':=E)
   ·simp only [x9]
    (refine ⟨0,?_⟩;simp (maxSteps:=2000000) -implicitDefEqProofs [-getElem?_pos,go_sem,eqV,ah,ak])
   ·simp only [x9]
    (refine ⟨0,?_⟩;simp (maxSteps:=2000000) -implicitDefEqProofs [-getElem?_pos,go_sem,eqV,ah,g1,hi0,w2])
  ·simp
 ·generalize i + 1 = i1 at *
  simp only [x9]
  (refine ⟨0,?_⟩;simp (maxSteps:=2000000) -implicitDefEqProofs [-getElem?_pos,go_sem,eqV,ah,w1])
theorem NI {m n:Nat} {x:Int} {E:AM.Heap} (h:WrV t E 0 oa s) (hs:jM s) (hl:s.k≤8000000) (hn:n≤60):∃ code,Try.f43.body = some code ∧
  aj (kE fun fr E'=>∃ oa',WrV t E' 0 oa' (dn s x n)∧Kpw E E' 0 oa oa') X (evT X) 43 m code [(0,.ptr 0 0 0 0),(1,.int .i64 x),(2,.int .i64 (n:Nat))] E:=by
 refine ⟨_,rfl,?_⟩
 apply aj.seq (fr':=x9 x n 0) (H':=E)
 ·simp only [x9]
  (refine ⟨0,?_⟩;simp (maxSteps:=2000000) -implicitDefEqProofs [-getElem?_pos,go_sem,eqV,ah])
 refine aj.mono (Q:=Goes fun fr E'=>∃ oa',WrV t E' 0 oa' (dn s x n)∧Kpw E E' 0 oa oa') ?_ fun o ho=>⟨.inl ho.1,ho.2⟩
 apply aj.block
 refine aj.kF (I:=fun q fr E'=>∃ i oa',i≤n∧q = n - i∧fr = x9 x n i∧WrV t E' 0 oa' (dn s x i)∧Kpw E E' 0 oa oa') ?_ (k:=n) ⟨0,oa,by omega,rfl,rfl,h,Kpw.refl E 0 oa⟩
 rintro q fr E' ⟨i,oa',hi,rfl,rfl,hV,hk⟩
 by_cases hin:i = n
 ·subst hin
  refine aj.of (o:=⟨.exit 0,x9 x i i ++ [(9,.bool false)],E'⟩) ?_ (.inr ⟨by simp,rfl,oa',hV,hk⟩)
  refine ⟨0,?_⟩
  simp only [x9]
  simp (maxSteps:=2000000) -implicitDefEqProofs [-getElem?_pos,go_sem,eqV,ah]
 ·have hlt:i < n:=by omega
  have jU:(i:Int) < (n:Int):=by omega
  obtain ⟨f1,f2⟩:=dR (x:=x) hs i
  obtain ⟨E2,oa2,h1,h2,hr⟩:=acA (m:=m) (n:=n) (i:=i) (x:=x) hV f1 (by omega) (by omega)
  refine aj.of (o:=⟨.normal,x9 x n (i + 1),E2⟩) ?_ (.inl ⟨rfl,n - (i + 1),by omega,i + 1,oa2,by omega,rfl,rfl,h1,hk.trans h2⟩)
  apply Run.seq (fr':=x9 x n i ++ [(9,.bool true)]) (H':=E')
  ·simp only [x9]
   (refine ⟨0,?_⟩;simp (maxSteps:=2000000) -implicitDefEqProofs [-getElem?_pos,go_sem,eqV,ah,jU,hlt])
  apply Run.seq (fr':=x9 x n i ++ [(9,.bool true)]) (H':=E')
  ·exact Run.cond (d:=true) (by simp [x9,aF,au]) ⟨0,rfl⟩
  exact piece hr _ rfl
def CO (x:Int) (I:Int):AM.Frame:=[(0,.ptr 0 0 0 0),(1,.int .i64 x),(6,.int .i64 I)]
theorem PK {m n:Nat} {x:Int} {E:AM.Heap} (h:WrV t E 0 oa s) (hs:jM s) (hl:s.k≤8000000) (hn:n≤60):∃ code,Try.f44.body = some code ∧
  aj (kE fun fr E'=>∃ oa',WrV t E' 0 oa' (sD s x n)∧Kpw E E' 0 oa oa') X (evT X) 44 m code [(0,.ptr 0 0 0 0),(1,.int .i64 x),(2,.int .i64 (n:Nat))] E:=by
 refine ⟨_,rfl,?_⟩
 apply aj.seq (fr':=CO x ((n:Int) - 1)) (H':=E)
 ·have w1:IntKind.i64.wrap ((n:Int) - 1) = (n:Int) - 1:=by rw [wrap_i64 (by omega) (by omega)]
  simp only [CO]
  (refine ⟨0,?_⟩;simp (maxSteps:=2000000) -implicitDefEqProofs [-getElem?_pos,go_sem,eqV,ah,w1,ak])
 refine aj.mono (Q:=Goes fun fr E'=>∃ oa',WrV t E' 0 oa' (sD s x n)∧Kpw E E' 0 oa oa') ?_ fun o ho=>⟨.inl ho.1,ho.2⟩
 apply aj.block
 refine aj.kF (I:=fun q fr E'=>∃ oa' s',q≤n∧s'.k + q = s.k + n∧jM s'∧fr = CO x ((q:Int) - 1)∧WrV t E' 0 oa' s'∧Kpw E E' 0 oa oa'∧sD s' x q = sD s x n) ?_ (k:=n) ⟨oa,s,by omega,rfl,hs,rfl,h,Kpw.refl E 0 oa,rfl⟩
 rintro q fr E' ⟨oa',s',hq,hkk,hs',rfl,hV,hk,hc⟩
 cases q with
 | zero =>
  refine aj.of (o:=⟨.exit 0,CO x (((0:Nat):Int) - 1) ++ [(10,.bool false)],E'⟩) ?_ (.inr ⟨by simp,rfl,oa',by rw [← hc];exact hV,hk⟩)
  have e1:(((0:Nat):Int) - 1) = -1:=rfl
  rw [e1]
  refine ⟨0,?_⟩
  simp only [CO]
  simp (maxSteps:=2000000) -implicitDefEqProofs [-getElem?_pos,go_sem,eqV,ah]
 | succ q =>
  have e1:(((q + 1:Nat):Int) - 1) = (q:Nat):=by omega
  rw [e1]
  obtain ⟨E2,oa2,g1,g2,g3⟩:=Wu (x:=x / 2 ^ q) hV hs' (by omega)
  refine aj.of (o:=⟨.normal,CO x ((q:Int) - 1),E2⟩) ?_ (.inl ⟨rfl,q,by omega,oa2,pW s' (x / 2 ^ q),by omega,by simp only [pW];omega,D9 hs',rfl,g2,hk.trans g3,hc⟩)
  have w1:IntKind.i64.wrap ((q:Int) - 1) = (q:Int) - 1:=by rw [wrap_i64 (by omega) (by omega)]
  have hq0:¬ (q:Int) < 0:=by omega
  have hq1:(0:Int)≤(q:Int):=by omega
  have w2:=Wv (x:=x) (i:=q) (by omega)
  apply Run.seq (fr':=CO x (q:Nat) ++ [(10,.bool true)]) (H':=E')
  ·apply Run.seq (fr':=CO x (q:Nat) ++ [(10,.bool true)]) (H':=E')
   ·simp only [CO]
    (refine ⟨0,?_⟩;simp (maxSteps:=2000000) -implicitDefEqProofs [-getElem?_pos,go_sem,eqV,ah,hq1])
   ·exact Run.cond (d:=true) (by simp [CO,aF,au]) ⟨0,rfl⟩
  apply Run.seq (fr':=CO x (q:Nat)) (H':=E2)
  ·apply Run.block
   ·simp only [CO]
    (refine ⟨0,?_⟩;simp (maxSteps:=2000000) -implicitDefEqProofs [-getElem?_pos,go_sem,eqV,ah,g1,hq0,w2])
   ·simp
  ·simp only [CO]
   (refine ⟨0,?_⟩;simp (maxSteps:=2000000) -implicitDefEqProofs [-getElem?_pos,go_sem,eqV,ah,w1,ak])
theorem Rf {f n:Nat} {fn:Func} {code:Code} {xs ys:List AV} {s':Ws} (hF:X.P.funcs[f]? = some fn) (hb:fn.body = some code) (hrw:X.rw f 0 = false) (h:WrV t H o oa s)
  (hA:∀ π K,π.map Prod.fst = o :: oa.toList→fK X f H π K 1 xs ys) (hi:aA ys = []) (hn:xs.length + 2 = n) (hng:n < dG) (hr:fn.results.toList = [])
  (run:∀ m E oa1,WrV n E 0 oa1 s→∃ code,fn.body = some code∧aj (kE fun fr E'=>∃ oa',WrV n E' 0 oa' s'∧Kpw E E' 0 oa1 oa') X (evT X) f m code (numbered 0 (coerce X (.ptr 0 0 0 0 :: ys) (aJ X f))) E) :
  ∃ H' oa',evT X f (.ptr o 0 0 0 :: xs) H = some (.tup [],H')∧WrV t H' o oa' s'∧Kpw H H' o oa oa':=by
 obtain ⟨H',oa',s2,l,hE,hV,⟨rfl,rfl⟩,h1,h2,h3,h4⟩:=NH (Q:=fun s2 l r=>s2 = s'∧l = []) hF hb hrw h hA hi hn hng (by
  intro m E hE
  obtain ⟨pq,hc2,ht⟩:=run m E _ hE
  rw [hb] at hc2
  obtain rfl:=Option.some.inj hc2
  refine ht.mono fun out ho=>⟨ho.1,?_⟩
  obtain ⟨oa',q1,q2⟩:=ho.2
  refine ⟨_,oa',[],by rw [hr];rfl,rfl,rfl,rfl,q1,fun hn=>?_,rfl,rfl⟩
  cases oa with
  | none=>exact absurd rfl hn
  | some a=>exact q2.same 1 rfl)
 exact ⟨H',oa',hE,hV,⟨h1,h2,h3,h4⟩⟩
theorem oz {x I:Int} {n:Nat} (hI:I = (n:Nat)) (h:WrV t H o oa s) (hs:jM s) (hl:s.k≤8000000) (hn:n≤60):∃ H' oa',evT X 43 [.ptr o 0 0 0,.int .i64 x,.int .i64 I] H = some (.tup [],H')∧WrV t H' o oa' (dn s x n)∧Kpw H H' o oa oa':=by
 subst hI
 obtain ⟨code,hc⟩:∃ code,Try.f43.body = some code:=⟨_,rfl⟩
 exact Rf (n:=4) (xs:=[.int .i64 x,.int .i64 (n:Nat)]) (ys:=[.int .i64 x,.int .i64 (n:Nat)]) Try.func43 hc rfl h (fun π K _=>fK.flat rfl rfl (fK.flat rfl rfl fK.nil)) rfl rfl (by simp [dG]) rfl fun m E oa1 hE=>by
  obtain ⟨pq,hc2,ht⟩:=NI (m:=m) (x:=x) hE hs hl hn
  rw [acB]
  exact ⟨pq,hc2,ht⟩
theorem AU {x I:Int} {n:Nat} (hI:I = (n:Nat)) (h:WrV t H o oa s) (hs:jM s) (hl:s.k≤8000000) (hn:n≤60):∃ H' oa',evT X 44 [.ptr o 0 0 0,.int .i64 x,.int .i64 I] H = some (.tup [],H')∧WrV t H' o oa' (sD s x n)∧Kpw H H' o oa oa':=by
 subst hI
 obtain ⟨code,hc⟩:∃ code,Try.f44.body = some code:=⟨_,rfl⟩
 exact Rf (n:=4) (xs:=[.int .i64 x,.int .i64 (n:Nat)]) (ys:=[.int .i64 x,.int .i64 (n:Nat)]) Try.func44 hc rfl h (fun π K _=>fK.flat rfl rfl (fK.flat rfl rfl fK.nil)) rfl rfl (by simp [dG]) rfl fun m E oa1 hE=>by
  obtain ⟨pq,hc2,ht⟩:=PK (m:=m) (x:=x) hE hs hl hn
  rw [acC]
  exact ⟨pq,hc2,ht⟩
end
end Go.Proofs.Ytcllinmgllmpmaa
namespace Go.Proofs.Ytcllinmgllmpmaa
open Go.AM
def eF (b:List UInt8) (i k:Nat):Nat→Nat→Nat
 | 0,n=>n
 | f + 1,n=>if n < 258∧k + n < b.length∧b[i + n]? = b[k + n]? then eF b i k f (n + 1) else n
section
variable {c:Nat} {b:List UInt8}
def CP (c:Nat) (b:List UInt8) (i k n:Nat):AM.Frame:=[(0,.ro c (.pb b) 1),(1,.int .i64 (i:Nat)),(2,.int .i64 (k:Nat)),(7,.int .i64 (n:Nat))]
theorem acD {m i k n:Nat} {E:AM.Heap} (hi:i < k) (hn:n≤258) (hb:b.length≤100000) (hk:k≤100000):∃ code,((Try.f48.body).bind (aI [1,1,0,0,0,0,0])) = some code∧Run X (evT X) 48 m code (CP c b i k n) E ⟨.normal,CP c b i k n ++ [(32,.bool (decide (n < 258∧k + n < b.length∧b[i + n]? = b[k + n]?)))],E⟩:=by
 refine ⟨_,rfl,?_⟩
 simp only [CP]
 by_cases h1:n < 258
 ·have h1I:(n:Int) < 258:=by omega
  have w1:IntKind.i64.wrap ((k:Int) + (n:Int)) = ((k + n:Nat):Int):=by rw [wrap_i64 (by omega) (by omega)];omega
  have w2:IntKind.i64.wrap ((i:Int) + (n:Int)) = ((i + n:Nat):Int):=by rw [wrap_i64 (by omega) (by omega)];omega
  by_cases h2:k + n < b.length
  ·have h2I:((k + n:Nat):Int) < (b.length:Int):=by omega
   have h3I:((i + n:Nat):Int) < (b.length:Int):=by omega
   have h3:i + n < b.length:=by omega
   obtain ⟨x,hx⟩:∃ x,b[i + n]? = some x:=⟨_,List.getElem?_eq_getElem h3⟩
   obtain ⟨y,hy⟩:∃ y,b[k + n]? = some y:=⟨_,List.getElem?_eq_getElem h2⟩
   rw [hx,hy]
   by_cases hxy:x = y
   ·subst hxy
    rw [show decide (n < 258∧k + n < b.length∧some x = some x) = true by simp [h1,h2]]
    generalize k + n = kn at *
    generalize i + n = n2 at *
    (refine ⟨0,?_⟩;simp (maxSteps:=2000000) -implicitDefEqProofs [-getElem?_pos,go_sem,eqV,ah,h1,h1I,w1,w2,h2,h2I,h3,h3I,hx,hy])
   ·rw [show decide (n < 258∧k + n < b.length∧some x = some y) = false by simp [hxy]]
    have hxI:¬ (x.toNat:Int) = (y.toNat:Int):=fun h=>hxy (UInt8.toNat_inj.1 (by omega))
    have hxN:¬ x.toNat = y.toNat:=fun h=>hxy (UInt8.toNat_inj.1 h)
    generalize k + n = kn at *
    generalize i + n = n2 at *
    (refine ⟨0,?_⟩;simp (maxSteps:=2000000) -implicitDefEqProofs [-getElem?_pos,go_sem,eqV,ah,h1,h1I,w1,w2,h2,h2I,h3,h3I,hx,hy,hxI,hxN])
  ·have h2I:¬ ((k + n:Nat):Int) < (b.length:Int):=by omega
   rw [show decide (n < 258∧k + n < b.length∧b[i + n]? = b[k + n]?) = false by simp [h2]]
   generalize k + n = kn at *
   (refine ⟨0,?_⟩;simp (maxSteps:=2000000) -implicitDefEqProofs [-getElem?_pos,go_sem,eqV,ah,h1,h1I,w1,w2,h2,h2I])
 ·have h1I:¬ (n:Int) < 258:=by omega
  rw [show decide (n < 258∧k + n < b.length∧b[i + n]? = b[k + n]?) = false by simp [h1]]
  (refine ⟨0,?_⟩;simp (maxSteps:=2000000) -implicitDefEqProofs [-getElem?_pos,go_sem,eqV,ah,h1,h1I])
theorem PL {i k n:Nat} (h:n < 258∧k + n < b.length∧b[i + n]? = b[k + n]?):eF b i k (258 - n) n = eF b i k (258 - (n + 1)) (n + 1):=by
 obtain ⟨f,hf⟩:∃ f,258 - n = f + 1:=⟨258 - (n + 1),by omega⟩
 rw [hf,eF,if_pos h,show 258 - (n + 1) = f by omega]
theorem Ud {i k n:Nat} (h:¬ (n < 258∧k + n < b.length∧b[i + n]? = b[k + n]?)):∀ f,eF b i k f n = n
 | 0=>rfl
 | f + 1=>by rw [eF,if_neg h]
theorem Ue {m i k:Nat} {E:AM.Heap} (hi:i < k) (hb:b.length≤100000) (hk:k≤100000):∃ code,Try.f48.body = some code ∧
  Run X (evT X) 48 m code [(0,.ro c (.pb b) 1),(1,.int .i64 (i:Nat)),(2,.int .i64 (k:Nat))] E ⟨.ret,[(6,.int .i64 (eF b i k 258 0:Nat))],E⟩:=by
 refine ⟨_,rfl,?_⟩
 suffices hT:aj (fun o=>o = ⟨.ret,[(6,.int .i64 (eF b i k 258 0:Nat))],E⟩) X (evT X) 48 m _ [(0,.ro c (.pb b) 1),(1,.int .i64 (i:Nat)),(2,.int .i64 (k:Nat))] E by
  obtain ⟨o,rfl,hr⟩:=hT
  exact hr
 apply aj.seq (fr':=[(0,.ro c (.pb b) 1),(1,.int .i64 (i:Nat)),(2,.int .i64 (k:Nat))]) (H':=E)
 ·(refine ⟨0,?_⟩;simp (maxSteps:=2000000) -implicitDefEqProofs [-getElem?_pos,go_sem,eqV,ah])
 apply aj.seq (fr':=CP c b i k 0) (H':=E)
 ·simp only [CP]
  (refine ⟨0,?_⟩;simp (maxSteps:=2000000) -implicitDefEqProofs [-getElem?_pos,go_sem,eqV,ah,ak])
 apply aj.andThen (P:=fun fr H=>fr = CP c b i k (eF b i k 258 0) ++ [(32,.bool false)]∧H = E)
 ·apply aj.block
  refine aj.loop (σ:=Nat) (fun n=>n≤258∧eF b i k (258 - n) n = eF b i k 258 0) (fun n=>CP c b i k n) (fun _=>E) (fun n=>258 - n) ?_ 0 ⟨by omega,rfl⟩
  rintro n ⟨hn,he⟩
  have h2:=acD (m:=m) (c:=c) (E:=E) hi hn hb hk
  by_cases hc:n < 258∧k + n < b.length∧b[i + n]? = b[k + n]?
  ·left
   refine ⟨n + 1,⟨by omega,by rw [← PL hc];exact he⟩,?_,by omega⟩
   rw [decide_eq_true hc] at h2
   apply Run.seq (fr':=CP c b i k n ++ [(32,.bool true)]) (H':=E)
   ·apply Run.seq (piece h2 _ rfl)
    refine Run.cond (d:=true) (by simp [CP,aF,au]) ⟨0,rfl⟩
   ·apply Run.block
    ·have w1:IntKind.i64.wrap ((n:Int) + 1) = ((n + 1:Nat):Int):=by rw [wrap_i64 (by omega) (by omega)];omega
     simp only [CP]
     (refine ⟨0,?_⟩;simp (maxSteps:=2000000) -implicitDefEqProofs [-getElem?_pos,go_sem,eqV,ah,w1,ak])
    ·simp
  ·right
   rw [decide_eq_false hc] at h2
   refine ⟨⟨.exit 0,CP c b i k n ++ [(32,.bool false)],E⟩,⟨rfl,by rw [← he,Ud hc],rfl⟩,by simp,?_⟩
   refine Run.bH ?_ (by simp)
   apply Run.seq (piece h2 _ rfl)
   refine Run.cond (d:=false) (by simp [CP,aF,au]) ⟨0,rfl⟩
 rintro fr H ⟨rfl,rfl⟩
 generalize eF b i k 258 0 = n at *
 refine aj.of (o:=⟨.ret,[(6,.int .i64 (n:Nat))],H⟩) ?_ rfl
 refine ⟨0,?_⟩
 simp only [CP]
 simp (maxSteps:=2000000) -implicitDefEqProofs [-getElem?_pos,go_sem,eqV,ah,ak]
theorem X6 {H:AM.Heap} {a:AV} {i k:Nat} (ha:dP H a = some (.pb b)) (hi:i < k) (hb:b.length≤100000) (hk:k≤100000):evT X 48 [a,.int .i64 (i:Nat),.int .i64 (k:Nat)] H = some (.int .i64 (eF b i k 258 0:Nat),H):=by
 have h3:=lH (C:=X) (f:=48) (i:=2) (a:=.int .i64 (k:Nat)) (H:=H) rfl rfl (fF 3)
 have h2:=lH (C:=X) (f:=48) (i:=1) (a:=.int .i64 (i:Nat)) (H:=H) rfl rfl h3
 obtain ⟨c,x,hx⟩:=fV (C:=X) (f:=48) (i:=0) rfl ha h2
 obtain ⟨code,hc,hr⟩:=Ue (m:=0) (c:=c) (b:=b) (E:=[]) hi hb hk
 refine dX (Ev1.wG (l:=[.int .i64 (eF b i k 258 0:Nat)]) (bU X) Try.func48 hc hx rfl (by simp [dG]) rfl rfl rfl ?_)
 rw [acE]
 exact ⟨_,⟨rfl,rfl⟩,hr⟩
end
end Go.Proofs.Ytcllinmgllmpmaa
namespace Go.Proofs.Ytcllinmgllmpmaa
open Go.AM
abbrev Pls:=List (List UInt8 × List Nat)
def bxN (v:AV) (τ:Nat):AM.Obj:=⟨.pc [v],0,some 1,1,false,true,τ⟩
def pmO (l:List AV) (τ:Nat):AM.Obj:=⟨.pm l,0,none,1,false,true,τ⟩
def iy (l:List Nat):AV:=.pi .i64 (l.map Int.ofNat)
def ntE:List (Nat × Nat)→Pls→List AV
 | x :: ex,y :: M=>.pc [.agg (.pb y.1),.sl x.1 0 y.2.length x.2] :: ntE ex M
 | _,_=>[]
def pid (d n:Nat):List (Nat × Nat):=(List.range n).map fun k=>(d + k,0)
theorem JI {d n k:Nat} (h:k < n):(pid d n)[k]? = some (d + k,0):=by
 unfold pid
 rw [List.getElem?_map,List.getElem?_range h];rfl
theorem rX (d n:Nat):(pid d n).length = n:=by simp [pid]
theorem Aq (d n:Nat):pid d (n + 1) = (d,0) :: pid (d + 1) n:=by
 refine List.ext_getElem? fun k=>?_
 cases k with
 | zero=>rw [JI (by omega)];rfl
 | succ k =>
  rw [List.getElem?_cons_succ]
  by_cases h:k < n
  ·rw [JI (by omega),JI h,show d + (k + 1) = d + 1 + k by omega]
  ·rw [List.getElem?_eq_none (by rw [rX];omega),List.getElem?_eq_none (by rw [rX];omega)]
theorem xX:∀ {ex:List (Nat × Nat)} {M:Pls},ex.length = M.length→(ntE ex M).length = M.length
 | [],[],_=>rfl
 | x :: ex,y :: M,h=>by simp [ntE,xX (ex:=ex) (M:=M) (by simpa using h)]
 | [],_ :: _,h=>by simp at h
 | _ :: _,[],h=>by simp at h
theorem Wx:∀ {ex:List (Nat × Nat)} {M:Pls} {j:Nat} {x:Nat × Nat} {y:List UInt8 × List Nat},ex[j]? = some x→M[j]? = some y→(ntE ex M)[j]? = some (.pc [.agg (.pb y.1),.sl x.1 0 y.2.length x.2])
 | [],_,_,_,_,h,_=>by simp at h
 | _ :: _,[],_,_,_,_,h=>by simp at h
 | a :: ex,c :: M,0,x,y,h,h2=>by
  simp at h h2
  subst h h2
  rfl
 | a :: ex,c :: M,j + 1,x,y,h,h2=>by
  simp only [ntE,List.getElem?_cons_succ]
  exact Wx (by simpa using h) (by simpa using h2)
theorem Rh:∀ {ex:List (Nat × Nat)} {M:Pls} {j:Nat} {x:Nat × Nat} {y:List UInt8 × List Nat},ex.length = M.length→(ntE ex M).set j (.pc [.agg (.pb y.1),.sl x.1 0 y.2.length x.2]) = ntE (ex.set j x) (M.set j y)
 | [],[],_,_,_,_=>rfl
 | _ :: _,[],_,_,_,h=>by simp at h
 | [],_ :: _,_,_,_,h=>by simp at h
 | a :: ex,c :: M,0,x,y,h=>rfl
 | a :: ex,c :: M,j + 1,x,y,h=>by
  simp only [ntE,List.set_cons_succ]
  rw [Rh (by simpa using h)]
theorem Ri:∀ {ex:List (Nat × Nat)} {M:Pls} {x:Nat × Nat} {y:List UInt8 × List Nat},ex.length = M.length→ntE ex M ++ [.pc [.agg (.pb y.1),.sl x.1 0 y.2.length x.2]] = ntE (ex ++ [x]) (M ++ [y])
 | [],[],_,_,_=>rfl
 | _ :: _,[],_,_,h=>by simp at h
 | [],_ :: _,_,_,h=>by simp at h
 | a :: ex,c :: M,x,y,h=>by
  simp only [ntE,List.cons_append]
  rw [Ri (by simpa using h)]
theorem Au:∀ {ex:List (Nat × Nat)} {M:Pls},ex.length = M.length→aA (ntE ex M) = ex.map Prod.fst
 | [],[],_=>rfl
 | _ :: _,[],h=>by simp at h
 | [],_ :: _,h=>by simp at h
 | a :: ex,c :: M,h=>by
  have:=Au (ex:=ex) (M:=M) (by simpa using h)
  simp [ntE,aA,ids,this]
theorem NJ:∀ {ex:List (Nat × Nat)} {M:Pls},aU (ntE ex M) = []
 | [],_=>by simp [ntE,aU]
 | _ :: _,[]=>rfl
 | a :: ex,c :: M=>by
  have:=NJ (ex:=ex) (M:=M)
  simp [ntE,aU,tags,this]
theorem JY {π:List (Nat × Nat)} {τ:Nat→Nat}:∀ {ex:List (Nat × Nat)} {M:Pls} {d:Nat},ex.length = M.length→(∀ k,k < M.length→π[d + k]? = ex[k]?)→bn (eP π) τ (ntE (pid d M.length) M) = ntE ex M
 | [],[],_,_,_=>rfl
 | _ :: _,[],_,h,_=>by simp at h
 | [],_ :: _,_,h,_=>by simp at h
 | a :: ex,c :: M,d,h,hk=>by
  rw [List.length_cons,Aq]
  simp only [ntE,bn,ren]
  have h0:=hk 0 (by simp)
  simp at h0
  have hr:eP π d 0 = some a:=by unfold eP;rw [h0]
  rw [hr]
  simp only
  rw [JY (ex:=ex) (M:=M) (d:=d + 1) (by simpa using h) (fun k hk2=>by
   have:=hk (k + 1) (by rw [List.length_cons];omega)
   rw [show d + 1 + k = d + (k + 1) by omega,this,List.getElem?_cons_succ])]
theorem Wy {x p:AV} (h:ren idN tz x = .agg p):∃ q,x = .agg q∧ren idN tz q = p:=by
 cases x <;> simp only [ren,idN,reduceCtorEq,AV.agg.injEq] at h
 exact ⟨_,rfl,h⟩
theorem Rj:∀ {ex:List (Nat × Nat)} {M:Pls} {l:List AV},bn idN tz l = ntE ex M→l = ntE ex M
 | [],M,l,h=>by simp only [ntE] at h ⊢;exact ql h
 | _ :: _,[],l,h=>by simp only [ntE] at h ⊢;exact ql h
 | a :: ex,c :: M,l,h=>by
  simp only [ntE] at h
  obtain ⟨x,l',rfl,h1,h2⟩:=fZ h
  obtain ⟨l1,rfl,h3⟩:=yL h1
  obtain ⟨y1,l2,rfl,h4,h5⟩:=fZ h3
  obtain ⟨y2,l3,rfl,h6,h7⟩:=fZ h5
  obtain rfl:=ql h7
  obtain ⟨q,rfl,h8⟩:=Wy h4
  obtain rfl:=JF h8
  obtain rfl:=Ez h6
  rw [Rj h2]
  rfl
theorem WA {ex:List (Nat × Nat)} {M:Pls}:bn idN tz (ntE ex M) = ntE ex M:=by
 induction ex generalizing M with
 | nil=>simp [ntE,bn]
 | cons a ex ih =>
  cases M with
  | nil=>rfl
  | cons c M=>simp [ntE,bn,ren,idN,ih]
def ntS (c:Nat) (b:List UInt8) (M:Pls):List AM.Obj:=[bxN (.ro c (.pb b) 0) 0,bxN (.map 2 0) 0,pmO (ntE (pid 3 M.length) M) 0] ++ (M.map fun y=>iy y.2).map rwF
structure NtV (c:Nat) (b:List UInt8) (t:Nat) (H:AM.Heap) (o1 o4 om:Nat) (ex:List (Nat × Nat)) (M:Pls):Prop where
 bx:∃ τ1 τ,(τ1 = 0∨τ1 = t)∧(τ = 0∨τ = t)∧H[o1]? = some (some (bxN (.ro c (.pb b) τ1) τ))
 mb:∃ τ,(τ = 0∨τ = t)∧H[o4]? = some (some (bxN (.map om 0) τ))
 mp:∃ τ,(τ = 0∨τ = t)∧H[om]? = some (some (pmO (ntE ex M) τ))
 rows:eu t H ex (M.map fun y=>iy y.2)
 nd:(o1 :: o4 :: om :: ex.map Prod.fst).Nodup
section
variable {c:Nat} {b:List UInt8} {t:Nat} {H:AM.Heap} {o1 o4 om:Nat} {ex:List (Nat × Nat)} {M:Pls} {π:List (Nat × Nat)}
theorem NtV.len (h:NtV c b t H o1 o4 om ex M):ex.length = M.length:=by have:=h.rows.len;simpa using this
theorem IB:∀ p ∈ M.map (fun y=>iy y.2),ids p = []∧tags p = []:=by
 intro p hp
 obtain ⟨y,_,rfl⟩:=List.mem_map.1 hp
 exact ⟨rfl,rfl⟩
theorem Y9 {π0:List (Nat × Nat)}:∀ {ex:List (Nat × Nat)} {ps:List AV},eu t H ex ps→(∀ p ∈ ps,ids p = []∧tags p = [])→JG t H π0 ex (ps.map rwF)
 | [],[],_,_=>trivial
 | x :: r,p :: ps,h,hf=>by
  obtain ⟨⟨τ,ob,h1,h2,h3⟩,h4⟩:=h
  obtain ⟨f1,f2⟩:=hf p (List.mem_cons_self ..)
  exact ⟨⟨ob,h2,Like.VN h3 f1 f2 h1⟩,Y9 h4 fun q hq=>hf q (List.mem_cons_of_mem _ hq)⟩
 | [],_ :: _,h,_=>h.elim
 | _ :: _,[],h,_=>h.elim
theorem NtV.img (h:NtV c b t H o1 o4 om ex M):Img t H ((o1,0) :: (o4,0) :: (om,0) :: ex) (ntS c b M):=by
 refine Img.ofL ?_ (by simpa using h.nd)
 obtain ⟨τ1,τ,a1,a2,h1⟩:=h.bx
 obtain ⟨τ2,b2,h2⟩:=h.mb
 obtain ⟨τ3,b3,h3⟩:=h.mp
 refine ⟨⟨_,h1,Like.jl ?_ a2 ?_⟩,⟨_,h2,Like.jl ?_ b2 ?_⟩,⟨_,h3,Like.jl ?_ b3 ?_⟩,Y9 h.rows IB⟩
 ·simp [ren,bn]
  rfl
 ·intro k hk
  simp [tags,aU] at hk
  rw [hk];exact a1
 ·simp [ren,bn,idN,eP]
 ·intro k hk
  simp [tags,aU] at hk
 ·simp only [ren]
  rw [WA,JY (d:=3) h.len (fun k hk=>by
   rw [show 3 + k = k + 1 + 1 + 1 by omega,List.getElem?_cons_succ,List.getElem?_cons_succ,List.getElem?_cons_succ])]
 ·intro k hk
  simp [tags,NJ] at hk
theorem NtV.nS (h:Img t H π (ntS c b M)):∃ o1 o4 om ex,π = (o1,0) :: (o4,0) :: (om,0) :: ex∧NtV c b t H o1 o4 om ex M:=by
 obtain ⟨o1,g1,ob1,p1,q1,r1⟩:=h.ob 0 _ rfl
 obtain ⟨o4,g4,ob4,p4,q4,r4⟩:=h.ob 1 _ rfl
 obtain ⟨om,gm,obm,pm,qm,rm⟩:=h.ob 2 _ rfl
 have hR:=Img.rows (S:=[bxN (.ro c (.pb b) 0) 0,bxN (.map 2 0) 0,pmO (ntE (pid 3 M.length) M) 0]) h IB
 have hnd:=h.nodup
 obtain ⟨rfl,pp,τ,rfl,hτ,hp,ht⟩:=Like.box r1
 obtain ⟨rfl,pp2,τ2,rfl,hτ2,hp2,ht2⟩:=Like.box r4
 obtain ⟨rfl,pp3,τ3,rfl,hτ3,hp3,ht3⟩:=Like.box rm
 have hπ:π = (o1,0) :: (o4,0) :: (om,0) :: π.drop 3:=by
  match π,p1,p4,pm with
  | a :: b :: c :: r,p1,p4,pm =>
   simp at p1 p4 pm
   subst p1 p4 pm
   rfl
  | [],p1,_,_=>simp at p1
  | [_],_,p4,_=>simp at p4
  | [_,_],_,_,pm=>simp at pm
 simp only [List.length_cons,List.length_nil] at hR
 generalize hex:π.drop 3 = ex at *
 subst hπ
 have hl:=hR.len
 refine ⟨o1,o4,om,ex,rfl,?_,?_,?_,hR,by simpa using hnd⟩
 ·simp only [ren,bn] at hp
  obtain ⟨l1,rfl,k1⟩:=yL hp
  obtain ⟨x,l2,rfl,e1,k2⟩:=fZ k1
  obtain rfl:=ql k2
  obtain ⟨τ1,rfl⟩:=yM e1
  exact ⟨τ1,τ,ht τ1 (by simp [tags,aU]),hτ,q1⟩
 ·simp only [ren,bn,eP] at hp2
  obtain ⟨l1,rfl,k1⟩:=yL hp2
  obtain ⟨x,l2,rfl,e1,k2⟩:=fZ k1
  obtain rfl:=ql k2
  simp only [List.getElem?_cons_succ,List.getElem?_cons_zero] at e1
  obtain rfl:=X0 e1
  exact ⟨τ2,hτ2,q4⟩
 ·simp only [ren] at hp3
  rw [JY (ex:=ex) (d:=3) (by simpa using hl) (fun k hk=>by
   rw [show 3 + k = k + 1 + 1 + 1 by omega,List.getElem?_cons_succ,List.getElem?_cons_succ,List.getElem?_cons_succ])] at hp3
  obtain ⟨l1,rfl,k1⟩:=Z4 hp3
  rw [Rj k1] at qm
  exact ⟨τ3,hτ3,qm⟩
end
end Go.Proofs.Ytcllinmgllmpmaa
namespace Go.Proofs.Ytcllinmgllmpmaa
open Go.AM
def zf (k:List UInt8):Pls→Nat→Option Nat
 | [],_=>none
 | y :: M,j=>if y.1 = k then some j else zf k M (j + 1)
def ntM (M:Pls) (k:List UInt8) (i:Nat):Pls:=match zf k M 0 with
 | some j=>M.set j (k,(M.getD j ([],[])).2 ++ [i])
 | none=>M ++ [(k,[i])]
def pF (b:List UInt8) (i:Nat):List UInt8:=(b.drop i).take 3
def ntB (b:List UInt8) (M:Pls) (i:Nat):Pls:=if i + 3≤b.length then ntM M (pF b i) i else M
theorem Az:∀ {M:Pls} {k:List UInt8} {j0 j:Nat},zf k M j0 = some j→j0≤j∧∃ l,M[j - j0]? = some (k,l)
 | [],_,_,_,h=>by cases h
 | y :: M,k,j0,j,h=>by
  unfold zf at h
  split at h
  ·rename_i hk
   cases h
   subst hk
   exact ⟨Nat.le_refl _,y.2,by simp⟩
  ·obtain ⟨h1,l,h2⟩:=Az h
   refine ⟨by omega,l,?_⟩
   rw [show j - j0 = (j - (j0 + 1)) + 1 by omega,List.getElem?_cons_succ]
   exact h2
theorem nZ:∀ {ex:List (Nat × Nat)} {M:Pls} {k:List UInt8} {j0 j:Nat},ex.length = M.length→(∀ y ∈ M,y.1.length = k.length)→zf k M j0 = some j→∃ x l,ex[j - j0]? = some x∧M[j - j0]? = some (k,l)∧pO (.agg (.pb k)) (ntE ex M) j0 = some (some (j,.sl x.1 0 l.length x.2))
 | _,[],_,_,_,_,_,h=>by cases h
 | [],_ :: _,_,_,_,hl,_,_=>by simp at hl
 | x :: ex,y :: M,k,j0,j,hl,hk,h=>by
  have hy:=hk y (List.mem_cons_self ..)
  unfold zf at h
  simp only [ntE,pO,nJ]
  rw [if_pos (by rw [hy])]
  split at h
  ·rename_i he
   cases h
   subst he
   exact ⟨x,y.2,by simp,by simp,by simp⟩
  ·rename_i he
   obtain ⟨x2,l,h1,h2,h3⟩:=nZ (ex:=ex) (M:=M) (by simpa using hl) (fun z hz=>hk z (List.mem_cons_of_mem _ hz)) h
   have hj:=(Az h).1
   refine ⟨x2,l,by rw [show j - j0 = (j - (j0 + 1)) + 1 by omega,List.getElem?_cons_succ];exact h1,by rw [show j - j0 = (j - (j0 + 1)) + 1 by omega,List.getElem?_cons_succ];exact h2,?_⟩
   have hb:(k == y.1) = false:=by simpa using fun e=>he e.symm
   rw [hb]
   exact h3
theorem lS:∀ {ex:List (Nat × Nat)} {M:Pls} {k:List UInt8} {j0:Nat},ex.length = M.length→(∀ y ∈ M,y.1.length = k.length)→zf k M j0 = none→pO (.agg (.pb k)) (ntE ex M) j0 = some none
 | [],[],_,_,_,_,_=>rfl
 | _ :: _,[],_,_,hl,_,_=>by simp at hl
 | [],_ :: _,_,_,hl,_,_=>by simp at hl
 | x :: ex,y :: M,k,j0,hl,hk,h=>by
  have hy:=hk y (List.mem_cons_self ..)
  unfold zf at h
  split at h
  ·cases h
  ·rename_i he
   simp only [ntE,pO,nJ]
   rw [if_pos (by rw [hy])]
   have hb:(k == y.1) = false:=by simpa using fun e=>he e.symm
   rw [hb]
   exact lS (by simpa using hl) (fun z hz=>hk z (List.mem_cons_of_mem _ hz)) h
theorem key_eq {b:List UInt8} {i:Nat} {x y z:UInt8} (hx:b[i]? = some x) (hy:b[i + 1]? = some y) (hz:b[i + 2]? = some z):pF b i = [x,y,z]:=by
 unfold pF
 have h2:i + 2 < b.length:=(List.getElem?_eq_some_iff.1 hz).1
 rw [List.drop_eq_getElem_cons (by omega),List.drop_eq_getElem_cons (by omega),List.drop_eq_getElem_cons (by omega)]
 rw [List.getElem?_eq_getElem (by omega)] at hx hy hz
 simp only [List.take_succ_cons,List.take_zero]
 rw [Option.some.inj hx,Option.some.inj hy,Option.some.inj hz]
def keO (k:List UInt8):AM.Obj:=⟨.pb k,0,some 3,1,false,false,0⟩
section
variable {c:Nat} {b:List UInt8} {t:Nat} {H:AM.Heap} {o1 o4 om:Nat} {ex:List (Nat × Nat)} {M:Pls}
theorem acF {m i:Nat} {E:AM.Heap} (h:NtV c b t E 0 1 2 ex M) (hi:i≤100000) (hb:b.length≤100000):∃ code,((Try.f47.body).bind (aI [0])) = some code∧Run X (evT X) 47 m code [(0,.int .i64 (i:Nat)),(1,.ptr 0 0 0 0),(2,.ptr 1 0 0 0)] E ⟨.normal,[(0,.int .i64 (i:Nat)),(1,.ptr 0 0 0 0),(2,.ptr 1 0 0 0),(9,.bool (decide (i + 3≤b.length)))],E⟩:=by
 refine ⟨_,rfl,?_⟩
 obtain ⟨τ1,τ,_,_,h1⟩:=h.bx
 simp only [bxN] at h1
 have w1:IntKind.i64.wrap ((i:Int) + 3) = ((i + 3:Nat):Int):=by rw [wrap_i64 (by omega) (by omega)];omega
 by_cases hl:i + 3≤b.length
 ·have hlI:((i + 3:Nat):Int)≤(b.length:Int):=by omega
  rw [decide_eq_true hl]
  generalize i + 3 = i3 at *
  (refine ⟨0,?_⟩;simp (maxSteps:=2000000) -implicitDefEqProofs [-getElem?_pos,go_sem,eqV,ah,h1,w1,hl,hlI])
 ·have hlI:¬ ((i + 3:Nat):Int)≤(b.length:Int):=by omega
  rw [decide_eq_false hl]
  generalize i + 3 = i3 at *
  (refine ⟨0,?_⟩;simp (maxSteps:=2000000) -implicitDefEqProofs [-getElem?_pos,go_sem,eqV,ah,h1,w1,hl,hlI])
theorem VT (x y z:UInt8):mO X 73 [(0,.int .u8 (x.toNat:Nat)),(1,.int .u8 (y.toNat:Nat)),(2,.int .u8 (z.toNat:Nat))] = some (.agg (.pb [x,y,z])):=by
 have hx:=x.toNat_lt;have hy:=y.toNat_lt;have hz:=z.toNat_lt
 have h:∀ u v w:Int,mO X 73 [(0,.int .u8 u),(1,.int .u8 v),(2,.int .u8 w)] = ((jO [.int .u8 u,.int .u8 v,.int .u8 w]).map .pb).map .agg:=by
  intro u v w
  kernel_rfl
 rw [h]
 have a1:(x.toNat:Int) < 256:=by omega
 have a2:(y.toNat:Int) < 256:=by omega
 have a3:(z.toNat:Int) < 256:=by omega
 simp [jO,a1,a2,a3]
theorem acG {m i:Nat} {E:AM.Heap} (h:NtV c b t E 0 1 2 ex M) (hi:i + 3≤b.length) (hb:b.length≤100000):∃ code,((Try.f47.body).bind (aI [1,0,0])) = some code∧Run X (evT X) 47 m code [(0,.int .i64 (i:Nat)),(1,.ptr 0 0 0 0),(2,.ptr 1 0 0 0),(9,.bool true)] E ⟨.normal,[(0,.int .i64 (i:Nat)),(2,.ptr 1 0 0 0),(4,.ptr E.length 0 0 0)],E ++ [some (keO (pF b i))]⟩:=by
 refine ⟨_,rfl,?_⟩
 obtain ⟨τ1,τ,_,_,h1⟩:=h.bx
 simp only [bxN] at h1
 have hE:=eY h1
 have hE2:¬ E.length = 0:=by omega
 have h1':(E ++ [some (keO [0,0,0])])[0]? = E[0]?:=List.getElem?_append_left hE
 obtain ⟨x,hx⟩:∃ x,b[i]? = some x:=⟨_,List.getElem?_eq_getElem (by omega)⟩
 obtain ⟨y,hy⟩:∃ x,b[i + 1]? = some x:=⟨_,List.getElem?_eq_getElem (by omega)⟩
 obtain ⟨z,hz⟩:∃ x,b[i + 2]? = some x:=⟨_,List.getElem?_eq_getElem (by omega)⟩
 rw [key_eq hx hy hz]
 have w1:IntKind.i64.wrap ((i:Int) + 1) = ((i + 1:Nat):Int):=by rw [wrap_i64 (by omega) (by omega)];omega
 have w2:IntKind.i64.wrap ((i:Int) + 2) = ((i + 2:Nat):Int):=by rw [wrap_i64 (by omega) (by omega)];omega
 have l0:i < b.length:=by omega
 have l1:i + 1 < b.length:=by omega
 have l2:i + 2 < b.length:=by omega
 have l0I:(i:Int) < (b.length:Int):=by omega
 have l1I:((i + 1:Nat):Int) < (b.length:Int):=by omega
 have l2I:((i + 2:Nat):Int) < (b.length:Int):=by omega
 simp only [keO]
 generalize i + 1 = i1 at *
 generalize i + 2 = i2 at *
 apply Run.dy (by simp) WB (by simp)
 ·(conv=>lhs;simp (maxSteps:=2000000) -implicitDefEqProofs [-getElem?_pos,go_sem,eqV,ah,jS,out1,bP,lD,jA,pushes,jE,ig,touched,mentioned,iR,fD,bZ,lF,Op.operands,ids,aA,aG,dS,dN,gI,jV,h1,hx,hy,hz,w1,w2,l0,l1,l2,l0I,l1I,l2I,VT,yO,uM,iT])
 ·refine jC (ps:=[(0,1),(0,4),(1,4),(2,4),(3,4),(0,5),(1,5),(2,5),(3,5),(4,5),(0,6),(1,6),(2,6),(3,6),(4,6),(0,7),(1,7),(2,7),(3,7),(0,8),(1,8),(2,8),(3,8),(0,9),(1,9),(2,9),(3,9),(4,9),(5,9),(6,9),(7,9),(8,9),(0,10),(1,10),(2,10),(3,10),(4,10),(5,10),(6,10),(7,10),(8,10),(9,10),(0,11),(1,11),(2,11),(3,11),(4,11),(5,11),(6,11),(7,11),(8,11),(9,11),(0,12),(1,12),(2,12),(3,12),(4,12),(5,12),(6,12),(7,12),(8,12),(0,13),(1,13),(2,13),(3,13),(4,13),(5,13),(6,13),(7,13),(8,13),(0,15),(1,15),(2,15),(3,15),(4,15),(5,15),(6,15),(7,15),(8,15),(9,15),(10,15),(11,15),(12,15),(13,15),(14,15)]) (by kernel_rfl) ?_
  simp [vH,bear,disjoint,kX,Call.operands,aF,au,aA,ids,iT,hE,hE2]
 ·rfl
end
end Go.Proofs.Ytcllinmgllmpmaa
namespace Go.Proofs.Ytcllinmgllmpmaa
open Go.AM
theorem bsN (H:AM.Heap) (x:Int):dA X H 56 1 [(0,.int .i64 x)] = some (.ro 1 (.pi .i64 [x]) 0,H):=by kernel_rfl
theorem abV (x y z:UInt8):uT X 72 (.agg (.pb [x,y,z])) = true:=by kernel_rfl
theorem Y3:bg X (nI X 72) = .ro 0 .pn 0:=by kernel_rfl
theorem Ym {H:AM.Heap} {o g t:Nat} {ob:AM.Obj} {l:List Nat} {y:Nat} (ho:H[o]? = some (some ob)) (h:RwT (iy l) g t ob) (hn:l.length≤10000000) :
  ∃ ob',RwT (iy (l ++ [y])) (g + 1) t ob'∧dw X H 56 (.sl o 0 l.length g) (.ro 1 (.pi .i64 [(y:Int)]) 0) = some (.sl o 0 (l.length + 1) (g + 1),upd H o (some ob')):=by
 have hlive:live H o g = some ob:=by simp [live,ho,h.g]
 have hroom:fP X 3 (l.length + 1) = true:=by simp [fP];omega
 have hj:eX t 0 = some t:=by
  unfold eX
  by_cases h0:t = 0
  ·rw [if_pos h0,h0]
  ·rw [if_neg h0,if_pos (.inl rfl)]
 have hsrc:lV H (.ro 1 (.pi .i64 [(y:Int)]) 0) = some (.pi .i64 [(y:Int)],0):=by simp [lV,pI,rD]
 have hp:ob.p = .pi .i64 (l.map Int.ofNat):=h.p
 refine ⟨{ ob with p:=iy (l ++ [y]),g:=g + 1,cap:=(match ob.cap with | some c=>if 0 + l.length + AM.ah (.pi .i64 [(y:Int)])≤c then some (c - 0) else none | none=>none),z:=(if AM.ah ob.p = 0 then ob.z else 1),tg:=t },⟨rfl,rfl,h.row,h.ids,rfl⟩,?_⟩
 unfold dw
 simp only [Hq,size3,SB,hsrc,hlive,h.row,h.ids,hp,h.tg]
 simp only [show ¬ ((1:Nat) = 0∨true = false) by simp,if_false]
 have hc:True∧True∧0 + l.length = AM.ah (.pi .i64 (l.map Int.ofNat))∧aN (.pi .i64 (l.map Int.ofNat)) = 1∧fP X 3 (l.length + AM.ah (.pi .i64 [(y:Int)])) = true:=⟨trivial,trivial,by simp [AM.ah],rfl,by simpa [AM.ah] using hroom⟩
 rw [if_pos hc]
 have hs:jd (.pi .i64 (l.map Int.ofNat)) 0 l.length = some (.pi .i64 (l.map Int.ofNat)):=by
  simp [jd]
  exact List.take_of_length_le (by simp)
 simp only [hs,rE,hj,aN]
 simp [AM.ah,iy]
 rfl
theorem Yn (H:AM.Heap) (y:Nat):dw X H 56 (.ro 0 .pn 0) (.ro 1 (.pi .i64 [(y:Int)]) 0) = some (.sl H.length 0 1 0,H ++ [some ⟨iy [y],0,none,0,true,false,0⟩]):=by
 simp only [dw,Hq,size3,SB]
 simp [lV,pI,ah,rD,fP,rE,bT,aN,iy]
section
variable {c:Nat} {b:List UInt8} {t:Nat} {H:AM.Heap} {ex:List (Nat × Nat)} {M:Pls}
def acH (i p:Nat):AM.Frame:=[(0,.int .i64 (i:Nat)),(2,.ptr 1 0 0 0),(4,.ptr p 0 0 0)]
theorem Za {m i p k:Nat} {v0 v1:AV} {E E1 E2 E3:AM.Heap} {τ:Nat} {key:List UInt8} (h4:E[1]? = some (some (bxN (.map 2 0) τ))) (hp:E[p]? = some (some (keO key))) (hk:key.length = 3)
  (hE:sG X E 72 (.map 2 0) (.agg (.pb key)) = some (.tup [v0,.int .i64 (k:Nat)],E1)) (hA:dw X E1 56 v0 (.ro 1 (.pi .i64 [(i:Int)]) 0) = some (v1,E2)) (hS:gU E2 (.map 2 0) (.int .i64 (k:Nat)) v1 = some E3) :
  ∃ code,((Try.f47.body).bind (aI [1,0,1])) = some code∧Run X (evT X) 47 m code (acH i p) E ⟨.normal,[],E3⟩:=by
 refine ⟨_,rfl,?_⟩
 simp only [bxN] at h4
 simp only [keO] at hp
 simp only [acH]
 (refine ⟨0,?_⟩;simp (maxSteps:=2000000) -implicitDefEqProofs [-getElem?_pos,go_sem,eqV,ah,h4,hp,hk,hE,hA,hS,bsN])
theorem NtV.keep {H':AM.Heap} {o1 o4 om:Nat} (h:NtV c b t H o1 o4 om ex M) (k1:H'[o1]? = H[o1]?) (k4:H'[o4]? = H[o4]?) (km:H'[om]? = H[om]?) (kr:∀ x ∈ ex,H'[x.1]? = H[x.1]?):NtV c b t H' o1 o4 om ex M:=by
 obtain ⟨τ1,τ,a1,a2,h1⟩:=h.bx
 obtain ⟨τ2,b2,h2⟩:=h.mb
 obtain ⟨τ3,b3,h3⟩:=h.mp
 exact ⟨⟨τ1,τ,a1,a2,by rw [k1];exact h1⟩,⟨τ2,b2,by rw [k4];exact h2⟩,⟨τ3,b3,by rw [km];exact h3⟩,h.rows.keep kr,h.nd⟩
theorem NtV.lt {o1 o4 om:Nat} (h:NtV c b t H o1 o4 om ex M):o1 < H.length∧o4 < H.length∧om < H.length∧∀ x ∈ ex,x.1 < H.length:=by
 obtain ⟨τ1,τ,a1,a2,h1⟩:=h.bx
 obtain ⟨τ2,b2,h2⟩:=h.mb
 obtain ⟨τ3,b3,h3⟩:=h.mp
 exact ⟨eY h1,eY h2,eY h3,h.rows.lt⟩
theorem NtV.cat {o1 o4 om:Nat} (r:AM.Heap) (h:NtV c b t H o1 o4 om ex M):NtV c b t (H ++ r) o1 o4 om ex M:=by
 obtain ⟨l1,l2,l3,l4⟩:=h.lt
 exact h.keep (List.getElem?_append_left l1) (List.getElem?_append_left l2) (List.getElem?_append_left l3) fun x hx=>List.getElem?_append_left (l4 x hx)
theorem QY {M:Pls} {k:List UInt8} {i j:Nat} {l:List Nat} (h:zf k M 0 = some j) (hl:M[j]? = some (k,l)):ntM M k i = M.set j (k,l ++ [i]):=by
 unfold ntM
 rw [h]
 simp only
 rw [List.getD_eq_getElem?_getD,hl]
 rfl
theorem QX {M:Pls} {k:List UInt8} {i:Nat} (h:zf k M 0 = none):ntM M k i = M ++ [(k,[i])]:=by
 unfold ntM
 rw [h]
theorem eu.setAt {ps:List AV} {j o g τ:Nat} {p:AV} {ob:AM.Obj} {H':AM.Heap} (h:eu t H ex ps) (hn:(ex.map Prod.fst).Nodup) (hj:∃ g0,ex[j]? = some (o,g0)) (hk:∀ x ∈ ex,x.1 ≠ o→H'[x.1]? = H[x.1]?) (ho:H'[o]? = some (some ob)) (hτ:τ = 0∨τ = t) (hw:RwT p g τ ob):eu t H' (ex.set j (o,g)) (ps.set j p):=by
 obtain ⟨g0,hj⟩:=hj
 have hjl:=eY hj
 refine eu.of (by simpa using h.len) ?_
 intro k q hq
 by_cases hkj:j = k
 ·subst hkj
  rw [List.getElem?_set] at hq
  simp only [if_true] at hq
  split at hq
  ·cases hq
   exact ⟨o,g,τ,ob,by rw [List.getElem?_set_self hjl],hτ,ho,hw⟩
  ·cases hq
 ·rw [List.getElem?_set_ne hkj] at hq
  obtain ⟨o2,g2,τ2,ob2,h1,h2,h3,h4⟩:=h.at' k q hq
  refine ⟨o2,g2,τ2,ob2,by rw [List.getElem?_set_ne hkj];exact h1,h2,?_,h4⟩
  have hne:o2 ≠ o:=by
   intro e
   subst e
   have e1:=Img.sW h1
   have e2:=Img.sW hj
   obtain ⟨l1,e1⟩:=List.getElem?_eq_some_iff.1 e1
   obtain ⟨l2,e2⟩:=List.getElem?_eq_some_iff.1 e2
   exact hkj ((List.getElem_inj hn).1 (e2.trans e1.symm))
  rw [hk (o2,g2) (List.mem_of_getElem? h1) hne]
  exact h3
theorem eu.app:∀ {ex:List (Nat × Nat)} {ps:List AV} {o g τ:Nat} {p:AV} {ob:AM.Obj},eu t H ex ps→(τ = 0∨τ = t)→H[o]? = some (some ob)→RwT p g τ ob→eu t H (ex ++ [(o,g)]) (ps ++ [p])
 | [],[],_,_,τ,_,ob,_,hτ,ho,hw=>⟨⟨τ,ob,hτ,ho,hw⟩,trivial⟩
 | x :: r,q :: ps,_,_,_,_,_,h,hτ,ho,hw=>⟨h.1,eu.app h.2 hτ ho hw⟩
 | [],_ :: _,_,_,_,_,_,h,_,_,_=>h.elim
 | _ :: _,[],_,_,_,_,_,h,_,_,_=>h.elim
theorem Yo {j o g0 g:Nat} (hj:ex[j]? = some (o,g0)):(ex.set j (o,g)).map Prod.fst = ex.map Prod.fst:=by
 refine List.ext_getElem? fun k=>?_
 rw [List.getElem?_map,List.getElem?_map]
 by_cases hkj:j = k
 ·subst hkj
  rw [List.getElem?_set_self (eY hj),hj];rfl
 ·rw [List.getElem?_set_ne hkj]
theorem TI {m i:Nat} {E:AM.Heap} (h:NtV c b t E 0 1 2 ex M) (hi:i≤100000) (hb:b.length≤100000) (hk:∀ y ∈ M,y.1.length = 3∧y.2.length≤1000000):∃ code,Try.f47.body = some code ∧
  aj (kE fun fr E'=>∃ ex',NtV c b t E' 0 1 2 ex' (ntB b M i)∧(∀ (k:Nat) (x:Nat × Nat),ex[k]? = some x→∃ g,ex'[k]? = some (x.1,g))∧(∀ k x,ex.length≤k→ex'[k]? = some x→E.length≤x.1)) X (evT X) 47 m code [(0,.int .i64 (i:Nat)),(1,.ptr 0 0 0 0),(2,.ptr 1 0 0 0)] E:=by
 refine ⟨_,rfl,?_⟩
 apply aj.seq (piece (acF h hi hb) _ rfl)
 unfold ntB
 by_cases hl:i + 3≤b.length
 ·rw [decide_eq_true hl,if_pos hl]
  refine aj.yt (by simp [aF,au]) ?_
  apply aj.seq (piece (acG h hl hb) _ rfl)
  obtain ⟨x,hx⟩:∃ x,b[i]? = some x:=⟨_,List.getElem?_eq_getElem (by omega)⟩
  obtain ⟨y,hy⟩:∃ x,b[i + 1]? = some x:=⟨_,List.getElem?_eq_getElem (by omega)⟩
  obtain ⟨z,hz⟩:∃ x,b[i + 2]? = some x:=⟨_,List.getElem?_eq_getElem (by omega)⟩
  have hkey:=key_eq hx hy hz
  have hkl:(pF b i).length = 3:=by rw [hkey];rfl
  have hfit:uT X 72 (.agg (.pb (pF b i))) = true:=by rw [hkey];exact abV x y z
  generalize pF b i = key at *
  have hE0:=h.cat [some (keO key)]
  have hp0:(E ++ [some (keO key)])[E.length]? = some (some (keO key)):=by simp
  have hEl:(E ++ [some (keO key)]).length = E.length + 1:=by simp
  generalize E ++ [some (keO key)] = E0 at *
  obtain ⟨τ2,b2,h2⟩:=hE0.mb
  obtain ⟨τ3,b3,h3⟩:=hE0.mp
  have hlen:=hE0.len
  have hnd:=hE0.nd
  have hnd':(ex.map Prod.fst).Nodup:=by simp at hnd;exact hnd.2.2.2
  have hne2:∀ x ∈ ex,x.1 ≠ 2∧x.1 ≠ 0∧x.1 ≠ 1:=by
   intro x hx
   have hm:x.1 ∈ ex.map Prod.fst:=List.mem_map.2 ⟨x,hx,rfl⟩
   refine ⟨?_,?_,?_⟩ <;> (intro e;rw [e] at hm;simp at hnd hm;simp_all)
  have hlive:live E0 2 0 = some (pmO (ntE ex M) τ3):=by simp [live,h3,pmO]
  obtain ⟨l1,l2,l3,l4⟩:=hE0.lt
  cases hidx:zf key M 0 with
  | some j =>
   obtain ⟨⟨o,g⟩,l,f1,f2,f3⟩:=nZ (ex:=ex) hlen (fun y hy=>by rw [(hk y hy).1,hkl]) hidx
   simp only [Nat.sub_zero] at f1 f2
   have hE1:sG X E0 72 (.map 2 0) (.agg (.pb key)) = some (.tup [.sl o 0 l.length g,.int .i64 (j:Nat)],E0):=by
    unfold sG
    rw [hfit]
    simp only [Bool.true_eq_false,if_false,hlive,pmO]
    rw [f3]
   obtain ⟨o',g',τ,ob,r1,r2,r3,r4⟩:=hE0.rows.at' j (iy l) (by rw [List.getElem?_map,f2];rfl)
   rw [f1] at r1
   obtain ⟨rfl,rfl⟩:o = o'∧g = g':=by simpa using r1
   obtain ⟨ob',w1,w2⟩:=Ym (y:=i) r3 r4 (by have:=(hk _ (List.mem_of_getElem? f2)).2;simp only at this;omega)
   obtain ⟨q2,q0,q1⟩:=hne2 (o,g) (List.mem_of_getElem? f1)
   simp only at q2 q0 q1
   have hm3:(upd E0 o (some ob'))[2]? = some (some (pmO (ntE ex M) τ3)):=wB h3 q2
   have PN:live (upd E0 o (some ob')) 2 0 = some (pmO (ntE ex M) τ3):=by simp [live,hm3,pmO]
   have hent:=Wx f1 f2
   have hS:gU (upd E0 o (some ob')) (.map 2 0) (.int .i64 (j:Nat)) (.sl o 0 (l.length + 1) (g + 1)) = some (upd (upd E0 o (some ob')) 2 (some (pmO (ntE (ex.set j (o,g + 1)) (M.set j (key,l ++ [i]))) τ3))):=by
    unfold gU
    simp only [nD,Bool.true_eq_false,if_false,PN,pmO]
    rw [if_pos (by omega),Int.toNat_natCast,hent]
    simp only
    rw [← Rh (x:=(o,g + 1)) (y:=(key,l ++ [i])) hlen]
    simp
   refine aj.of (o:=⟨.normal,[],_⟩) (piece (Za h2 hp0 hkl hE1 w2 hS) _ rfl) ⟨.inl rfl,ex.set j (o,g + 1),?_,?_,?_⟩
   ·rw [QY hidx f2]
    obtain ⟨τ1,τ0,a1,a2,h1⟩:=hE0.bx
    refine ⟨⟨τ1,τ0,a1,a2,wB (wB h1 q0) (by omega)⟩,⟨τ2,b2,wB (wB h2 q1) (by omega)⟩,⟨τ3,b3,setAt hm3⟩,?_,?_⟩
    ·rw [List.map_set]
     refine eu.setAt hE0.rows hnd' ⟨g,f1⟩ (fun x hx hxo=>?_) (wB (setAt r3) (Ne.symm q2)) r2 w1
     unfold upd
     rw [List.getElem?_set_ne (Ne.symm (hne2 x hx).1),List.getElem?_set_ne (Ne.symm hxo)]
    ·rw [Yo f1]
     exact hnd
   ·intro k x hx
    by_cases hjk:j = k
    ·subst hjk
     rw [f1] at hx
     cases hx
     exact ⟨g + 1,List.getElem?_set_self (eY f1)⟩
    ·exact ⟨x.2,by rw [List.getElem?_set_ne hjk];exact hx⟩
   ·intro k x h1 h2
    have:=eY h2
    rw [List.length_set] at this
    omega
  | none =>
   have f3:=lS (ex:=ex) hlen (fun y hy=>by rw [(hk y hy).1,hkl]) hidx
   have hE1:sG X E0 72 (.map 2 0) (.agg (.pb key)) = some (.tup [.ro 0 .pn 0,.int .i64 (M.length:Nat)],upd E0 2 (some (pmO (ntE ex M ++ [.pc [.agg (.pb key),.ro 0 .pn 0]]) τ3))):=by
    unfold sG
    rw [hfit]
    simp only [Bool.true_eq_false,if_false,hlive,pmO]
    rw [f3]
    simp only [Y3,xX hlen]
   have hA:=Yn (upd E0 2 (some (pmO (ntE ex M ++ [.pc [.agg (.pb key),.ro 0 .pn 0]]) τ3))) i
   have hul:(upd E0 2 (some (pmO (ntE ex M ++ [.pc [.agg (.pb key),.ro 0 .pn 0]]) τ3))).length = E0.length:=by simp [upd]
   have hu2:(upd E0 2 (some (pmO (ntE ex M ++ [.pc [.agg (.pb key),.ro 0 .pn 0]]) τ3)))[2]? = some (some (pmO (ntE ex M ++ [.pc [.agg (.pb key),.ro 0 .pn 0]]) τ3)):=setAt h3
   rw [hul] at hA
   have hu:∀ j,j ≠ 2→(upd E0 2 (some (pmO (ntE ex M ++ [.pc [.agg (.pb key),.ro 0 .pn 0]]) τ3)))[j]? = E0[j]?:=fun j hj=>by unfold upd;rw [List.getElem?_set_ne (Ne.symm hj)]
   generalize upd E0 2 (some (pmO (ntE ex M ++ [.pc [.agg (.pb key),.ro 0 .pn 0]]) τ3)) = E1 at *
   have hm3:(E1 ++ [some (⟨iy [i],0,none,0,true,false,0⟩:AM.Obj)])[2]? = some (some (pmO (ntE ex M ++ [.pc [.agg (.pb key),.ro 0 .pn 0]]) τ3)):=by rw [List.getElem?_append_left (by omega)];exact hu2
   have PN:live (E1 ++ [some (⟨iy [i],0,none,0,true,false,0⟩:AM.Obj)]) 2 0 = some (pmO (ntE ex M ++ [.pc [.agg (.pb key),.ro 0 .pn 0]]) τ3):=by simp only [live,hm3,pmO,if_true]
   have hent:(ntE ex M ++ [AV.pc [.agg (.pb key),.ro 0 .pn 0]])[M.length]? = some (.pc [.agg (.pb key),.ro 0 .pn 0]):=by
    rw [List.getElem?_append_right (by rw [xX hlen];omega),xX hlen,Nat.sub_self];rfl
   have hset:(ntE ex M ++ [AV.pc [.agg (.pb key),.ro 0 .pn 0]]).set M.length (.pc [.agg (.pb key),.sl E0.length 0 1 0]) = ntE (ex ++ [(E0.length,0)]) (M ++ [(key,[i])]):=by
    rw [← Ri (x:=(E0.length,0)) (y:=(key,[i])) hlen,List.set_append_right _ _ (by rw [xX hlen];omega),xX hlen,Nat.sub_self]
    rfl
   have hS:gU (E1 ++ [some (⟨iy [i],0,none,0,true,false,0⟩:AM.Obj)]) (.map 2 0) (.int .i64 (M.length:Nat)) (.sl E0.length 0 1 0) = some (upd (E1 ++ [some (⟨iy [i],0,none,0,true,false,0⟩:AM.Obj)]) 2 (some (pmO (ntE (ex ++ [(E0.length,0)]) (M ++ [(key,[i])])) τ3))):=by
    unfold gU
    simp only [nD,Bool.true_eq_false,if_false,PN,pmO]
    rw [if_pos (by omega),Int.toNat_natCast,hent]
    simp only
    rw [hset]
   refine aj.of (o:=⟨.normal,[],_⟩) (piece (Za h2 hp0 hkl hE1 hA hS) _ rfl) ⟨.inl rfl,ex ++ [(E0.length,0)],?_,?_,?_⟩
   ·rw [QX hidx]
    obtain ⟨τ1,τ0,a1,a2,h1⟩:=hE0.bx
    have hold:∀ j,j ≠ 2→j < E0.length→(upd (E1 ++ [some (⟨iy [i],0,none,0,true,false,0⟩:AM.Obj)]) 2 (some (pmO (ntE (ex ++ [(E0.length,0)]) (M ++ [(key,[i])])) τ3)))[j]? = E0[j]?:=fun j hj hjl=>by
     unfold upd
     rw [List.getElem?_set_ne (Ne.symm hj),List.getElem?_append_left (by omega),hu j hj]
    have acI:(upd (E1 ++ [some (⟨iy [i],0,none,0,true,false,0⟩:AM.Obj)]) 2 (some (pmO (ntE (ex ++ [(E0.length,0)]) (M ++ [(key,[i])])) τ3)))[E0.length]? = some (some ⟨iy [i],0,none,0,true,false,0⟩):=by
     unfold upd
     rw [List.getElem?_set_ne (by omega),List.getElem?_append_right (by omega),hul,Nat.sub_self]
     rfl
    refine ⟨⟨τ1,τ0,a1,a2,by rw [hold 0 (by omega) l1];exact h1⟩,⟨τ2,b2,by rw [hold 1 (by omega) l2];exact h2⟩,⟨τ3,b3,setAt hm3⟩,?_,?_⟩
    ·rw [List.map_append]
     refine eu.app (hE0.rows.keep fun x hx=>hold x.1 (hne2 x hx).1 (l4 x hx)) (τ:=0) (.inl rfl) (ob:=⟨iy [i],0,none,0,true,false,0⟩) acI ⟨rfl,rfl,rfl,rfl,rfl⟩
    ·rw [List.map_append]
     simp only [List.map_cons,List.map_nil]
     rw [show (0 :: 1 :: 2 :: (ex.map Prod.fst ++ [E0.length])) = (0 :: 1 :: 2 :: ex.map Prod.fst) ++ [E0.length] by simp,List.nodup_append]
     refine ⟨hnd,by simp,?_⟩
     intro x hx y hy
     simp only [List.mem_singleton] at hy
     subst hy
     simp only [List.mem_cons] at hx
     rcases hx with rfl | rfl | rfl | hx
     ·omega
     ·omega
     ·omega
     ·obtain ⟨z,hz,rfl⟩:=List.mem_map.1 hx
      have:=l4 z hz
      omega
   ·intro k x hx
    exact ⟨x.2,by rw [List.getElem?_append_left (eY hx)];exact hx⟩
   ·intro k x h1 h2
    have hkk:=eY h2
    simp at hkk
    have:k = ex.length:=by omega
    subst this
    rw [List.getElem?_append_right (Nat.le_refl _),Nat.sub_self] at h2
    simp at h2
    rw [← h2]
    simp only
    omega
 ·rw [decide_eq_false hl,if_neg hl]
  refine aj.of (o:=⟨.normal,[(0,.int .i64 (i:Nat)),(1,.ptr 0 0 0 0),(2,.ptr 1 0 0 0),(9,.bool false)],E⟩) (Run.cond (d:=false) (by simp [aF,au]) ⟨0,rfl⟩) ⟨.inl rfl,ex,h,fun k x hx=>⟨x.2,hx⟩,fun k x h1 h2=>by have:=eY h2;omega⟩
end
end Go.Proofs.Ytcllinmgllmpmaa
