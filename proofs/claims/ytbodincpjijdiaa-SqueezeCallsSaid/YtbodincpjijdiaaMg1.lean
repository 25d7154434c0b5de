/- E1 to DD: texts of this claim, one behind the other; what each shows stands at its head. -/
import Derived.Test.YtbodincpjijdiaaAm4
import Derived.Test.YtbodincpjijdiaaMg0
set_option linter.unusedSimpArgs false
set_option linter.unusedVariables false
set_option maxRecDepth 100000
set_option maxHeartbeats 8000000
namespace Go.Proofs.Ytbodincpjijdiaa
open Go.AM
structure Ws where
 k:Nat
 o:List UInt8
def fE (s:Ws) (vo:AV) (τ:Nat):AM.Obj:=⟨.pc [vo,.int .i64 (s.k:Nat)],0,some 2,1,false,true,τ⟩
def OuW (t:Nat) (H:AM.Heap) (oa:Option Nat) (vo:AV) (l:List UInt8):Prop:=match oa with
 | none=>l = []∧∃ τ,(τ = 0∨τ = t)∧vo = .ro 0 .pn τ
 | some a=>∃ g τ ob,(τ = 0∨τ = t)∧vo = .sl a 0 l.length g∧H[a]? = some (some ob)∧RwT (.pb l) g τ ob
structure WrV (t:Nat) (H:AM.Heap) (o:Nat) (oa:Option Nat) (s:Ws):Prop where
 bx:∃ vo τ,(τ = 0∨τ = t)∧H[o]? = some (some (fE s vo τ))∧OuW t H oa vo s.o
 ne:∀ a,oa = some a→a ≠ o
def wrS (s:Ws):Bool→List AM.Obj
 | false=>[fE s (.ro 0 .pn 0) 0]
 | true=>[fE s (.sl 1 0 s.o.length 0) 0,⟨.pb s.o,0,none,0,true,false,0⟩]
section
variable {t:Nat} {H:AM.Heap} {o:Nat} {oa:Option Nat} {s:Ws}
theorem Tf (s:Ws) (r:Bool):OkS (wrS s r):=by
 intro k ob0 hk x hx
 cases r
 ·cases k with
  | zero =>
   obtain rfl:=Option.some.inj hk
   simp [fE,ids,aJ] at hx
  | succ k=>simp [wrS] at hk
 ·match k,hk with
  | 0,hk =>
   obtain rfl:=Option.some.inj hk
   simp [fE,ids,aJ] at hx
   subst hx
   simp [wrS]
  | 1,hk =>
   obtain rfl:=Option.some.inj hk
   simp [ids] at hx
  | k + 2,hk=>simp [wrS] at hk
theorem nT (s:Ws) (r:Bool):(wrS s r).length = if r then 2 else 1:=by cases r <;> rfl
theorem FT (s:Ws) (r:Bool):reach ((wrS s r).map some) aG [0] [] = List.range (wrS s r).length:=by
 cases r
 ·exact lF rfl (by simp [fE,ids,aJ])
 ·show reach _ (99996 + 1 + 1 + 1 + 1) [0] [] = [0,1]
  simp [wrS,fE,reach,ids,aJ]
theorem WrV.img (h:WrV t H o oa s):∃ π,Img t H π (wrS s oa.isSome)∧π.map Prod.fst = o :: oa.toList∧π[0]? = some (o,0):=by
 obtain ⟨⟨vo,τ,hτ,h0,ho⟩,hne⟩:=h
 cases oa with
 | none =>
  obtain ⟨hl,τ2,hτ2,rfl⟩:=ho
  refine ⟨[(o,0)],⟨rfl,?_,?_⟩,rfl,rfl⟩
  ·intro j k oj gj ok gk h1 h2 _
   have:=eY h1;have:=eY h2
   simp at *;omega
  ·intro k ob0 hk
   cases k with
   | succ k=>simp [wrS] at hk
   | zero =>
    obtain rfl:=Option.some.inj hk
    refine ⟨o,0,_,rfl,h0,⟨?_,rfl,rfl,rfl,fun _=>⟨rfl,rfl,rfl⟩,hτ,?_⟩⟩
    ·simp [fE,ren,bZ,tz]
    ·intro k hk
     simp [fE,tags,bQ] at hk
     rw [hk]
     exact hτ2
 | some a =>
  obtain ⟨g,τ2,ob,hτ2,rfl,ha,hw⟩:=ho
  have hao:=hne a rfl
  refine ⟨[(o,0),(a,g)],⟨rfl,?_,?_⟩,rfl,rfl⟩
  ·intro j k oj gj ok gk h1 h2 e
   match j,k,h1,h2 with
   | 0,0,_,_=>rfl
   | 1,1,_,_=>rfl
   | 0,1,h1,h2=>simp at h1 h2;omega
   | 1,0,h1,h2=>simp at h1 h2;omega
   | j + 2,_,h1,_=>simp at h1
   | 0,k + 2,_,h2=>simp at h2
   | 1,k + 2,_,h2=>simp at h2
  ·intro k ob0 hk
   match k,hk with
   | 0,hk =>
    obtain rfl:=Option.some.inj hk
    refine ⟨o,0,_,rfl,h0,⟨?_,rfl,rfl,rfl,fun _=>⟨rfl,rfl,rfl⟩,hτ,?_⟩⟩
    ·simp [fE,ren,bZ,tz,jI,idN]
    ·intro k hk
     simp [fE,tags,bQ] at hk
   | 1,hk =>
    obtain rfl:=Option.some.inj hk
    refine ⟨a,g,ob,rfl,ha,⟨by rw [hw.p];rfl,hw.g,hw.row,hw.ids,(fun h=>by cases h),by rw [hw.tg];exact hτ2,?_⟩⟩
    intro k hk
    rw [hw.p] at hk
    simp [tags] at hk
   | k + 2,hk=>simp [wrS] at hk
theorem WrV.xg {π:List (Nat × Nat)} {r:Bool} (h:Img t H π (wrS s r)) (h0:π[0]? = some (o,0)) (hr:r = false→s.o = []):∃ oa,WrV t H o oa s∧π.map Prod.fst = o :: oa.toList∧oa.isSome = r∧(∀ a,oa = some a→∃ g,π[1]? = some (a,g)):=by
 obtain ⟨o',g',ob,q1,q2,q3⟩:=h.ob 0 _ (by cases r <;> rfl:(wrS s r)[0]? = some (fE s (if r then .sl 1 0 s.o.length 0 else .ro 0 .pn 0) 0))
 rw [h0] at q1
 simp only [Option.some.injEq,Prod.mk.injEq] at q1
 obtain ⟨rfl,rfl⟩:=q1
 obtain ⟨b1,b2,_⟩:=q3.bx rfl
 obtain ⟨p,g,cap,z,row,idb,tg⟩:=ob
 have r2:=q3.gen;have r3:=q3.row;have r4:=q3.ids;have r5:=q3.tg;have r6:=q3.tp;have r1:=q3.p
 simp only [fE] at r1 r2 r3 r4 r5 r6 b1 b2
 subst r2 r3 r4 b1 b2
 simp only [ren,bZ] at r1
 obtain ⟨l1,rfl,k1⟩:=xK r1
 obtain ⟨x3,l2,rfl,e3,k2⟩:=gu k1
 obtain ⟨x2,l3,rfl,e2,k3⟩:=gu k2
 obtain rfl:=oH k3
 obtain rfl:=ql e2
 cases r with
 | false =>
  simp only [Bool.false_eq_true,if_false,ren] at e3
  obtain ⟨τ2,rfl⟩:=xJ e3
  have hτ2:τ2 = 0∨τ2 = t:=r6 τ2 (by simp [tags,bQ])
  have hl:=h.len
  refine ⟨none,⟨⟨_,tg,r5,q2,hr rfl,τ2,hτ2,rfl⟩,fun a h=>by cases h⟩,?_,rfl,fun a h=>by cases h⟩
  match π,hl,h0 with
  | [x],_,h0=>simp at h0;subst h0;rfl
 | true =>
  obtain ⟨a,g,ob,p1,p2,p3⟩:=h.ob 1 _ rfl
  simp only [if_true,ren,jI,p1] at e3
  obtain rfl:=CS e3
  have hl:=h.len
  have hne:a ≠ o:=fun e=>by have:=h.nd 1 0 a g o 0 p1 h0 e;omega
  have ep:=p3.p
  simp only [ren] at ep
  refine ⟨some a,⟨⟨_,tg,r5,q2,g,ob.tg,ob,p3.tg,rfl,p2,GH ep,p3.gen,p3.row,p3.ids,rfl⟩,fun a' h=>by cases h;exact hne⟩,?_,rfl,fun a' h=>by cases h;exact ⟨g,p1⟩⟩
  match π,hl,h0,p1 with
  | [x,y],_,h0,p1=>simp at h0 p1;subst h0 p1;rfl
theorem Kq {f n:Nat} {fn:Func} {code:Code} {xs ys:List AV} {Q:Ws→List AV→Bool→Prop} (hF:X.P.funcs[f]? = some fn) (hb:fn.body = some code) (hrw:X.rw f 0 = false) (h:WrV t H o oa s)
  (hA:∀ π K,π.map Prod.fst = o :: oa.toList→jO X f H π K 1 xs ys) (hi:aJ ys = []) (hn:xs.length + 2 = n) (hng:n < bW)
  (run:∀ m E,WrV n E 0 (oa.map fun _=>1) s→aj (ru fun fr E'=>∃ s' oa' l,aQ X fr E' fn.results.toList = some l∧aJ l = []∧bQ l = []∧fU l = true∧WrV n E' 0 oa' s'∧(oa ≠ none→oa' = some 1)∧Q s' l oa'.isSome)
   X (evT X) f m code (numbered 0 (coerce X (.ptr 0 0 0 0 :: ys) (aI X f))) E) :
  ∃ H' oa' s' l,evT X f (.ptr o 0 0 0 :: xs) H = some (aO l,H')∧WrV t H' o oa' s'∧Q s' l oa'.isSome∧H.length≤H'.length∧(∀ a,oa = some a→oa' = some a)∧(∀ a,oa = none→oa' = some a→H.length≤a) ∧
   (∀ j,j < H.length→j ≠ o→(∀ a,oa = some a→j ≠ a)→H'[j]? = H[j]?):=by
 obtain ⟨π,hI,hπ,hπ0⟩:=h.img
 have hK:0 < (wrS s oa.isSome).length:=by rw [nT];split <;> omega
 have hA':=(hA π (wrS s oa.isSome).length hπ)
 have hA2:jO X f H π (wrS s oa.isSome).length 0 (.ptr o 0 0 0 :: xs) (.ptr 0 0 0 0 :: ys):=jO.ptr hI hrw hπ0 hK hA'
 have hoa:oa.isSome = false→s.o = []:=by
  intro h1
  cases oa with
  | some a=>cases h1
  | none=>obtain ⟨⟨vo,τ,_,_,ho⟩,_⟩:=h;exact ho.1
 obtain ⟨π'',S',v0,H',τf,hE,hτf,hI',hok',hid,⟨s',l,r',hS',hv0,hr',hQ,hil⟩,hlen,hfix,hnew,hrest⟩:=Ev1.img (C:=X) (T:=evT X) (f:=f) (H:=H) (n:=n) (ys:=.ptr 0 0 0 0 :: ys) (Q:=fun S' v0=>∃ s' l r',S' = wrS s' r'∧v0 = aO l∧(r' = false→s'.o = [])∧Q s' l r'∧aJ l = []∧bQ l = []∧fU l = true∧(oa.isSome = true→r' = true)) (bn X) hF hb hI (Tf s _) hA2
  (by rw [show aJ (AV.ptr 0 0 0 0 :: ys) = [0] by simp [aJ,ids,hi]];exact FT s _) (by simp;omega) hng (by
   intro E hEl hEI
   obtain ⟨oa1,hV,hπ1,hs1,zO⟩:=WrV.xg hEI (by rw [zQ,if_pos hK]) hoa
   have aj6:oa1 = oa.map fun _=>1:=by
    cases oa with
    | none=>cases oa1 with
     | none=>rfl
     | some a=>cases hs1
    | some a=>cases oa1 with
     | none=>cases hs1
     | some a1 =>
      obtain ⟨g,hg⟩:=zO a1 rfl
      rw [zQ] at hg
      simp [nT] at hg
      rw [Option.map_some,← hg.1]
   rw [aj6] at hV
   obtain ⟨out,hout,hrun⟩:=run (wrS s oa.isSome).length E hV
   refine ⟨out,⟨hout.1,?_⟩,hrun⟩
   obtain ⟨s',oa',l,hr,hil,htl,hnt,hV',ho',hQ⟩:=hout.2
   obtain ⟨π',hI',hπ',VW⟩:=hV'.img
   have aj7:oa'.isSome = false→s'.o = []:=by
    intro h1
    cases oa' with
    | some a=>cases h1
    | none=>obtain ⟨⟨vo,τ,_,_,ho⟩,_⟩:=hV';exact ho.1
   refine Leaves.plain hr hil htl hnt hI' (Tf s' _) ?_ ?_ ?_ ?_ ⟨s',l,_,rfl,rfl,aj7,hQ,hil,htl,hnt,?_⟩
   ·rw [nT,nT]
    cases oa with
    | none=>cases oa'.isSome <;> simp
    | some a=>rw [ho' (by simp)];simp
   ·intro k hk
    cases oa with
    | none =>
     rw [nT] at hk
     simp at hk
     subst hk
     exact ⟨0,VW⟩
    | some a =>
     rw [nT] at hk
     simp at hk
     have:k = 0∨k = 1:=by omega
     rcases this with rfl | rfl
     ·exact ⟨0,VW⟩
     ·rw [ho' (by simp)] at hπ'
      have h1:(π'.map Prod.fst)[1]? = some 1:=by rw [hπ'];rfl
      rw [List.getElem?_map] at h1
      cases hp:π'[1]? with
      | none=>rw [hp] at h1;cases h1
      | some x =>
       rw [hp] at h1
       simp at h1
       exact ⟨x.2,by rw [← h1]⟩
   ·intro k ob ob' h1 h2
    cases hx:oa.isSome <;> cases hy:oa'.isSome <;> rw [hx] at h1 <;> rw [hy] at h2
    all_goals
     match k,h1,h2 with
     | 0,h1,h2 =>
      have e1:=Option.some.inj h1
      have e2:=Option.some.inj h2
      subst e1 e2;rfl
     | 1,h1,h2=>first | (simp [wrS] at h1;done) | (simp [wrS] at h2;done) | (
      have e1:=Option.some.inj h1
      have e2:=Option.some.inj h2
      subst e1 e2;rfl)
     | k + 2,h1,h2=>simp [wrS] at h1
   ·intro k hk1 hk2
    cases hx:oa.isSome <;> cases hy:oa'.isSome <;> rw [hx,nT] at hk1 <;> rw [hy,nT] at hk2 <;> simp at hk1 hk2
    all_goals first | omega | skip
    have:k = 1:=by omega
    subst this
    rw [show List.range (wrS s false).length = [0] from rfl,FT]
    rw [nT];simp
   ·intro h1
    cases oa with
    | none=>cases h1
    | some a=>rw [ho' (by simp)];rfl)
 subst hS' hv0
 obtain ⟨g0,hg0⟩:=hfix 0 o 0 hπ0
 have aj8:g0 = 0:=by
  obtain ⟨o',g',ob,q1,q2,q3⟩:=hI'.ob 0 _ (by cases r' <;> rfl:(wrS s' r')[0]? = some (fE s' (if r' then .sl 1 0 s'.o.length 0 else .ro 0 .pn 0) 0))
  rw [hg0] at q1
  simp only [Option.some.injEq,Prod.mk.injEq] at q1
  obtain ⟨_,rfl⟩:=q1
  exact (q3.bx rfl).2.2
 subst aj8
 obtain ⟨oa',hV',amS,hs',hat'⟩:=WrV.xg hI' hg0 hr'
 obtain ⟨hil,htl,hnt,hmono⟩:=hil
 rw [jh (aO l) (by rw [lq hnt];exact hil) (fun k hk=>by rw [jS hnt,htl] at hk;cases hk)] at hE
 refine ⟨H',oa',s',l,dA hE,hV',by rw [hs'];exact hQ,hlen,?_,?_,?_⟩
 ·intro a ha
  subst ha
  cases oa' with
  | none =>
   have:=hmono rfl
   rw [this] at hs';cases hs'
  | some a' =>
   obtain ⟨g,hg⟩:=hat' a' rfl
   have h1:(π.map Prod.fst)[1]? = some a:=by rw [hπ];rfl
   rw [List.getElem?_map] at h1
   cases hp:π[1]? with
   | none=>rw [hp] at h1;cases h1
   | some x =>
    rw [hp] at h1
    simp at h1
    obtain ⟨g2,hg2⟩:=hfix 1 x.1 x.2 hp
    rw [hg] at hg2
    simp at hg2
    rw [hg2.1,h1]
 ·intro a ha ha'
  subst ha ha'
  obtain ⟨g,hg⟩:=hat' a rfl
  exact hnew 1 a g (by rw [nT];simp) hg
 ·intro j hj hjo hja
  refine hrest j hj ?_
  intro k x g hk e
  have h1:x ∈ π.map Prod.fst:=List.mem_map.2 ⟨(x,g),List.mem_of_getElem? hk,rfl⟩
  rw [hπ] at h1
  rcases List.mem_cons.1 h1 with h1 | h1
  ·exact hjo (e.trans h1)
  ·cases oa with
   | none=>simp at h1
   | some a =>
    simp at h1
    exact hja a rfl (e.trans h1)
end
end Go.Proofs.Ytbodincpjijdiaa
namespace Go.Proofs.Ytbodincpjijdiaa
open Go.AM
theorem QE (x:Int):IntKind.i64.wrap ((AM.bits .i64 x &&& AM.bits .i64 1).toNat:Nat) = ((x % 2).toNat:Nat):=by
 have h1:(AM.bits .i64 1).toNat = 1:=by decide
 have h2:(AM.bits .i64 x).toNat % 2 = (x % 2).toNat:=by
  unfold AM.bits
  rw [BitVec.toNat_ofInt]
  show (x % 18446744073709551616).toNat % 2 = _
  omega
 rw [BitVec.toNat_and,h1,Nat.and_one_is_mod,h2,wrap_i64 (by omega) (by omega)]
theorem Gl {v:Nat} (h:v < 256):(AM.bits .u8 (v:Int)).toNat = v:=by
 unfold AM.bits
 rw [BitVec.toNat_ofInt]
 show ((v:Int) % 256).toNat = v
 omega
theorem wu8 {v:Nat} (h:v < 256):IntKind.u8.wrap (v:Int) = (v:Int):=by
 show (v:Int) % 256 = v
 omega
theorem Wv {u k:Nat} (hu:u < 2) (hk:k < 8):u * 2 ^ k < 256:=by
 have h1:2 ^ k≤2 ^ 7:=Nat.pow_le_pow_right (by omega) (by omega)
 have:u * 2 ^ k≤1 * 2 ^ 7:=Nat.mul_le_mul (by omega) h1
 omega
def orB (y:UInt8) (x:Int) (k:Nat):UInt8:=UInt8.ofNat (y.toNat ||| (x % 2).toNat * 2 ^ k)
def dR (s:Ws) (x:Int):Ws:=⟨s.k + 1,(if s.k % 8 = 0 then s.o ++ [0] else s.o).set (s.k / 8) (orB ((if s.k % 8 = 0 then s.o ++ [0] else s.o).getD (s.k / 8) 0) x (s.k % 8))⟩
section
variable {t:Nat} {H:AM.Heap} {o:Nat} {oa:Option Nat} {s:Ws}
theorem abn {m a g τ τ2:Nat} {x:Int} {ob:AM.Obj} {E:AM.Heap} {y:UInt8} {tl:AM.Frame} (h0:E[0]? = some (some (fE s (.sl a 0 s.o.length g) τ))) (ha:E[a]? = some (some ob)) (hw:RwT (.pb s.o) g τ2 ob) (hk:s.k / 8 < s.o.length) (hy:s.o[s.k / 8]? = some y) (hl:s.k≤10000000) :
  ∃ ob',RwT (.pb (s.o.set (s.k / 8) (orB y x (s.k % 8)))) g τ2 ob'∧∃ code,((Try.f76.body).bind (aF [1,0])) = some code∧Run X (evT X) 76 m code ((0,.ptr 0 0 0 0) :: (1,.int .i64 x) :: tl) E ⟨.normal,[(0,.ptr 0 0 0 0)],upd E a (some ob')⟩:=by
 have q1:=hw.p;have q2:=hw.g;have q4:=hw.ids;have q5:=hw.tg
 simp only [fE] at h0
 have w2:((s.k:Nat):Int).tdiv 8 = ((s.k / 8:Nat):Int):=by rw [Int.tdiv_eq_ediv_of_nonneg (by omega)];omega
 have w2':((s.k:Nat):Int) / 8 = ((s.k / 8:Nat):Int):=by omega
 have w3:((s.k:Nat):Int).tmod 8 = ((s.k % 8:Nat):Int):=by rw [Int.tmod_eq_emod_of_nonneg (by omega)];omega
 have w3':((s.k:Nat):Int) % 8 = ((s.k % 8:Nat):Int):=by omega
 have w4:IntKind.i64.wrap ((s.k / 8:Nat):Int) = ((s.k / 8:Nat):Int):=wrap_i64 (by omega) (by omega)
 have w5:IntKind.i64.wrap ((s.k % 8:Nat):Int) = ((s.k % 8:Nat):Int):=wrap_i64 (by omega) (by omega)
 have hkI:((s.k / 8:Nat):Int) < (s.o.length:Int):=by omega
 have hkr:s.k % 8 < 8:=Nat.mod_lt _ (by omega)
 have hx2:(x % 2).toNat < 2:=by omega
 have hy2:=y.toNat_lt
 have hsh:=Wv hx2 hkr
 have hor:y.toNat ||| (x % 2).toNat * 2 ^ (s.k % 8) < 256:=Nat.or_lt_two_pow (n:=8) hy2 hsh
 have f1:¬ ((s.k % 8:Nat):Int) < 0:=by omega
 have f2:IntKind.u8.wrap (IntKind.u8.wrap (IntKind.i64.wrap ((AM.bits .i64 x &&& AM.bits .i64 1).toNat:Nat)) * 2 ^ min (s.k % 8) 8) = (((x % 2).toNat * 2 ^ (s.k % 8):Nat):Int):=by
  rw [QE,wu8 (by omega),Nat.min_eq_left (by omega)]
  have e:(((x % 2).toNat:Nat):Int) * 2 ^ (s.k % 8) = (((x % 2).toNat * 2 ^ (s.k % 8):Nat):Int):=by push_cast;rfl
  rw [e,wu8 hsh]
 have f3:IntKind.u8.wrap ((AM.bits .u8 ((y.toNat:Nat):Int) ||| AM.bits .u8 (((x % 2).toNat * 2 ^ (s.k % 8):Nat):Int)).toNat:Nat) = ((y.toNat ||| (x % 2).toNat * 2 ^ (s.k % 8):Nat):Int):=by
  rw [BitVec.toNat_or,Gl hy2,Gl hsh,wu8 hor]
 have hwI:((y.toNat ||| (x % 2).toNat * 2 ^ (s.k % 8):Nat):Int) < 256:=by omega
 refine ⟨{ ob with p:=.pb (s.o.set (s.k / 8) (orB y x (s.k % 8))) },⟨rfl,hw.g,hw.row,hw.ids,hw.tg⟩,_,rfl,?_⟩
 unfold orB
 generalize (x % 2).toNat * 2 ^ (s.k % 8) = sh at *
 generalize y.toNat ||| sh = wv at *
 generalize s.k / 8 = kd at *
 generalize s.k % 8 = kr at *
 generalize hN:s.o.length = N at *
 generalize s.o = B at *
 have hτ:(if τ2 = 0 then some 0 else some τ2) = some τ2:=by
  split
  ·rename_i h;rw [h]
  ·rfl
 simp only [go_sem] at f2 f3
 refine ⟨0,?_⟩
 simp (maxSteps:=2000000) -implicitDefEqProofs [-getElem?_pos,go_sem,eqV,ah,retag,h0,ha,q1,q2,q4,q5,w2,w2',w3,w3',w4,w5,hk,hkI,hy,hN,f1,f2,f3,hwI,hτ]
end
end Go.Proofs.Ytbodincpjijdiaa
namespace Go.Proofs.Ytbodincpjijdiaa
open Go.AM
structure Kpw (H H':AM.Heap) (o:Nat) (oa oa':Option Nat):Prop where
 len:H.length≤H'.length
 same:∀ a,oa = some a→oa' = some a
 new:∀ a,oa = none→oa' = some a→H.length≤a
 rest:∀ j,j < H.length→j ≠ o→(∀ a,oa = some a→j ≠ a)→H'[j]? = H[j]?
theorem Kpw.refl (H:AM.Heap) (o:Nat) (oa:Option Nat):Kpw H H o oa oa:=⟨Nat.le_refl _,fun _ h=>h,fun a h h2=>(by rw [h] at h2;cases h2),fun _ _ _ _=>rfl⟩
theorem Kpw.trans {H H1 H2:AM.Heap} {o:Nat} {oa oa1 oa2:Option Nat} (h:Kpw H H1 o oa oa1) (h2:Kpw H1 H2 o oa1 oa2):Kpw H H2 o oa oa2 where
 len:=Nat.le_trans h.len h2.len
 same:=fun a ha=>h2.same a (h.same a ha)
 new:=by
  intro a ha ha2
  cases h1:oa1 with
  | none=>exact Nat.le_trans h.len (h2.new a h1 ha2)
  | some x =>
   have:=h2.same x h1
   rw [ha2] at this
   cases this
   exact h.new a ha h1
 rest:=by
  intro j hj hjo hja
  rw [h2.rest j (Nat.lt_of_lt_of_le hj h.len) hjo ?_,h.rest j hj hjo hja]
  intro a ha
  cases h1:oa with
  | none=>have:=h.new a h1 ha;omega
  | some x =>
   have:=h.same x h1
   rw [ha] at this
   cases this
   exact hja a h1
theorem Kpw.upd {H:AM.Heap} {o:Nat} {oa:Option Nat} (x:Option AM.Obj):Kpw H (AM.upd H o x) o oa oa where
 len:=by simp [AM.upd]
 same:=fun _ h=>h
 new:=fun a h h2=>by rw [h] at h2;cases h2
 rest:=fun j hj hjo _=>by unfold AM.upd;rw [List.getElem?_set_ne (Ne.symm hjo)]
theorem Kpw.cat {H:AM.Heap} {o:Nat} {oa:Option Nat} (r:AM.Heap):Kpw H (H ++ r) o oa oa where
 len:=by simp
 same:=fun _ h=>h
 new:=fun a h h2=>by rw [h] at h2;cases h2
 rest:=fun j hj hjo _=>List.getElem?_append_left hj
section
variable {t:Nat} {H:AM.Heap} {o:Nat} {oa:Option Nat} {s:Ws}
theorem OuW.upd {vo:AV} {l:List UInt8} {x:Option AM.Obj} (h:OuW t H oa vo l) (hne:∀ a,oa = some a→a ≠ o):OuW t (AM.upd H o x) oa vo l:=by
 cases oa with
 | none=>exact h
 | some a =>
  obtain ⟨g,τ,ob,h1,h2,h3,h4⟩:=h
  exact ⟨g,τ,ob,h1,h2,zF h3 (Ne.symm (hne a rfl)),h4⟩
theorem WrV.set {s':Ws} {vo:AV} {τ:Nat} (hne:∀ a,oa = some a→a ≠ o) (h2:τ = 0∨τ = t) (ho:o < H.length) (hv:OuW t H oa vo s'.o):WrV t (AM.upd H o (some (fE s' vo τ))) o oa s' :=
 ⟨⟨vo,τ,h2,by unfold AM.upd;rw [List.getElem?_set_self ho],hv.upd hne⟩,hne⟩
theorem WrV.lt (h:WrV t H o oa s):o < H.length∧∀ a,oa = some a→a < H.length:=by
 obtain ⟨⟨vo,τ,_,h0,ho⟩,_⟩:=h
 refine ⟨eY h0,fun a ha=>?_⟩
 subst ha
 obtain ⟨g,τ,ob,_,_,h3,_⟩:=ho
 exact eY h3
theorem WrV.keep {H':AM.Heap} (h:WrV t H o oa s) (h1:H'[o]? = H[o]?) (h2:∀ a,oa = some a→H'[a]? = H[a]?):WrV t H' o oa s:=by
 obtain ⟨⟨vo,τ,a1,h0,ho⟩,hne⟩:=h
 refine ⟨⟨vo,τ,a1,by rw [h1];exact h0,?_⟩,hne⟩
 cases oa with
 | none=>exact ho
 | some a =>
  obtain ⟨g,τ,ob,b1,b2,b3,b4⟩:=ho
  exact ⟨g,τ,ob,b1,b2,by rw [h2 a rfl];exact b3,b4⟩
theorem WrV.cat {r:AM.Heap} (h:WrV t H o oa s):WrV t (H ++ r) o oa s:=h.keep (List.getElem?_append_left h.lt.1) fun a ha=>List.getElem?_append_left (h.lt.2 a ha)
theorem WrV.other {j:Nat} {x:Option AM.Obj} (h:WrV t H o oa s) (h1:j ≠ o) (h2:∀ a,oa = some a→j ≠ a):WrV t (AM.upd H j x) o oa s :=
 h.keep (by unfold AM.upd;rw [List.getElem?_set_ne h1]) fun a ha=>by unfold AM.upd;rw [List.getElem?_set_ne (h2 a ha)]
theorem bsW (H:AM.Heap) (y:UInt8):bP X H 22 1 [(0,.int .u8 (y.toNat:Nat))] = some (.ro 1 (.pb [y]) 0,H):=by
 have:=y.toNat_lt
 have h1:(y.toNat:Int) < 256:=by omega
 simp [bP,jk,o9,mkRow,je,dK,cellsOf,scalars,scalar,aJ,ids,bQ,tags,dU,h1]
theorem OuW.app {vo:AV} {l:List UInt8} (y:UInt8) (h:OuW t H oa vo l) (hH:0 < H.length) (hne:∀ a,oa = some a→a ≠ 0) (hl:l.length≤10000000):∃ v' H' oa',bD X H 22 vo (.ro 1 (.pb [y]) 0) = some (v',H')∧OuW t H' oa' v' (l ++ [y])∧Kpw H H' 0 oa oa'∧H'[0]? = H[0]?∧(∀ a,oa' = some a→a ≠ 0):=by
 cases oa with
 | none =>
  obtain ⟨rfl,τ,hτ,rfl⟩:=h
  have hat:(H ++ [some (⟨.pb [y],0,none,0,true,false,0⟩:AM.Obj)])[H.length]? = some (some ⟨.pb [y],0,none,0,true,false,0⟩):=by simp
  refine ⟨.sl H.length 0 1 0,H ++ [some ⟨.pb [y],0,none,0,true,false,0⟩],some H.length,?_,⟨0,0,_,.inl rfl,rfl,hat,⟨rfl,rfl,rfl,rfl,rfl⟩⟩,⟨by simp,fun a h=>(by cases h),fun a _ h=>(by cases h;exact Nat.le_refl _),fun j hj _ _=>List.getElem?_append_left hj⟩,List.getElem?_append_left hH,fun a h=>by cases h;omega⟩
  simp only [bD,kK,kL,qC]
  simp [gU,jF,ah,kM,fK,og,bJ,aK]
 | some a =>
  obtain ⟨g,τ,ob,hτ,rfl,ho,hw⟩:=h
  obtain ⟨ob',w1,w2⟩:=BA (C:=X) (T:=22) (e:=5) (src:=.ro 1 (.pb [y]) 0) (m:=[y]) kK rV kL bytes5 qC ho hw (.inl (by simp [gU,jF,kM])) (by simp;omega)
  refine ⟨_,_,some a,w2,⟨g + 1,τ,ob',hτ,by simp,setAt ho,w1⟩,⟨by simp [AM.upd],fun a' h=>h,fun a' h=>(by cases h),fun j hj h0 hja=>by unfold AM.upd;rw [List.getElem?_set_ne (Ne.symm (hja a rfl))]⟩,by unfold AM.upd;rw [List.getElem?_set_ne (hne a rfl)],hne⟩
def gQ (s:Ws):Prop:=s.o.length = (s.k + 7) / 8
theorem vH {x:Int} (h:gQ s):gQ (dR s x):=by
 unfold gQ dR at *
 rw [List.length_set]
 simp only
 split
 ·rw [List.length_append,List.length_singleton];omega
 ·omega
theorem abo {m:Nat} {x:Int} {E:AM.Heap} (h:WrV t E 0 oa s) (hl:s.k≤10000000):∃ code,((Try.f76.body).bind (aF [0,0])) = some code∧Run X (evT X) 76 m code [(0,.ptr 0 0 0 0),(1,.int .i64 x)] E ⟨.normal,[(0,.ptr 0 0 0 0),(1,.int .i64 x),(9,.bool (decide (s.k % 8 = 0)))],E⟩:=by
 refine ⟨_,rfl,?_⟩
 obtain ⟨⟨vo,τ,a1,h0,ho⟩,hne⟩:=id h
 simp only [fE] at h0
 have w3:((s.k:Nat):Int).tmod 8 = ((s.k % 8:Nat):Int):=by rw [Int.tmod_eq_emod_of_nonneg (by omega)];omega
 have w3':((s.k:Nat):Int) % 8 = ((s.k % 8:Nat):Int):=by omega
 have w5:IntKind.i64.wrap ((s.k % 8:Nat):Int) = ((s.k % 8:Nat):Int):=wrap_i64 (by omega) (by omega)
 by_cases hz:s.k % 8 = 0
 ·rw [decide_eq_true hz]
  rw [hz] at w3 w3' w5
  (refine ⟨0,?_⟩;simp (maxSteps:=2000000) -implicitDefEqProofs [-getElem?_pos,go_sem,eqV,ah,h0,w3,w3',w5])
 ·have hzI:¬ ((s.k % 8:Nat):Int) = 0:=by omega
  have hzb:(((s.k % 8:Nat):Int) == 0) = false:=by simpa using hzI
  rw [decide_eq_false hz]
  generalize s.k % 8 = kr at *
  (refine ⟨0,?_⟩;simp (maxSteps:=2000000) -implicitDefEqProofs [-getElem?_pos,go_sem,eqV,ah,h0,w3,w3',w5,hz,hzI,hzb])
theorem abp {m:Nat} {x:Int} {d:Bool} {E:AM.Heap} (h:WrV t E 0 oa s) (hl:s.o.length≤10000000):∃ E' oa',WrV t E' 0 oa' ⟨s.k,s.o ++ [0]⟩∧Kpw E E' 0 oa oa'∧∃ code,((Try.f76.body).bind (aF [0,1,0])) = some code∧Run X (evT X) 76 m code [(0,.ptr 0 0 0 0),(1,.int .i64 x),(9,.bool d)] E ⟨.normal,[(0,.ptr 0 0 0 0),(1,.int .i64 x)],E'⟩:=by
 obtain ⟨⟨vo,τ,a1,h0,ho⟩,hne⟩:=id h
 obtain ⟨v',E',oa',hA,hv',hk,hE0,hne'⟩:=ho.app 0 h.lt.1 hne hl
 have h0':E'[0]? = some (some (fE s vo τ)):=by rw [hE0];exact h0
 have hbs:=bsW E 0
 refine ⟨AM.upd E' 0 (some (fE ⟨s.k,s.o ++ [0]⟩ v' τ)),oa',WrV.set hne' a1 (eY h0') hv',hk.trans (Kpw.upd _),_,rfl,?_⟩
 simp only [fE] at h0 h0' ⊢
 simp only [show ((0:UInt8).toNat:Int) = 0 from rfl] at hbs
 cases oa' with
 | none=>exact absurd hv'.1 (by simp)
 | some a =>
  obtain ⟨g,τ2,ob,_,rfl,_⟩:=hv'
  generalize (s.o ++ [0]).length = N at *
  (refine ⟨0,?_⟩;simp (maxSteps:=2000000) -implicitDefEqProofs [-getElem?_pos,go_sem,eqV,ah,h0,h0',hbs,hA])
theorem abq {m:Nat} {E:AM.Heap} (h:WrV t E 0 oa s) (hl:s.k≤10000000):∃ E',WrV t E' 0 oa ⟨s.k + 1,s.o⟩∧Kpw E E' 0 oa oa∧∃ code,((Try.f76.body).bind (aF [1,1])) = some code∧Run X (evT X) 76 m code [(0,.ptr 0 0 0 0)] E ⟨.normal,[],E'⟩:=by
 obtain ⟨⟨vo,τ,a1,h0,ho⟩,hne⟩:=id h
 refine ⟨AM.upd E 0 (some (fE ⟨s.k + 1,s.o⟩ vo τ)),WrV.set hne a1 (eY h0) ho,Kpw.upd _,_,rfl,?_⟩
 have w1:IntKind.i64.wrap ((s.k:Int) + 1) = ((s.k + 1:Nat):Int):=by rw [wrap_i64 (by omega) (by omega)];omega
 simp only [fE] at h0 ⊢
 generalize s.k + 1 = k1 at *
 (refine ⟨0,?_⟩;simp (maxSteps:=2000000) -implicitDefEqProofs [-getElem?_pos,go_sem,eqV,ah,h0,w1])
theorem Ti {m:Nat} {x:Int} {E:AM.Heap} (h:WrV t E 0 oa s) (hs:gQ s) (hl:s.k≤9000000):∃ code,Try.f76.body = some code ∧
  aj (ru fun fr E'=>∃ oa',WrV t E' 0 oa' (dR s x)∧Kpw E E' 0 oa oa') X (evT X) 76 m code [(0,.ptr 0 0 0 0),(1,.int .i64 x)] E:=by
 refine ⟨_,rfl,?_⟩
 have hso:=hs
 unfold gQ at hso
 apply aj.assoc
 apply aj.seq (piece (abo h (by omega)) _ rfl)
 -- the byte
 have key:∀ {E1:AM.Heap} {oa1:Option Nat} {tl:AM.Frame},WrV t E1 0 oa1 ⟨s.k,if s.k % 8 = 0 then s.o ++ [0] else s.o⟩→Kpw E E1 0 oa oa1→∃ code,((Try.f76.body).bind (aF [1])) = some code∧aj (ru fun fr E'=>∃ oa',WrV t E' 0 oa' (dR s x)∧Kpw E E' 0 oa oa') X (evT X) 76 m code ((0,.ptr 0 0 0 0) :: (1,.int .i64 x) :: tl) E1:=by
  intro E1 oa1 tl hV hk
  refine ⟨_,rfl,?_⟩
  have hB:s.k / 8 < (if s.k % 8 = 0 then s.o ++ [0] else s.o).length:=by
   split
   ·rw [List.length_append,List.length_singleton];omega
   ·omega
  have hg:(if s.k % 8 = 0 then s.o ++ [0] else s.o).getD (s.k / 8) 0 = (if s.k % 8 = 0 then s.o ++ [0] else s.o)[s.k / 8]:=by
   rw [List.getD_eq_getElem?_getD,List.getElem?_eq_getElem hB];rfl
  have hbw:dR s x = ⟨s.k + 1,(if s.k % 8 = 0 then s.o ++ [0] else s.o).set (s.k / 8) (orB ((if s.k % 8 = 0 then s.o ++ [0] else s.o)[s.k / 8]) x (s.k % 8))⟩:=by
   unfold dR
   rw [hg]
  rw [hbw]
  generalize (if s.k % 8 = 0 then s.o ++ [0] else s.o) = B at *
  obtain ⟨⟨vo,τ,a1,h0,ho⟩,hne⟩:=id hV
  cases oa1 with
  | none =>
   have:=ho.1
   simp only at this
   subst this
   simp at hB
  | some a =>
   obtain ⟨g,τ2,ob,hτ2,rfl,h3,h4⟩:=ho
   obtain ⟨ob',w1,hr2⟩:=abn (m:=m) (s:=⟨s.k,B⟩) (x:=x) (tl:=tl) (y:=B[s.k / 8]) h0 h3 h4 hB (List.getElem?_eq_getElem hB) (by simp only;omega)
   have hV2:WrV t (upd E1 a (some ob')) 0 (some a) ⟨s.k,B.set (s.k / 8) (orB (B[s.k / 8]) x (s.k % 8))⟩ :=
    ⟨⟨_,τ,a1,zF h0 (hne a rfl),g,τ2,ob',hτ2,by simp,setAt h3,w1⟩,hne⟩
   obtain ⟨E3,hV3,hk3,hr3⟩:=abq (m:=m) hV2 (by simp only;omega)
   have hk2:Kpw E (upd E1 a (some ob')) 0 oa (some a):=by
    refine ⟨by have:=hk.len;simpa [AM.upd] using this,hk.same,hk.new,?_⟩
    intro j hj h1 h2
    have hja:j ≠ a:=by
     intro e
     subst e
     cases hq:oa with
     | none=>have:=hk.new j hq rfl;omega
     | some z=>have:=hk.same z hq;cases this;exact h2 _ hq rfl
    unfold AM.upd
    rw [List.getElem?_set_ne (Ne.symm hja)]
    exact hk.rest j hj h1 h2
   refine aj.of (o:=⟨.normal,[],E3⟩) ?_ ⟨.inl rfl,_,hV3,hk2.trans hk3⟩
   exact Run.seq (piece hr2 _ rfl) (piece hr3 _ rfl)
 by_cases hz:s.k % 8 = 0
 ·obtain ⟨E1,oa1,hV1,hk1,hr1⟩:=abp (m:=m) (x:=x) (d:=decide (s.k % 8 = 0)) h (by omega)
  apply aj.seq (fr':=[(0,.ptr 0 0 0 0),(1,.int .i64 x)]) (H':=E1)
  ·refine Run.cond (d:=true) (by simp [aC,au,hz]) ?_
   exact piece hr1 _ rfl
  refine piece (key (tl:=[]) ?_ hk1) _ rfl
  rw [if_pos hz]
  exact hV1
 ·apply aj.seq (fr':=[(0,.ptr 0 0 0 0),(1,.int .i64 x),(9,.bool (decide (s.k % 8 = 0)))]) (H':=E)
  ·exact Run.cond (d:=false) (by simp [aC,au,hz]) ⟨0,rfl⟩
  refine piece (key ?_ (Kpw.refl E 0 oa)) _ rfl
  rw [if_neg hz]
  exact h
theorem Tj {x:Int} (h:WrV t H o oa s) (hs:gQ s) (hl:s.k≤9000000):∃ H' oa',evT X 76 [.ptr o 0 0 0,.int .i64 x] H = some (.tup [],H')∧WrV t H' o oa' (dR s x)∧Kpw H H' o oa oa':=by
 obtain ⟨code,hc⟩:∃ code,Try.f76.body = some code:=⟨_,rfl⟩
 obtain ⟨H',oa',s',l,hE,hV,⟨rfl,rfl⟩,h1,h2,h3,h4⟩:=Kq (f:=76) (n:=3) (xs:=[.int .i64 x]) (ys:=[.int .i64 x]) (Q:=fun s' l r=>s' = dR s x∧l = []) Try.func76 hc rfl h (fun π K _=>jO.flat rfl rfl jO.nil) rfl rfl (by simp [bW]) (by
  intro m E hE
  obtain ⟨wM,hc2,ht⟩:=Ti (m:=m) (x:=x) hE hs hl
  rw [hc] at hc2
  obtain rfl:=Option.some.inj hc2
  rw [Zl]
  refine ht.mono fun out ho=>⟨ho.1,?_⟩
  obtain ⟨oa',q1,q2⟩:=ho.2
  refine ⟨_,oa',[],rfl,rfl,rfl,rfl,q1,fun hn=>?_,rfl,rfl⟩
  cases oa with
  | none=>exact absurd rfl hn
  | some a=>exact q2.same 1 rfl)
 exact ⟨H',oa',hE,hV,⟨h1,h2,h3,h4⟩⟩
end
end Go.Proofs.Ytbodincpjijdiaa
namespace Go.Proofs.Ytbodincpjijdiaa
open Go.AM
def bI (s:Ws) (x:Int):Nat→Ws
 | 0=>s
 | n + 1=>dR (bI s x n) (x / 2 ^ n)
def lN (s:Ws) (x:Int):Nat→Ws
 | 0=>s
 | n + 1=>lN (dR s (x / 2 ^ n)) x n
theorem bV {s:Ws} {x:Int} (h:gQ s):∀ n,gQ (bI s x n)∧(bI s x n).k = s.k + n
 | 0=>⟨h,rfl⟩
 | n + 1=>by
  obtain ⟨h1,h2⟩:=bV h n
  exact ⟨vH h1,by simp only [bI,dR,h2];omega⟩
theorem BR {x:Int}:∀ (n:Nat) {s:Ws},gQ s→gQ (lN s x n)∧(lN s x n).k = s.k + n
 | 0,_,h=>⟨h,rfl⟩
 | n + 1,s,h=>by
  obtain ⟨h1,h2⟩:=BR n (vH (x:=x / 2 ^ n) h)
  have hk:(dR s (x / 2 ^ n)).k = s.k + 1:=rfl
  exact ⟨h1,by show (lN (dR s (x / 2 ^ n)) x n).k = _;rw [h2,hk];omega⟩
theorem Gm {x:Int} {i:Nat} (hi:i≤60):x.fdiv (2 ^ min i 64) = x / 2 ^ i:=by
 rw [Nat.min_eq_left (by omega)]
 exact Int.fdiv_eq_ediv_of_nonneg _ (Int.le_of_lt (Int.pow_pos (by omega)))
section
variable {t:Nat} {H:AM.Heap} {o:Nat} {oa:Option Nat} {s:Ws}
def wI (x:Int) (n i:Nat):AM.Frame:=[(0,.ptr 0 0 0 0),(1,.int .i64 x),(7,.int .i64 (n:Nat)),(8,.int .i64 (i:Nat))]
theorem abr {m n i:Nat} {x:Int} {E:AM.Heap} (h:WrV t E 0 oa s) (hs:gQ s) (hl:s.k≤9000000) (hi:i≤60):∃ E' oa',WrV t E' 0 oa' (dR s (x / 2 ^ i))∧Kpw E E' 0 oa oa'∧∃ code,((Try.f55.body).bind (aF [1,0,0,1,1])) = some code∧Run X (evT X) 55 m code (wI x n i ++ [(9,.bool true)]) E ⟨.normal,wI x n (i + 1),E'⟩:=by
 obtain ⟨E',oa',g1,g2,g3⟩:=Tj (x:=x / 2 ^ i) h hs hl
 refine ⟨E',oa',g2,g3,_,rfl,?_⟩
 have w1:IntKind.i64.wrap ((i:Int) + 1) = ((i + 1:Nat):Int):=by rw [wrap_i64 (by omega) (by omega)];omega
 have hi0:¬ (i:Int) < 0:=by omega
 have w2:=Gm (x:=x) hi
 apply Run.seq (fr':=wI x n i) (H':=E')
 ·apply Run.block
  ·apply Run.seq (fr':=[(0,.ptr 0 0 0 0),(1,.int .i64 x),(6,.int .i64 (i:Nat)),(7,.int .i64 (n:Nat)),(8,.int .i64 (i:Nat))]) (H':=E)
   ·simp only [wI]
    (refine ⟨0,?_⟩;simp (maxSteps:=2000000) -implicitDefEqProofs [-getElem?_pos,go_sem,eqV,ah,ak])
   ·simp only [wI]
    (refine ⟨0,?_⟩;simp (maxSteps:=2000000) -implicitDefEqProofs [-getElem?_pos,go_sem,eqV,ah,g1,hi0,w2])
  ·simp
 ·generalize i + 1 = i1 at *
  simp only [wI]
  (refine ⟨0,?_⟩;simp (maxSteps:=2000000) -implicitDefEqProofs [-getElem?_pos,go_sem,eqV,ah,w1])
theorem Kt {m n:Nat} {x:Int} {E:AM.Heap} (h:WrV t E 0 oa s) (hs:gQ s) (hl:s.k≤8000000) (hn:n≤60):∃ code,Try.f55.body = some code ∧
  aj (ru fun fr E'=>∃ oa',WrV t E' 0 oa' (bI s x n)∧Kpw E E' 0 oa oa') X (evT X) 55 m code [(0,.ptr 0 0 0 0),(1,.int .i64 x),(2,.int .i64 (n:Nat))] E:=by
 refine ⟨_,rfl,?_⟩
 apply aj.seq (fr':=wI x n 0) (H':=E)
 ·simp only [wI]
  (refine ⟨0,?_⟩;simp (maxSteps:=2000000) -implicitDefEqProofs [-getElem?_pos,go_sem,eqV,ah])
 refine aj.mono (Q:=Goes fun fr E'=>∃ oa',WrV t E' 0 oa' (bI s x n)∧Kpw E E' 0 oa oa') ?_ fun o ho=>⟨.inl ho.1,ho.2⟩
 apply aj.block
 refine aj.kJ (I:=fun q fr E'=>∃ i oa',i≤n∧q = n - i∧fr = wI x n i∧WrV t E' 0 oa' (bI s x i)∧Kpw E E' 0 oa oa') ?_ (k:=n) ⟨0,oa,by omega,rfl,rfl,h,Kpw.refl E 0 oa⟩
 rintro q fr E' ⟨i,oa',hi,rfl,rfl,hV,hk⟩
 by_cases hin:i = n
 ·subst hin
  refine aj.of (o:=⟨.exit 0,wI x i i ++ [(9,.bool false)],E'⟩) ?_ (.inr ⟨by simp,rfl,oa',hV,hk⟩)
  refine ⟨0,?_⟩
  simp only [wI]
  simp (maxSteps:=2000000) -implicitDefEqProofs [-getElem?_pos,go_sem,eqV,ah]
 ·have hlt:i < n:=by omega
  have iT:(i:Int) < (n:Int):=by omega
  obtain ⟨f1,f2⟩:=bV (x:=x) hs i
  obtain ⟨E2,oa2,h1,h2,hr⟩:=abr (m:=m) (n:=n) (i:=i) (x:=x) hV f1 (by omega) (by omega)
  refine aj.of (o:=⟨.normal,wI x n (i + 1),E2⟩) ?_ (.inl ⟨rfl,n - (i + 1),by omega,i + 1,oa2,by omega,rfl,rfl,h1,hk.trans h2⟩)
  apply Run.seq (fr':=wI x n i ++ [(9,.bool true)]) (H':=E')
  ·simp only [wI]
   (refine ⟨0,?_⟩;simp (maxSteps:=2000000) -implicitDefEqProofs [-getElem?_pos,go_sem,eqV,ah,iT,hlt])
  apply Run.seq (fr':=wI x n i ++ [(9,.bool true)]) (H':=E')
  ·exact Run.cond (d:=true) (by simp [wI,aC,au]) ⟨0,rfl⟩
  exact piece hr _ rfl
def Aj (x:Int) (I:Int):AM.Frame:=[(0,.ptr 0 0 0 0),(1,.int .i64 x),(6,.int .i64 I)]
theorem Na {m n:Nat} {x:Int} {E:AM.Heap} (h:WrV t E 0 oa s) (hs:gQ s) (hl:s.k≤8000000) (hn:n≤60):∃ code,Try.f56.body = some code ∧
  aj (ru fun fr E'=>∃ oa',WrV t E' 0 oa' (lN s x n)∧Kpw E E' 0 oa oa') X (evT X) 56 m code [(0,.ptr 0 0 0 0),(1,.int .i64 x),(2,.int .i64 (n:Nat))] E:=by
 refine ⟨_,rfl,?_⟩
 apply aj.seq (fr':=Aj x ((n:Int) - 1)) (H':=E)
 ·have w1:IntKind.i64.wrap ((n:Int) - 1) = (n:Int) - 1:=by rw [wrap_i64 (by omega) (by omega)]
  simp only [Aj]
  (refine ⟨0,?_⟩;simp (maxSteps:=2000000) -implicitDefEqProofs [-getElem?_pos,go_sem,eqV,ah,w1,ak])
 refine aj.mono (Q:=Goes fun fr E'=>∃ oa',WrV t E' 0 oa' (lN s x n)∧Kpw E E' 0 oa oa') ?_ fun o ho=>⟨.inl ho.1,ho.2⟩
 apply aj.block
 refine aj.kJ (I:=fun q fr E'=>∃ oa' s',q≤n∧s'.k + q = s.k + n∧gQ s'∧fr = Aj x ((q:Int) - 1)∧WrV t E' 0 oa' s'∧Kpw E E' 0 oa oa'∧lN s' x q = lN s x n) ?_ (k:=n) ⟨oa,s,by omega,rfl,hs,rfl,h,Kpw.refl E 0 oa,rfl⟩
 rintro q fr E' ⟨oa',s',hq,hkk,hs',rfl,hV,hk,hc⟩
 cases q with
 | zero =>
  refine aj.of (o:=⟨.exit 0,Aj x (((0:Nat):Int) - 1) ++ [(10,.bool false)],E'⟩) ?_ (.inr ⟨by simp,rfl,oa',by rw [← hc];exact hV,hk⟩)
  have e1:(((0:Nat):Int) - 1) = -1:=rfl
  rw [e1]
  refine ⟨0,?_⟩
  simp only [Aj]
  simp (maxSteps:=2000000) -implicitDefEqProofs [-getElem?_pos,go_sem,eqV,ah]
 | succ q =>
  have e1:(((q + 1:Nat):Int) - 1) = (q:Nat):=by omega
  rw [e1]
  obtain ⟨E2,oa2,g1,g2,g3⟩:=Tj (x:=x / 2 ^ q) hV hs' (by omega)
  refine aj.of (o:=⟨.normal,Aj x ((q:Int) - 1),E2⟩) ?_ (.inl ⟨rfl,q,by omega,oa2,dR s' (x / 2 ^ q),by omega,by simp only [dR];omega,vH hs',rfl,g2,hk.trans g3,hc⟩)
  have w1:IntKind.i64.wrap ((q:Int) - 1) = (q:Int) - 1:=by rw [wrap_i64 (by omega) (by omega)]
  have hq0:¬ (q:Int) < 0:=by omega
  have hq1:(0:Int)≤(q:Int):=by omega
  have w2:=Gm (x:=x) (i:=q) (by omega)
  apply Run.seq (fr':=Aj x (q:Nat) ++ [(10,.bool true)]) (H':=E')
  ·apply Run.seq (fr':=Aj x (q:Nat) ++ [(10,.bool true)]) (H':=E')
   ·simp only [Aj]
    (refine ⟨0,?_⟩;simp (maxSteps:=2000000) -implicitDefEqProofs [-getElem?_pos,go_sem,eqV,ah,hq1])
   ·exact Run.cond (d:=true) (by simp [Aj,aC,au]) ⟨0,rfl⟩
  apply Run.seq (fr':=Aj x (q:Nat)) (H':=E2)
  ·apply Run.block
   ·simp only [Aj]
    (refine ⟨0,?_⟩;simp (maxSteps:=2000000) -implicitDefEqProofs [-getElem?_pos,go_sem,eqV,ah,g1,hq0,w2])
   ·simp
  ·simp only [Aj]
   (refine ⟨0,?_⟩;simp (maxSteps:=2000000) -implicitDefEqProofs [-getElem?_pos,go_sem,eqV,ah,w1,ak])
theorem BG {f n:Nat} {fn:Func} {code:Code} {xs ys:List AV} {s':Ws} (hF:X.P.funcs[f]? = some fn) (hb:fn.body = some code) (hrw:X.rw f 0 = false) (h:WrV t H o oa s)
  (hA:∀ π K,π.map Prod.fst = o :: oa.toList→jO X f H π K 1 xs ys) (hi:aJ ys = []) (hn:xs.length + 2 = n) (hng:n < bW) (hr:fn.results.toList = [])
  (run:∀ m E oa1,WrV n E 0 oa1 s→∃ code,fn.body = some code∧aj (ru fun fr E'=>∃ oa',WrV n E' 0 oa' s'∧Kpw E E' 0 oa1 oa') X (evT X) f m code (numbered 0 (coerce X (.ptr 0 0 0 0 :: ys) (aI X f))) E) :
  ∃ H' oa',evT X f (.ptr o 0 0 0 :: xs) H = some (.tup [],H')∧WrV t H' o oa' s'∧Kpw H H' o oa oa':=by
 obtain ⟨H',oa',s2,l,hE,hV,⟨rfl,rfl⟩,h1,h2,h3,h4⟩:=Kq (Q:=fun s2 l r=>s2 = s'∧l = []) hF hb hrw h hA hi hn hng (by
  intro m E hE
  obtain ⟨wM,hc2,ht⟩:=run m E _ hE
  rw [hb] at hc2
  obtain rfl:=Option.some.inj hc2
  refine ht.mono fun out ho=>⟨ho.1,?_⟩
  obtain ⟨oa',q1,q2⟩:=ho.2
  refine ⟨_,oa',[],by rw [hr];rfl,rfl,rfl,rfl,q1,fun hn=>?_,rfl,rfl⟩
  cases oa with
  | none=>exact absurd rfl hn
  | some a=>exact q2.same 1 rfl)
 exact ⟨H',oa',hE,hV,⟨h1,h2,h3,h4⟩⟩
theorem mV {x I:Int} {n:Nat} (hI:I = (n:Nat)) (h:WrV t H o oa s) (hs:gQ s) (hl:s.k≤8000000) (hn:n≤60):∃ H' oa',evT X 55 [.ptr o 0 0 0,.int .i64 x,.int .i64 I] H = some (.tup [],H')∧WrV t H' o oa' (bI s x n)∧Kpw H H' o oa oa':=by
 subst hI
 obtain ⟨code,hc⟩:∃ code,Try.f55.body = some code:=⟨_,rfl⟩
 exact BG (n:=4) (xs:=[.int .i64 x,.int .i64 (n:Nat)]) (ys:=[.int .i64 x,.int .i64 (n:Nat)]) Try.func55 hc rfl h (fun π K _=>jO.flat rfl rfl (jO.flat rfl rfl jO.nil)) rfl rfl (by simp [bW]) rfl fun m E oa1 hE=>by
  obtain ⟨wM,hc2,ht⟩:=Kt (m:=m) (x:=x) hE hs hl hn
  rw [Zb]
  exact ⟨wM,hc2,ht⟩
theorem yA {x I:Int} {n:Nat} (hI:I = (n:Nat)) (h:WrV t H o oa s) (hs:gQ s) (hl:s.k≤8000000) (hn:n≤60):∃ H' oa',evT X 56 [.ptr o 0 0 0,.int .i64 x,.int .i64 I] H = some (.tup [],H')∧WrV t H' o oa' (lN s x n)∧Kpw H H' o oa oa':=by
 subst hI
 obtain ⟨code,hc⟩:∃ code,Try.f56.body = some code:=⟨_,rfl⟩
 exact BG (n:=4) (xs:=[.int .i64 x,.int .i64 (n:Nat)]) (ys:=[.int .i64 x,.int .i64 (n:Nat)]) Try.func56 hc rfl h (fun π K _=>jO.flat rfl rfl (jO.flat rfl rfl jO.nil)) rfl rfl (by simp [bW]) rfl fun m E oa1 hE=>by
  obtain ⟨wM,hc2,ht⟩:=Na (m:=m) (x:=x) hE hs hl hn
  rw [Zc]
  exact ⟨wM,hc2,ht⟩
end
end Go.Proofs.Ytbodincpjijdiaa
namespace Go.Proofs.Ytbodincpjijdiaa
open Go.AM
def bM (b:List UInt8) (i k:Nat):Nat→Nat→Nat
 | 0,n=>n
 | f + 1,n=>if n < 258∧k + n < b.length∧b[i + n]? = b[k + n]? then bM b i k f (n + 1) else n
section
variable {c:Nat} {b:List UInt8}
def Ak (c:Nat) (b:List UInt8) (i k n:Nat):AM.Frame:=[(0,.ro c (.pb b) 1),(1,.int .i64 (i:Nat)),(2,.int .i64 (k:Nat)),(7,.int .i64 (n:Nat))]
theorem abt {m i k n:Nat} {E:AM.Heap} (hi:i < k) (hn:n≤258) (hb:b.length≤100000) (hk:k≤100000):∃ code,((Try.f60.body).bind (aF [1,1,0,0,0,0,0])) = some code∧Run X (evT X) 60 m code (Ak c b i k n) E ⟨.normal,Ak c b i k n ++ [(32,.bool (decide (n < 258∧k + n < b.length∧b[i + n]? = b[k + n]?)))],E⟩:=by
 refine ⟨_,rfl,?_⟩
 simp only [Ak]
 by_cases h1:n < 258
 ·have h1I:(n:Int) < 258:=by omega
  have w1:IntKind.i64.wrap ((k:Int) + (n:Int)) = ((k + n:Nat):Int):=by rw [wrap_i64 (by omega) (by omega)];omega
  have w2:IntKind.i64.wrap ((i:Int) + (n:Int)) = ((i + n:Nat):Int):=by rw [wrap_i64 (by omega) (by omega)];omega
  by_cases h2:k + n < b.length
  ·have h2I:((k + n:Nat):Int) < (b.length:Int):=by omega
   have h3I:((i + n:Nat):Int) < (b.length:Int):=by omega
   have h3:i + n < b.length:=by omega
   obtain ⟨x,hx⟩:∃ x,b[i + n]? = some x:=⟨_,List.getElem?_eq_getElem h3⟩
   obtain ⟨y,hy⟩:∃ y,b[k + n]? = some y:=⟨_,List.getElem?_eq_getElem h2⟩
   rw [hx,hy]
   by_cases hxy:x = y
   ·subst hxy
    rw [show decide (n < 258∧k + n < b.length∧some x = some x) = true by simp [h1,h2]]
    generalize k + n = kn at *
    generalize i + n = n2 at *
    (refine ⟨0,?_⟩;simp (maxSteps:=2000000) -implicitDefEqProofs [-getElem?_pos,go_sem,eqV,ah,h1,h1I,w1,w2,h2,h2I,h3,h3I,hx,hy])
   ·rw [show decide (n < 258∧k + n < b.length∧some x = some y) = false by simp [hxy]]
    have hxI:¬ (x.toNat:Int) = (y.toNat:Int):=fun h=>hxy (UInt8.toNat_inj.1 (by omega))
    have hxN:¬ x.toNat = y.toNat:=fun h=>hxy (UInt8.toNat_inj.1 h)
    generalize k + n = kn at *
    generalize i + n = n2 at *
    (refine ⟨0,?_⟩;simp (maxSteps:=2000000) -implicitDefEqProofs [-getElem?_pos,go_sem,eqV,ah,h1,h1I,w1,w2,h2,h2I,h3,h3I,hx,hy,hxI,hxN])
  ·have h2I:¬ ((k + n:Nat):Int) < (b.length:Int):=by omega
   rw [show decide (n < 258∧k + n < b.length∧b[i + n]? = b[k + n]?) = false by simp [h2]]
   generalize k + n = kn at *
   (refine ⟨0,?_⟩;simp (maxSteps:=2000000) -implicitDefEqProofs [-getElem?_pos,go_sem,eqV,ah,h1,h1I,w1,w2,h2,h2I])
 ·have h1I:¬ (n:Int) < 258:=by omega
  rw [show decide (n < 258∧k + n < b.length∧b[i + n]? = b[k + n]?) = false by simp [h1]]
  (refine ⟨0,?_⟩;simp (maxSteps:=2000000) -implicitDefEqProofs [-getElem?_pos,go_sem,eqV,ah,h1,h1I])
theorem DC {i k n:Nat} (h:n < 258∧k + n < b.length∧b[i + n]? = b[k + n]?):bM b i k (258 - n) n = bM b i k (258 - (n + 1)) (n + 1):=by
 obtain ⟨f,hf⟩:∃ f,258 - n = f + 1:=⟨258 - (n + 1),by omega⟩
 rw [hf,bM,if_pos h,show 258 - (n + 1) = f by omega]
theorem FB {i k n:Nat} (h:¬ (n < 258∧k + n < b.length∧b[i + n]? = b[k + n]?)):∀ f,bM b i k f n = n
 | 0=>rfl
 | f + 1=>by rw [bM,if_neg h]
theorem P8 {m i k:Nat} {E:AM.Heap} (hi:i < k) (hb:b.length≤100000) (hk:k≤100000):∃ code,Try.f60.body = some code ∧
  Run X (evT X) 60 m code [(0,.ro c (.pb b) 1),(1,.int .i64 (i:Nat)),(2,.int .i64 (k:Nat))] E ⟨.ret,[(6,.int .i64 (bM b i k 258 0:Nat))],E⟩:=by
 refine ⟨_,rfl,?_⟩
 suffices hT:aj (fun o=>o = ⟨.ret,[(6,.int .i64 (bM b i k 258 0:Nat))],E⟩) X (evT X) 60 m _ [(0,.ro c (.pb b) 1),(1,.int .i64 (i:Nat)),(2,.int .i64 (k:Nat))] E by
  obtain ⟨o,rfl,hr⟩:=hT
  exact hr
 apply aj.seq (fr':=[(0,.ro c (.pb b) 1),(1,.int .i64 (i:Nat)),(2,.int .i64 (k:Nat))]) (H':=E)
 ·(refine ⟨0,?_⟩;simp (maxSteps:=2000000) -implicitDefEqProofs [-getElem?_pos,go_sem,eqV,ah])
 apply aj.seq (fr':=Ak c b i k 0) (H':=E)
 ·simp only [Ak]
  (refine ⟨0,?_⟩;simp (maxSteps:=2000000) -implicitDefEqProofs [-getElem?_pos,go_sem,eqV,ah,ak])
 apply aj.andThen (P:=fun fr H=>fr = Ak c b i k (bM b i k 258 0) ++ [(32,.bool false)]∧H = E)
 ·apply aj.block
  refine aj.loop (σ:=Nat) (fun n=>n≤258∧bM b i k (258 - n) n = bM b i k 258 0) (fun n=>Ak c b i k n) (fun _=>E) (fun n=>258 - n) ?_ 0 ⟨by omega,rfl⟩
  rintro n ⟨hn,he⟩
  have h2:=abt (m:=m) (c:=c) (E:=E) hi hn hb hk
  by_cases hc:n < 258∧k + n < b.length∧b[i + n]? = b[k + n]?
  ·left
   refine ⟨n + 1,⟨by omega,by rw [← DC hc];exact he⟩,?_,by omega⟩
   rw [decide_eq_true hc] at h2
   apply Run.seq (fr':=Ak c b i k n ++ [(32,.bool true)]) (H':=E)
   ·apply Run.seq (piece h2 _ rfl)
    refine Run.cond (d:=true) (by simp [Ak,aC,au]) ⟨0,rfl⟩
   ·apply Run.block
    ·have w1:IntKind.i64.wrap ((n:Int) + 1) = ((n + 1:Nat):Int):=by rw [wrap_i64 (by omega) (by omega)];omega
     simp only [Ak]
     (refine ⟨0,?_⟩;simp (maxSteps:=2000000) -implicitDefEqProofs [-getElem?_pos,go_sem,eqV,ah,w1,ak])
    ·simp
  ·right
   rw [decide_eq_false hc] at h2
   refine ⟨⟨.exit 0,Ak c b i k n ++ [(32,.bool false)],E⟩,⟨rfl,by rw [← he,FB hc],rfl⟩,by simp,?_⟩
   refine Run.bH ?_ (by simp)
   apply Run.seq (piece h2 _ rfl)
   refine Run.cond (d:=false) (by simp [Ak,aC,au]) ⟨0,rfl⟩
 rintro fr H ⟨rfl,rfl⟩
 generalize bM b i k 258 0 = n at *
 refine aj.of (o:=⟨.ret,[(6,.int .i64 (n:Nat))],H⟩) ?_ rfl
 refine ⟨0,?_⟩
 simp only [Ak]
 simp (maxSteps:=2000000) -implicitDefEqProofs [-getElem?_pos,go_sem,eqV,ah,ak]
theorem Ua {H:AM.Heap} {a:AV} {i k:Nat} (ha:gq H a = some (.pb b)) (hi:i < k) (hb:b.length≤100000) (hk:k≤100000):evT X 60 [a,.int .i64 (i:Nat),.int .i64 (k:Nat)] H = some (.int .i64 (bM b i k 258 0:Nat),H):=by
 have h3:=dL (C:=X) (f:=60) (i:=2) (a:=.int .i64 (k:Nat)) (H:=H) rfl rfl (bU 3)
 have h2:=dL (C:=X) (f:=60) (i:=1) (a:=.int .i64 (i:Nat)) (H:=H) rfl rfl h3
 obtain ⟨c,x,hx⟩:=dS (C:=X) (f:=60) (i:=0) rfl ha h2
 obtain ⟨code,hc,hr⟩:=P8 (m:=0) (c:=c) (b:=b) (E:=[]) hi hb hk
 refine dA (Ev1.nV (l:=[.int .i64 (bM b i k 258 0:Nat)]) (bn X) Try.func60 hc hx rfl (by simp [bW]) rfl rfl rfl ?_)
 rw [Zf]
 exact ⟨_,⟨rfl,rfl⟩,hr⟩
end
end Go.Proofs.Ytbodincpjijdiaa
namespace Go.Proofs.Ytbodincpjijdiaa
open Go.AM
abbrev Pls:=List (List UInt8 × List Nat)
def bxN (v:AV) (τ:Nat):AM.Obj:=⟨.pc [v],0,some 1,1,false,true,τ⟩
def pmO (l:List AV) (τ:Nat):AM.Obj:=⟨.pm l,0,none,1,false,true,τ⟩
def gW (l:List Nat):AV:=.pi .i64 (l.map Int.ofNat)
def ntE:List (Nat × Nat)→Pls→List AV
 | x :: ex,y :: M=>.pc [.agg (.pb y.1),.sl x.1 0 y.2.length x.2] :: ntE ex M
 | _,_=>[]
def pid (d n:Nat):List (Nat × Nat):=(List.range n).map fun k=>(d + k,0)
theorem Gh {d n k:Nat} (h:k < n):(pid d n)[k]? = some (d + k,0):=by
 unfold pid
 rw [List.getElem?_map,List.getElem?_range h];rfl
theorem qc (d n:Nat):(pid d n).length = n:=by simp [pid]
theorem yC (d n:Nat):pid d (n + 1) = (d,0) :: pid (d + 1) n:=by
 refine List.ext_getElem? fun k=>?_
 cases k with
 | zero=>rw [Gh (by omega)];rfl
 | succ k =>
  rw [List.getElem?_cons_succ]
  by_cases h:k < n
  ·rw [Gh (by omega),Gh h,show d + (k + 1) = d + 1 + k by omega]
  ·rw [List.getElem?_eq_none (by rw [qc];omega),List.getElem?_eq_none (by rw [qc];omega)]
theorem wE:∀ {ex:List (Nat × Nat)} {M:Pls},ex.length = M.length→(ntE ex M).length = M.length
 | [],[],_=>rfl
 | x :: ex,y :: M,h=>by simp [ntE,wE (ex:=ex) (M:=M) (by simpa using h)]
 | [],_ :: _,h=>by simp at h
 | _ :: _,[],h=>by simp at h
theorem Tm:∀ {ex:List (Nat × Nat)} {M:Pls} {j:Nat} {x:Nat × Nat} {y:List UInt8 × List Nat},ex[j]? = some x→M[j]? = some y→(ntE ex M)[j]? = some (.pc [.agg (.pb y.1),.sl x.1 0 y.2.length x.2])
 | [],_,_,_,_,h,_=>by simp at h
 | _ :: _,[],_,_,_,_,h=>by simp at h
 | a :: ex,c :: M,0,x,y,h,h2=>by
  simp at h h2
  subst h h2
  rfl
 | a :: ex,c :: M,j + 1,x,y,h,h2=>by
  simp only [ntE,List.getElem?_cons_succ]
  exact Tm (by simpa using h) (by simpa using h2)
theorem Ot:∀ {ex:List (Nat × Nat)} {M:Pls} {j:Nat} {x:Nat × Nat} {y:List UInt8 × List Nat},ex.length = M.length→(ntE ex M).set j (.pc [.agg (.pb y.1),.sl x.1 0 y.2.length x.2]) = ntE (ex.set j x) (M.set j y)
 | [],[],_,_,_,_=>rfl
 | _ :: _,[],_,_,_,h=>by simp at h
 | [],_ :: _,_,_,_,h=>by simp at h
 | a :: ex,c :: M,0,x,y,h=>rfl
 | a :: ex,c :: M,j + 1,x,y,h=>by
  simp only [ntE,List.set_cons_succ]
  rw [Ot (by simpa using h)]
theorem Ou:∀ {ex:List (Nat × Nat)} {M:Pls} {x:Nat × Nat} {y:List UInt8 × List Nat},ex.length = M.length→ntE ex M ++ [.pc [.agg (.pb y.1),.sl x.1 0 y.2.length x.2]] = ntE (ex ++ [x]) (M ++ [y])
 | [],[],_,_,_=>rfl
 | _ :: _,[],_,_,h=>by simp at h
 | [],_ :: _,_,_,h=>by simp at h
 | a :: ex,c :: M,x,y,h=>by
  simp only [ntE,List.cons_append]
  rw [Ou (by simpa using h)]
theorem yE:∀ {ex:List (Nat × Nat)} {M:Pls},ex.length = M.length→aJ (ntE ex M) = ex.map Prod.fst
 | [],[],_=>rfl
 | _ :: _,[],h=>by simp at h
 | [],_ :: _,h=>by simp at h
 | a :: ex,c :: M,h=>by
  have:=yE (ex:=ex) (M:=M) (by simpa using h)
  simp [ntE,aJ,ids,this]
theorem Ku:∀ {ex:List (Nat × Nat)} {M:Pls},bQ (ntE ex M) = []
 | [],_=>by simp [ntE,bQ]
 | _ :: _,[]=>rfl
 | a :: ex,c :: M=>by
  have:=Ku (ex:=ex) (M:=M)
  simp [ntE,bQ,tags,this]
theorem Ic {π:List (Nat × Nat)} {τ:Nat→Nat}:∀ {ex:List (Nat × Nat)} {M:Pls} {d:Nat},ex.length = M.length→(∀ k,k < M.length→π[d + k]? = ex[k]?)→bZ (jI π) τ (ntE (pid d M.length) M) = ntE ex M
 | [],[],_,_,_=>rfl
 | _ :: _,[],_,h,_=>by simp at h
 | [],_ :: _,_,h,_=>by simp at h
 | a :: ex,c :: M,d,h,hk=>by
  rw [List.length_cons,yC]
  simp only [ntE,bZ,ren]
  have h0:=hk 0 (by simp)
  simp at h0
  have hr:jI π d 0 = some a:=by unfold jI;rw [h0]
  rw [hr]
  simp only
  rw [Ic (ex:=ex) (M:=M) (d:=d + 1) (by simpa using h) (fun k hk2=>by
   have:=hk (k + 1) (by rw [List.length_cons];omega)
   rw [show d + 1 + k = d + (k + 1) by omega,this,List.getElem?_cons_succ])]
theorem Tn {x p:AV} (h:ren idN tz x = .agg p):∃ q,x = .agg q∧ren idN tz q = p:=by
 cases x <;> simp only [ren,idN,reduceCtorEq,AV.agg.injEq] at h
 exact ⟨_,rfl,h⟩
theorem Ov:∀ {ex:List (Nat × Nat)} {M:Pls} {l:List AV},bZ idN tz l = ntE ex M→l = ntE ex M
 | [],M,l,h=>by simp only [ntE] at h ⊢;exact oH h
 | _ :: _,[],l,h=>by simp only [ntE] at h ⊢;exact oH h
 | a :: ex,c :: M,l,h=>by
  simp only [ntE] at h
  obtain ⟨x,l',rfl,h1,h2⟩:=gu h
  obtain ⟨l1,rfl,h3⟩:=xK h1
  obtain ⟨y1,l2,rfl,h4,h5⟩:=gu h3
  obtain ⟨y2,l3,rfl,h6,h7⟩:=gu h5
  obtain rfl:=oH h7
  obtain ⟨q,rfl,h8⟩:=Tn h4
  obtain rfl:=GH h8
  obtain rfl:=CS h6
  rw [Ov h2]
  rfl
theorem Tq {ex:List (Nat × Nat)} {M:Pls}:bZ idN tz (ntE ex M) = ntE ex M:=by
 induction ex generalizing M with
 | nil=>simp [ntE,bZ]
 | cons a ex ih =>
  cases M with
  | nil=>rfl
  | cons c M=>simp [ntE,bZ,ren,idN,ih]
def ntS (c:Nat) (b:List UInt8) (M:Pls):List AM.Obj:=[bxN (.ro c (.pb b) 0) 0,bxN (.map 2 0) 0,pmO (ntE (pid 3 M.length) M) 0] ++ (M.map fun y=>gW y.2).map rwF
structure NtV (c:Nat) (b:List UInt8) (t:Nat) (H:AM.Heap) (o1 o4 om:Nat) (ex:List (Nat × Nat)) (M:Pls):Prop where
 bx:∃ τ1 τ,(τ1 = 0∨τ1 = t)∧(τ = 0∨τ = t)∧H[o1]? = some (some (bxN (.ro c (.pb b) τ1) τ))
 mb:∃ τ,(τ = 0∨τ = t)∧H[o4]? = some (some (bxN (.map om 0) τ))
 mp:∃ τ,(τ = 0∨τ = t)∧H[om]? = some (some (pmO (ntE ex M) τ))
 rows:eH t H ex (M.map fun y=>gW y.2)
 nd:(o1 :: o4 :: om :: ex.map Prod.fst).Nodup
section
variable {c:Nat} {b:List UInt8} {t:Nat} {H:AM.Heap} {o1 o4 om:Nat} {ex:List (Nat × Nat)} {M:Pls} {π:List (Nat × Nat)}
theorem NtV.len (h:NtV c b t H o1 o4 om ex M):ex.length = M.length:=by have:=h.rows.len;simpa using this
theorem FU:∀ p ∈ M.map (fun y=>gW y.2),ids p = []∧tags p = []:=by
 intro p hp
 obtain ⟨y,_,rfl⟩:=List.mem_map.1 hp
 exact ⟨rfl,rfl⟩
theorem VX {π0:List (Nat × Nat)}:∀ {ex:List (Nat × Nat)} {ps:List AV},eH t H ex ps→(∀ p ∈ ps,ids p = []∧tags p = [])→Ib t H π0 ex (ps.map rwF)
 | [],[],_,_=>trivial
 | x :: r,p :: ps,h,hf=>by
  obtain ⟨⟨τ,ob,h1,h2,h3⟩,h4⟩:=h
  obtain ⟨f1,f2⟩:=hf p (List.mem_cons_self ..)
  exact ⟨⟨ob,h2,Like.Td h3 f1 f2 h1⟩,VX h4 fun q hq=>hf q (List.mem_cons_of_mem _ hq)⟩
 | [],_ :: _,h,_=>h.elim
 | _ :: _,[],h,_=>h.elim
theorem NtV.img (h:NtV c b t H o1 o4 om ex M):Img t H ((o1,0) :: (o4,0) :: (om,0) :: ex) (ntS c b M):=by
 refine Img.ofL ?_ (by simpa using h.nd)
 obtain ⟨τ1,τ,a1,a2,h1⟩:=h.bx
 obtain ⟨τ2,b2,h2⟩:=h.mb
 obtain ⟨τ3,b3,h3⟩:=h.mp
 refine ⟨⟨_,h1,Like.S9 ?_ a2 ?_⟩,⟨_,h2,Like.S9 ?_ b2 ?_⟩,⟨_,h3,Like.S9 ?_ b3 ?_⟩,VX h.rows FU⟩
 ·simp [ren,bZ]
  rfl
 ·intro k hk
  simp [tags,bQ] at hk
  rw [hk];exact a1
 ·simp [ren,bZ,idN,jI]
 ·intro k hk
  simp [tags,bQ] at hk
 ·simp only [ren]
  rw [Tq,Ic (d:=3) h.len (fun k hk=>by
   rw [show 3 + k = k + 1 + 1 + 1 by omega,List.getElem?_cons_succ,List.getElem?_cons_succ,List.getElem?_cons_succ])]
 ·intro k hk
  simp [tags,Ku] at hk
theorem NtV.xg (h:Img t H π (ntS c b M)):∃ o1 o4 om ex,π = (o1,0) :: (o4,0) :: (om,0) :: ex∧NtV c b t H o1 o4 om ex M:=by
 obtain ⟨o1,g1,ob1,p1,q1,r1⟩:=h.ob 0 _ rfl
 obtain ⟨o4,g4,ob4,p4,q4,r4⟩:=h.ob 1 _ rfl
 obtain ⟨om,gm,obm,pm,qm,rm⟩:=h.ob 2 _ rfl
 have hR:=Img.rows (S:=[bxN (.ro c (.pb b) 0) 0,bxN (.map 2 0) 0,pmO (ntE (pid 3 M.length) M) 0]) h FU
 have hnd:=h.nodup
 obtain ⟨rfl,pp,τ,rfl,hτ,hp,ht⟩:=Like.box r1
 obtain ⟨rfl,pp2,τ2,rfl,hτ2,hp2,ht2⟩:=Like.box r4
 obtain ⟨rfl,pp3,τ3,rfl,hτ3,hp3,ht3⟩:=Like.box rm
 have hπ:π = (o1,0) :: (o4,0) :: (om,0) :: π.drop 3:=by
  match π,p1,p4,pm with
  | a :: b :: c :: r,p1,p4,pm =>
   simp at p1 p4 pm
   subst p1 p4 pm
   rfl
  | [],p1,_,_=>simp at p1
  | [_],_,p4,_=>simp at p4
  | [_,_],_,_,pm=>simp at pm
 simp only [List.length_cons,List.length_nil] at hR
 generalize hex:π.drop 3 = ex at *
 subst hπ
 have hl:=hR.len
 refine ⟨o1,o4,om,ex,rfl,?_,?_,?_,hR,by simpa using hnd⟩
 ·simp only [ren,bZ] at hp
  obtain ⟨l1,rfl,k1⟩:=xK hp
  obtain ⟨x,l2,rfl,e1,k2⟩:=gu k1
  obtain rfl:=oH k2
  obtain ⟨τ1,rfl⟩:=xJ e1
  exact ⟨τ1,τ,ht τ1 (by simp [tags,bQ]),hτ,q1⟩
 ·simp only [ren,bZ,jI] at hp2
  obtain ⟨l1,rfl,k1⟩:=xK hp2
  obtain ⟨x,l2,rfl,e1,k2⟩:=gu k1
  obtain rfl:=oH k2
  simp only [List.getElem?_cons_succ,List.getElem?_cons_zero] at e1
  obtain rfl:=Uy e1
  exact ⟨τ2,hτ2,q4⟩
 ·simp only [ren] at hp3
  rw [Ic (ex:=ex) (d:=3) (by simpa using hl) (fun k hk=>by
   rw [show 3 + k = k + 1 + 1 + 1 by omega,List.getElem?_cons_succ,List.getElem?_cons_succ,List.getElem?_cons_succ])] at hp3
  obtain ⟨l1,rfl,k1⟩:=Xn hp3
  rw [Ov k1] at qm
  exact ⟨τ3,hτ3,qm⟩
end
end Go.Proofs.Ytbodincpjijdiaa
namespace Go.Proofs.Ytbodincpjijdiaa
open Go.AM
def qE (k:List UInt8):Pls→Nat→Option Nat
 | [],_=>none
 | y :: M,j=>if y.1 = k then some j else qE k M (j + 1)
def ntM (M:Pls) (k:List UInt8) (i:Nat):Pls:=match qE k M 0 with
 | some j=>M.set j (k,(M.getD j ([],[])).2 ++ [i])
 | none=>M ++ [(k,[i])]
def jP (b:List UInt8) (i:Nat):List UInt8:=(b.drop i).take 3
def ntB (b:List UInt8) (M:Pls) (i:Nat):Pls:=if i + 3≤b.length then ntM M (jP b i) i else M
theorem rX:∀ {M:Pls} {k:List UInt8} {j0 j:Nat},qE k M j0 = some j→j0≤j∧∃ l,M[j - j0]? = some (k,l)
 | [],_,_,_,h=>by cases h
 | y :: M,k,j0,j,h=>by
  unfold qE at h
  split at h
  ·rename_i hk
   cases h
   subst hk
   exact ⟨Nat.le_refl _,y.2,by simp⟩
  ·obtain ⟨h1,l,h2⟩:=rX h
   refine ⟨by omega,l,?_⟩
   rw [show j - j0 = (j - (j0 + 1)) + 1 by omega,List.getElem?_cons_succ]
   exact h2
theorem mW:∀ {ex:List (Nat × Nat)} {M:Pls} {k:List UInt8} {j0 j:Nat},ex.length = M.length→(∀ y ∈ M,y.1.length = k.length)→qE k M j0 = some j→∃ x l,ex[j - j0]? = some x∧M[j - j0]? = some (k,l)∧oq (.agg (.pb k)) (ntE ex M) j0 = some (some (j,.sl x.1 0 l.length x.2))
 | _,[],_,_,_,_,_,h=>by cases h
 | [],_ :: _,_,_,_,hl,_,_=>by simp at hl
 | x :: ex,y :: M,k,j0,j,hl,hk,h=>by
  have hy:=hk y (List.mem_cons_self ..)
  unfold qE at h
  simp only [ntE,oq,mJ]
  rw [if_pos (by rw [hy])]
  split at h
  ·rename_i he
   cases h
   subst he
   exact ⟨x,y.2,by simp,by simp,by simp⟩
  ·rename_i he
   obtain ⟨x2,l,h1,h2,h3⟩:=mW (ex:=ex) (M:=M) (by simpa using hl) (fun z hz=>hk z (List.mem_cons_of_mem _ hz)) h
   have hj:=(rX h).1
   refine ⟨x2,l,by rw [show j - j0 = (j - (j0 + 1)) + 1 by omega,List.getElem?_cons_succ];exact h1,by rw [show j - j0 = (j - (j0 + 1)) + 1 by omega,List.getElem?_cons_succ];exact h2,?_⟩
   have hb:(k == y.1) = false:=by simpa using fun e=>he e.symm
   rw [hb]
   exact h3
theorem lD:∀ {ex:List (Nat × Nat)} {M:Pls} {k:List UInt8} {j0:Nat},ex.length = M.length→(∀ y ∈ M,y.1.length = k.length)→qE k M j0 = none→oq (.agg (.pb k)) (ntE ex M) j0 = some none
 | [],[],_,_,_,_,_=>rfl
 | _ :: _,[],_,_,hl,_,_=>by simp at hl
 | [],_ :: _,_,_,hl,_,_=>by simp at hl
 | x :: ex,y :: M,k,j0,hl,hk,h=>by
  have hy:=hk y (List.mem_cons_self ..)
  unfold qE at h
  split at h
  ·cases h
  ·rename_i he
   simp only [ntE,oq,mJ]
   rw [if_pos (by rw [hy])]
   have hb:(k == y.1) = false:=by simpa using fun e=>he e.symm
   rw [hb]
   exact lD (by simpa using hl) (fun z hz=>hk z (List.mem_cons_of_mem _ hz)) h
theorem key_eq {b:List UInt8} {i:Nat} {x y z:UInt8} (hx:b[i]? = some x) (hy:b[i + 1]? = some y) (hz:b[i + 2]? = some z):jP b i = [x,y,z]:=by
 unfold jP
 have h2:i + 2 < b.length:=(List.getElem?_eq_some_iff.1 hz).1
 rw [List.drop_eq_getElem_cons (by omega),List.drop_eq_getElem_cons (by omega),List.drop_eq_getElem_cons (by omega)]
 rw [List.getElem?_eq_getElem (by omega)] at hx hy hz
 simp only [List.take_succ_cons,List.take_zero]
 rw [Option.some.inj hx,Option.some.inj hy,Option.some.inj hz]
def keO (k:List UInt8):AM.Obj:=⟨.pb k,0,some 3,1,false,false,0⟩
section
variable {c:Nat} {b:List UInt8} {t:Nat} {H:AM.Heap} {o1 o4 om:Nat} {ex:List (Nat × Nat)} {M:Pls}
theorem abu {m i:Nat} {E:AM.Heap} (h:NtV c b t E 0 1 2 ex M) (hi:i≤100000) (hb:b.length≤100000):∃ code,((Try.f59.body).bind (aF [0])) = some code∧Run X (evT X) 59 m code [(0,.int .i64 (i:Nat)),(1,.ptr 0 0 0 0),(2,.ptr 1 0 0 0)] E ⟨.normal,[(0,.int .i64 (i:Nat)),(1,.ptr 0 0 0 0),(2,.ptr 1 0 0 0),(9,.bool (decide (i + 3≤b.length)))],E⟩:=by
 refine ⟨_,rfl,?_⟩
 obtain ⟨τ1,τ,_,_,h1⟩:=h.bx
 simp only [bxN] at h1
 have w1:IntKind.i64.wrap ((i:Int) + 3) = ((i + 3:Nat):Int):=by rw [wrap_i64 (by omega) (by omega)];omega
 by_cases hl:i + 3≤b.length
 ·have hlI:((i + 3:Nat):Int)≤(b.length:Int):=by omega
  rw [decide_eq_true hl]
  generalize i + 3 = i3 at *
  (refine ⟨0,?_⟩;simp (maxSteps:=2000000) -implicitDefEqProofs [-getElem?_pos,go_sem,eqV,ah,h1,w1,hl,hlI])
 ·have hlI:¬ ((i + 3:Nat):Int)≤(b.length:Int):=by omega
  rw [decide_eq_false hl]
  generalize i + 3 = i3 at *
  (refine ⟨0,?_⟩;simp (maxSteps:=2000000) -implicitDefEqProofs [-getElem?_pos,go_sem,eqV,ah,h1,w1,hl,hlI])
theorem Qs (x y z:UInt8):qB X 95 [(0,.int .u8 (x.toNat:Nat)),(1,.int .u8 (y.toNat:Nat)),(2,.int .u8 (z.toNat:Nat))] = some (.agg (.pb [x,y,z])):=by
 have hx:=x.toNat_lt;have hy:=y.toNat_lt;have hz:=z.toNat_lt
 have h:∀ u v w:Int,qB X 95 [(0,.int .u8 u),(1,.int .u8 v),(2,.int .u8 w)] = ((je [.int .u8 u,.int .u8 v,.int .u8 w]).map .pb).map .agg:=by
  intro u v w
  kernel_rfl
 rw [h]
 have a1:(x.toNat:Int) < 256:=by omega
 have a2:(y.toNat:Int) < 256:=by omega
 have a3:(z.toNat:Int) < 256:=by omega
 simp [je,a1,a2,a3]
theorem abv {m i:Nat} {E:AM.Heap} (h:NtV c b t E 0 1 2 ex M) (hi:i + 3≤b.length) (hb:b.length≤100000):∃ code,((Try.f59.body).bind (aF [1,0,0])) = some code∧Run X (evT X) 59 m code [(0,.int .i64 (i:Nat)),(1,.ptr 0 0 0 0),(2,.ptr 1 0 0 0),(9,.bool true)] E ⟨.normal,[(0,.int .i64 (i:Nat)),(2,.ptr 1 0 0 0),(4,.ptr E.length 0 0 0)],E ++ [some (keO (jP b i))]⟩:=by
 refine ⟨_,rfl,?_⟩
 obtain ⟨τ1,τ,_,_,h1⟩:=h.bx
 simp only [bxN] at h1
 have hE:=eY h1
 have hE2:¬ E.length = 0:=by omega
 have h1':(E ++ [some (keO [0,0,0])])[0]? = E[0]?:=List.getElem?_append_left hE
 obtain ⟨x,hx⟩:∃ x,b[i]? = some x:=⟨_,List.getElem?_eq_getElem (by omega)⟩
 obtain ⟨y,hy⟩:∃ x,b[i + 1]? = some x:=⟨_,List.getElem?_eq_getElem (by omega)⟩
 obtain ⟨z,hz⟩:∃ x,b[i + 2]? = some x:=⟨_,List.getElem?_eq_getElem (by omega)⟩
 rw [key_eq hx hy hz]
 have w1:IntKind.i64.wrap ((i:Int) + 1) = ((i + 1:Nat):Int):=by rw [wrap_i64 (by omega) (by omega)];omega
 have w2:IntKind.i64.wrap ((i:Int) + 2) = ((i + 2:Nat):Int):=by rw [wrap_i64 (by omega) (by omega)];omega
 have l0:i < b.length:=by omega
 have l1:i + 1 < b.length:=by omega
 have l2:i + 2 < b.length:=by omega
 have l0I:(i:Int) < (b.length:Int):=by omega
 have l1I:((i + 1:Nat):Int) < (b.length:Int):=by omega
 have l2I:((i + 2:Nat):Int) < (b.length:Int):=by omega
 simp only [keO]
 generalize i + 1 = i1 at *
 generalize i + 2 = i2 at *
 apply Run.dy (by simp) Qx (by simp)
 ·(conv=>lhs;simp (maxSteps:=2000000) -implicitDefEqProofs [-getElem?_pos,go_sem,eqV,ah,lJ,out1,cZ,tJ,pq,pushes,yO,kU,touched,mentioned,lX,jE,fH,tK,Op.operands,ids,aJ,aH,eU,dY,iO,CV,h1,hx,hy,hz,w1,w2,l0,l1,l2,l0I,l1I,l2I,Qs,FY,Bl,GR])
 ·refine Lj (ps:=[(0,1),(0,4),(1,4),(2,4),(3,4),(0,5),(1,5),(2,5),(3,5),(4,5),(0,6),(1,6),(2,6),(3,6),(4,6),(0,7),(1,7),(2,7),(3,7),(0,8),(1,8),(2,8),(3,8),(0,9),(1,9),(2,9),(3,9),(4,9),(5,9),(6,9),(7,9),(8,9),(0,10),(1,10),(2,10),(3,10),(4,10),(5,10),(6,10),(7,10),(8,10),(9,10),(0,11),(1,11),(2,11),(3,11),(4,11),(5,11),(6,11),(7,11),(8,11),(9,11),(0,12),(1,12),(2,12),(3,12),(4,12),(5,12),(6,12),(7,12),(8,12),(0,13),(1,13),(2,13),(3,13),(4,13),(5,13),(6,13),(7,13),(8,13),(0,15),(1,15),(2,15),(3,15),(4,15),(5,15),(6,15),(7,15),(8,15),(9,15),(10,15),(11,15),(12,15),(13,15),(14,15)]) (by kernel_rfl) ?_
  simp [VI,bear,disjoint,CW,Call.operands,aC,au,aJ,ids,GR,hE,hE2]
 ·rfl
end
end Go.Proofs.Ytbodincpjijdiaa
namespace Go.Proofs.Ytbodincpjijdiaa
open Go.AM
theorem bsN (H:AM.Heap) (x:Int):bP X H 36 1 [(0,.int .i64 x)] = some (.ro 1 (.pi .i64 [x]) 0,H):=by kernel_rfl
theorem YI (x y z:UInt8):rW X 94 (.agg (.pb [x,y,z])) = true:=by kernel_rfl
theorem VB:bg X (mM X 94) = .ro 0 .pn 0:=by kernel_rfl
theorem Ve {H:AM.Heap} {o g t:Nat} {ob:AM.Obj} {l:List Nat} {y:Nat} (ho:H[o]? = some (some ob)) (h:RwT (gW l) g t ob) (hn:l.length≤10000000) :
  ∃ ob',RwT (gW (l ++ [y])) (g + 1) t ob'∧bD X H 36 (.sl o 0 l.length g) (.ro 1 (.pi .i64 [(y:Int)]) 0) = some (.sl o 0 (l.length + 1) (g + 1),upd H o (some ob')):=by
 have hlive:live H o g = some ob:=by simp [live,ho,h.g]
 have hroom:fK X 3 (l.length + 1) = true:=by simp [fK];omega
 have hj:fA t 0 = some t:=by
  unfold fA
  by_cases h0:t = 0
  ·rw [if_pos h0,h0]
  ·rw [if_neg h0,if_pos (.inl rfl)]
 have hsrc:gU H (.ro 1 (.pi .i64 [(y:Int)]) 0) = some (.pi .i64 [(y:Int)],0):=by simp [gU,jF,kM]
 have hp:ob.p = .pi .i64 (l.map Int.ofNat):=h.p
 refine ⟨{ ob with p:=gW (l ++ [y]),g:=g + 1,cap:=(match ob.cap with | some c=>if 0 + l.length + AM.ah (.pi .i64 [(y:Int)])≤c then some (c - 0) else none | none=>none),z:=(if AM.ah ob.p = 0 then ob.z else 1),tg:=t },⟨rfl,rfl,h.row,h.ids,rfl⟩,?_⟩
 unfold bD
 simp only [Ny,size3,Uk,hsrc,hlive,h.row,h.ids,hp,h.tg]
 simp only [show ¬ ((1:Nat) = 0∨true = false) by simp,if_false]
 have hc:True∧True∧0 + l.length = AM.ah (.pi .i64 (l.map Int.ofNat))∧aK (.pi .i64 (l.map Int.ofNat)) = 1∧fK X 3 (l.length + AM.ah (.pi .i64 [(y:Int)])) = true:=⟨trivial,trivial,by simp [AM.ah],rfl,by simpa [AM.ah] using hroom⟩
 rw [if_pos hc]
 have hs:iw (.pi .i64 (l.map Int.ofNat)) 0 l.length = some (.pi .i64 (l.map Int.ofNat)):=by
  simp [iw]
  exact List.take_of_length_le (by simp)
 simp only [hs,og,hj,aK]
 simp [AM.ah,gW]
 rfl
theorem Vf (H:AM.Heap) (y:Nat):bD X H 36 (.ro 0 .pn 0) (.ro 1 (.pi .i64 [(y:Int)]) 0) = some (.sl H.length 0 1 0,H ++ [some ⟨gW [y],0,none,0,true,false,0⟩]):=by
 simp only [bD,Ny,size3,Uk]
 simp [gU,jF,ah,kM,fK,og,bJ,aK,gW]
section
variable {c:Nat} {b:List UInt8} {t:Nat} {H:AM.Heap} {ex:List (Nat × Nat)} {M:Pls}
def abw (i p:Nat):AM.Frame:=[(0,.int .i64 (i:Nat)),(2,.ptr 1 0 0 0),(4,.ptr p 0 0 0)]
theorem VY {m i p k:Nat} {v0 v1:AV} {E E1 E2 E3:AM.Heap} {τ:Nat} {key:List UInt8} (h4:E[1]? = some (some (bxN (.map 2 0) τ))) (hp:E[p]? = some (some (keO key))) (hk:key.length = 3)
  (hE:qO X E 94 (.map 2 0) (.agg (.pb key)) = some (.tup [v0,.int .i64 (k:Nat)],E1)) (hA:bD X E1 36 v0 (.ro 1 (.pi .i64 [(i:Int)]) 0) = some (v1,E2)) (hS:gG E2 (.map 2 0) (.int .i64 (k:Nat)) v1 = some E3) :
  ∃ code,((Try.f59.body).bind (aF [1,0,1])) = some code∧Run X (evT X) 59 m code (abw i p) E ⟨.normal,[],E3⟩:=by
 refine ⟨_,rfl,?_⟩
 simp only [bxN] at h4
 simp only [keO] at hp
 simp only [abw]
 (refine ⟨0,?_⟩;simp (maxSteps:=2000000) -implicitDefEqProofs [-getElem?_pos,go_sem,eqV,ah,h4,hp,hk,hE,hA,hS,bsN])
theorem NtV.keep {H':AM.Heap} {o1 o4 om:Nat} (h:NtV c b t H o1 o4 om ex M) (k1:H'[o1]? = H[o1]?) (k4:H'[o4]? = H[o4]?) (km:H'[om]? = H[om]?) (kr:∀ x ∈ ex,H'[x.1]? = H[x.1]?):NtV c b t H' o1 o4 om ex M:=by
 obtain ⟨τ1,τ,a1,a2,h1⟩:=h.bx
 obtain ⟨τ2,b2,h2⟩:=h.mb
 obtain ⟨τ3,b3,h3⟩:=h.mp
 exact ⟨⟨τ1,τ,a1,a2,by rw [k1];exact h1⟩,⟨τ2,b2,by rw [k4];exact h2⟩,⟨τ3,b3,by rw [km];exact h3⟩,h.rows.keep kr,h.nd⟩
theorem NtV.lt {o1 o4 om:Nat} (h:NtV c b t H o1 o4 om ex M):o1 < H.length∧o4 < H.length∧om < H.length∧∀ x ∈ ex,x.1 < H.length:=by
 obtain ⟨τ1,τ,a1,a2,h1⟩:=h.bx
 obtain ⟨τ2,b2,h2⟩:=h.mb
 obtain ⟨τ3,b3,h3⟩:=h.mp
 exact ⟨eY h1,eY h2,eY h3,h.rows.lt⟩
theorem NtV.cat {o1 o4 om:Nat} (r:AM.Heap) (h:NtV c b t H o1 o4 om ex M):NtV c b t (H ++ r) o1 o4 om ex M:=by
 obtain ⟨l1,l2,l3,l4⟩:=h.lt
 exact h.keep (List.getElem?_append_left l1) (List.getElem?_append_left l2) (List.getElem?_append_left l3) fun x hx=>List.getElem?_append_left (l4 x hx)
theorem Nw {M:Pls} {k:List UInt8} {i j:Nat} {l:List Nat} (h:qE k M 0 = some j) (hl:M[j]? = some (k,l)):ntM M k i = M.set j (k,l ++ [i]):=by
 unfold ntM
 rw [h]
 simp only
 rw [List.getD_eq_getElem?_getD,hl]
 rfl
theorem Nv {M:Pls} {k:List UInt8} {i:Nat} (h:qE k M 0 = none):ntM M k i = M ++ [(k,[i])]:=by
 unfold ntM
 rw [h]
theorem eH.setAt {ps:List AV} {j o g τ:Nat} {p:AV} {ob:AM.Obj} {H':AM.Heap} (h:eH t H ex ps) (hn:(ex.map Prod.fst).Nodup) (hj:∃ g0,ex[j]? = some (o,g0)) (hk:∀ x ∈ ex,x.1 ≠ o→H'[x.1]? = H[x.1]?) (ho:H'[o]? = some (some ob)) (hτ:τ = 0∨τ = t) (hw:RwT p g τ ob):eH t H' (ex.set j (o,g)) (ps.set j p):=by
 obtain ⟨g0,hj⟩:=hj
 have hjl:=eY hj
 refine eH.of (by simpa using h.len) ?_
 intro k q hq
 by_cases hkj:j = k
 ·subst hkj
  rw [List.getElem?_set] at hq
  simp only [if_true] at hq
  split at hq
  ·cases hq
   exact ⟨o,g,τ,ob,by rw [List.getElem?_set_self hjl],hτ,ho,hw⟩
  ·cases hq
 ·rw [List.getElem?_set_ne hkj] at hq
  obtain ⟨o2,g2,τ2,ob2,h1,h2,h3,h4⟩:=h.at' k q hq
  refine ⟨o2,g2,τ2,ob2,by rw [List.getElem?_set_ne hkj];exact h1,h2,?_,h4⟩
  have hne:o2 ≠ o:=by
   intro e
   subst e
   have e1:=Img.qJ h1
   have e2:=Img.qJ hj
   obtain ⟨l1,e1⟩:=List.getElem?_eq_some_iff.1 e1
   obtain ⟨l2,e2⟩:=List.getElem?_eq_some_iff.1 e2
   exact hkj ((List.getElem_inj hn).1 (e2.trans e1.symm))
  rw [hk (o2,g2) (List.mem_of_getElem? h1) hne]
  exact h3
theorem eH.app:∀ {ex:List (Nat × Nat)} {ps:List AV} {o g τ:Nat} {p:AV} {ob:AM.Obj},eH t H ex ps→(τ = 0∨τ = t)→H[o]? = some (some ob)→RwT p g τ ob→eH t H (ex ++ [(o,g)]) (ps ++ [p])
 | [],[],_,_,τ,_,ob,_,hτ,ho,hw=>⟨⟨τ,ob,hτ,ho,hw⟩,trivial⟩
 | x :: r,q :: ps,_,_,_,_,_,h,hτ,ho,hw=>⟨h.1,eH.app h.2 hτ ho hw⟩
 | [],_ :: _,_,_,_,_,_,h,_,_,_=>h.elim
 | _ :: _,[],_,_,_,_,_,h,_,_,_=>h.elim
theorem Vg {j o g0 g:Nat} (hj:ex[j]? = some (o,g0)):(ex.set j (o,g)).map Prod.fst = ex.map Prod.fst:=by
 refine List.ext_getElem? fun k=>?_
 rw [List.getElem?_map,List.getElem?_map]
 by_cases hkj:j = k
 ·subst hkj
  rw [List.getElem?_set_self (eY hj),hj];rfl
 ·rw [List.getElem?_set_ne hkj]
theorem OH {m i:Nat} {E:AM.Heap} (h:NtV c b t E 0 1 2 ex M) (hi:i≤100000) (hb:b.length≤100000) (hk:∀ y ∈ M,y.1.length = 3∧y.2.length≤1000000):∃ code,Try.f59.body = some code ∧
  aj (ru fun fr E'=>∃ ex',NtV c b t E' 0 1 2 ex' (ntB b M i)∧(∀ (k:Nat) (x:Nat × Nat),ex[k]? = some x→∃ g,ex'[k]? = some (x.1,g))∧(∀ k x,ex.length≤k→ex'[k]? = some x→E.length≤x.1)) X (evT X) 59 m code [(0,.int .i64 (i:Nat)),(1,.ptr 0 0 0 0),(2,.ptr 1 0 0 0)] E:=by
 refine ⟨_,rfl,?_⟩
 apply aj.seq (piece (abu h hi hb) _ rfl)
 unfold ntB
 by_cases hl:i + 3≤b.length
 ·rw [decide_eq_true hl,if_pos hl]
  refine aj.Qo (by simp [aC,au]) ?_
  apply aj.seq (piece (abv h hl hb) _ rfl)
  obtain ⟨x,hx⟩:∃ x,b[i]? = some x:=⟨_,List.getElem?_eq_getElem (by omega)⟩
  obtain ⟨y,hy⟩:∃ x,b[i + 1]? = some x:=⟨_,List.getElem?_eq_getElem (by omega)⟩
  obtain ⟨z,hz⟩:∃ x,b[i + 2]? = some x:=⟨_,List.getElem?_eq_getElem (by omega)⟩
  have hkey:=key_eq hx hy hz
  have hkl:(jP b i).length = 3:=by rw [hkey];rfl
  have hfit:rW X 94 (.agg (.pb (jP b i))) = true:=by rw [hkey];exact YI x y z
  generalize jP b i = key at *
  have hE0:=h.cat [some (keO key)]
  have hp0:(E ++ [some (keO key)])[E.length]? = some (some (keO key)):=by simp
  have hEl:(E ++ [some (keO key)]).length = E.length + 1:=by simp
  generalize E ++ [some (keO key)] = E0 at *
  obtain ⟨τ2,b2,h2⟩:=hE0.mb
  obtain ⟨τ3,b3,h3⟩:=hE0.mp
  have hlen:=hE0.len
  have hnd:=hE0.nd
  have hnd':(ex.map Prod.fst).Nodup:=by simp at hnd;exact hnd.2.2.2
  have hne2:∀ x ∈ ex,x.1 ≠ 2∧x.1 ≠ 0∧x.1 ≠ 1:=by
   intro x hx
   have hm:x.1 ∈ ex.map Prod.fst:=List.mem_map.2 ⟨x,hx,rfl⟩
   refine ⟨?_,?_,?_⟩ <;> (intro e;rw [e] at hm;simp at hnd hm;simp_all)
  have hlive:live E0 2 0 = some (pmO (ntE ex M) τ3):=by simp [live,h3,pmO]
  obtain ⟨l1,l2,l3,l4⟩:=hE0.lt
  cases hidx:qE key M 0 with
  | some j =>
   obtain ⟨⟨o,g⟩,l,f1,f2,f3⟩:=mW (ex:=ex) hlen (fun y hy=>by rw [(hk y hy).1,hkl]) hidx
   simp only [Nat.sub_zero] at f1 f2
   have hE1:qO X E0 94 (.map 2 0) (.agg (.pb key)) = some (.tup [.sl o 0 l.length g,.int .i64 (j:Nat)],E0):=by
    unfold qO
    rw [hfit]
    simp only [Bool.true_eq_false,if_false,hlive,pmO]
    rw [f3]
   obtain ⟨o',g',τ,ob,r1,r2,r3,r4⟩:=hE0.rows.at' j (gW l) (by rw [List.getElem?_map,f2];rfl)
   rw [f1] at r1
   obtain ⟨rfl,rfl⟩:o = o'∧g = g':=by simpa using r1
   obtain ⟨ob',w1,w2⟩:=Ve (y:=i) r3 r4 (by have:=(hk _ (List.mem_of_getElem? f2)).2;simp only at this;omega)
   obtain ⟨q2,q0,q1⟩:=hne2 (o,g) (List.mem_of_getElem? f1)
   simp only at q2 q0 q1
   have hm3:(upd E0 o (some ob'))[2]? = some (some (pmO (ntE ex M) τ3)):=zF h3 q2
   have Nb:live (upd E0 o (some ob')) 2 0 = some (pmO (ntE ex M) τ3):=by simp [live,hm3,pmO]
   have hent:=Tm f1 f2
   have hS:gG (upd E0 o (some ob')) (.map 2 0) (.int .i64 (j:Nat)) (.sl o 0 (l.length + 1) (g + 1)) = some (upd (upd E0 o (some ob')) 2 (some (pmO (ntE (ex.set j (o,g + 1)) (M.set j (key,l ++ [i]))) τ3))):=by
    unfold gG
    simp only [mO,Bool.true_eq_false,if_false,Nb,pmO]
    rw [if_pos (by omega),Int.toNat_natCast,hent]
    simp only
    rw [← Ot (x:=(o,g + 1)) (y:=(key,l ++ [i])) hlen]
    simp
   refine aj.of (o:=⟨.normal,[],_⟩) (piece (VY h2 hp0 hkl hE1 w2 hS) _ rfl) ⟨.inl rfl,ex.set j (o,g + 1),?_,?_,?_⟩
   ·rw [Nw hidx f2]
    obtain ⟨τ1,τ0,a1,a2,h1⟩:=hE0.bx
    refine ⟨⟨τ1,τ0,a1,a2,zF (zF h1 q0) (by omega)⟩,⟨τ2,b2,zF (zF h2 q1) (by omega)⟩,⟨τ3,b3,setAt hm3⟩,?_,?_⟩
    ·rw [List.map_set]
     refine eH.setAt hE0.rows hnd' ⟨g,f1⟩ (fun x hx hxo=>?_) (zF (setAt r3) (Ne.symm q2)) r2 w1
     unfold upd
     rw [List.getElem?_set_ne (Ne.symm (hne2 x hx).1),List.getElem?_set_ne (Ne.symm hxo)]
    ·rw [Vg f1]
     exact hnd
   ·intro k x hx
    by_cases hjk:j = k
    ·subst hjk
     rw [f1] at hx
     cases hx
     exact ⟨g + 1,List.getElem?_set_self (eY f1)⟩
    ·exact ⟨x.2,by rw [List.getElem?_set_ne hjk];exact hx⟩
   ·intro k x h1 h2
    have:=eY h2
    rw [List.length_set] at this
    omega
  | none =>
   have f3:=lD (ex:=ex) hlen (fun y hy=>by rw [(hk y hy).1,hkl]) hidx
   have hE1:qO X E0 94 (.map 2 0) (.agg (.pb key)) = some (.tup [.ro 0 .pn 0,.int .i64 (M.length:Nat)],upd E0 2 (some (pmO (ntE ex M ++ [.pc [.agg (.pb key),.ro 0 .pn 0]]) τ3))):=by
    unfold qO
    rw [hfit]
    simp only [Bool.true_eq_false,if_false,hlive,pmO]
    rw [f3]
    simp only [VB,wE hlen]
   have hA:=Vf (upd E0 2 (some (pmO (ntE ex M ++ [.pc [.agg (.pb key),.ro 0 .pn 0]]) τ3))) i
   have hul:(upd E0 2 (some (pmO (ntE ex M ++ [.pc [.agg (.pb key),.ro 0 .pn 0]]) τ3))).length = E0.length:=by simp [upd]
   have hu2:(upd E0 2 (some (pmO (ntE ex M ++ [.pc [.agg (.pb key),.ro 0 .pn 0]]) τ3)))[2]? = some (some (pmO (ntE ex M ++ [.pc [.agg (.pb key),.ro 0 .pn 0]]) τ3)):=setAt h3
   rw [hul] at hA
   have hu:∀ j,j ≠ 2→(upd E0 2 (some (pmO (ntE ex M ++ [.pc [.agg (.pb key),.ro 0 .pn 0]]) τ3)))[j]? = E0[j]?:=fun j hj=>by unfold upd;rw [List.getElem?_set_ne (Ne.symm hj)]
   generalize upd E0 2 (some (pmO (ntE ex M ++ [.pc [.agg (.pb key),.ro 0 .pn 0]]) τ3)) = E1 at *
   have hm3:(E1 ++ [some (⟨gW [i],0,none,0,true,false,0⟩:AM.Obj)])[2]? = some (some (pmO (ntE ex M ++ [.pc [.agg (.pb key),.ro 0 .pn 0]]) τ3)):=by rw [List.getElem?_append_left (by omega)];exact hu2
   have Nb:live (E1 ++ [some (⟨gW [i],0,none,0,true,false,0⟩:AM.Obj)]) 2 0 = some (pmO (ntE ex M ++ [.pc [.agg (.pb key),.ro 0 .pn 0]]) τ3):=by simp only [live,hm3,pmO,if_true]
   have hent:(ntE ex M ++ [AV.pc [.agg (.pb key),.ro 0 .pn 0]])[M.length]? = some (.pc [.agg (.pb key),.ro 0 .pn 0]):=by
    rw [List.getElem?_append_right (by rw [wE hlen];omega),wE hlen,Nat.sub_self];rfl
   have hset:(ntE ex M ++ [AV.pc [.agg (.pb key),.ro 0 .pn 0]]).set M.length (.pc [.agg (.pb key),.sl E0.length 0 1 0]) = ntE (ex ++ [(E0.length,0)]) (M ++ [(key,[i])]):=by
    rw [← Ou (x:=(E0.length,0)) (y:=(key,[i])) hlen,List.set_append_right _ _ (by rw [wE hlen];omega),wE hlen,Nat.sub_self]
    rfl
   have hS:gG (E1 ++ [some (⟨gW [i],0,none,0,true,false,0⟩:AM.Obj)]) (.map 2 0) (.int .i64 (M.length:Nat)) (.sl E0.length 0 1 0) = some (upd (E1 ++ [some (⟨gW [i],0,none,0,true,false,0⟩:AM.Obj)]) 2 (some (pmO (ntE (ex ++ [(E0.length,0)]) (M ++ [(key,[i])])) τ3))):=by
    unfold gG
    simp only [mO,Bool.true_eq_false,if_false,Nb,pmO]
    rw [if_pos (by omega),Int.toNat_natCast,hent]
    simp only
    rw [hset]
   refine aj.of (o:=⟨.normal,[],_⟩) (piece (VY h2 hp0 hkl hE1 hA hS) _ rfl) ⟨.inl rfl,ex ++ [(E0.length,0)],?_,?_,?_⟩
   ·rw [Nv hidx]
    obtain ⟨τ1,τ0,a1,a2,h1⟩:=hE0.bx
    have hold:∀ j,j ≠ 2→j < E0.length→(upd (E1 ++ [some (⟨gW [i],0,none,0,true,false,0⟩:AM.Obj)]) 2 (some (pmO (ntE (ex ++ [(E0.length,0)]) (M ++ [(key,[i])])) τ3)))[j]? = E0[j]?:=fun j hj hjl=>by
     unfold upd
     rw [List.getElem?_set_ne (Ne.symm hj),List.getElem?_append_left (by omega),hu j hj]
    have abx:(upd (E1 ++ [some (⟨gW [i],0,none,0,true,false,0⟩:AM.Obj)]) 2 (some (pmO (ntE (ex ++ [(E0.length,0)]) (M ++ [(key,[i])])) τ3)))[E0.length]? = some (some ⟨gW [i],0,none,0,true,false,0⟩):=by
     unfold upd
     rw [List.getElem?_set_ne (by omega),List.getElem?_append_right (by omega),hul,Nat.sub_self]
     rfl
    refine ⟨⟨τ1,τ0,a1,a2,by rw [hold 0 (by omega) l1];exact h1⟩,⟨τ2,b2,by rw [hold 1 (by omega) l2];exact h2⟩,⟨τ3,b3,setAt hm3⟩,?_,?_⟩
    ·rw [List.map_append]
     refine eH.app (hE0.rows.keep fun x hx=>hold x.1 (hne2 x hx).1 (l4 x hx)) (τ:=0) (.inl rfl) (ob:=⟨gW [i],0,none,0,true,false,0⟩) abx ⟨rfl,rfl,rfl,rfl,rfl⟩
    ·rw [List.map_append]
     simp only [List.map_cons,List.map_nil]
     rw [show (0 :: 1 :: 2 :: (ex.map Prod.fst ++ [E0.length])) = (0 :: 1 :: 2 :: ex.map Prod.fst) ++ [E0.length] by simp,List.nodup_append]
     refine ⟨hnd,by simp,?_⟩
     intro x hx y hy
     simp only [List.mem_singleton] at hy
     subst hy
     simp only [List.mem_cons] at hx
     rcases hx with rfl | rfl | rfl | hx
     ·omega
     ·omega
     ·omega
     ·obtain ⟨z,hz,rfl⟩:=List.mem_map.1 hx
      have:=l4 z hz
      omega
   ·intro k x hx
    exact ⟨x.2,by rw [List.getElem?_append_left (eY hx)];exact hx⟩
   ·intro k x h1 h2
    have hkk:=eY h2
    simp at hkk
    have:k = ex.length:=by omega
    subst this
    rw [List.getElem?_append_right (Nat.le_refl _),Nat.sub_self] at h2
    simp at h2
    rw [← h2]
    simp only
    omega
 ·rw [decide_eq_false hl,if_neg hl]
  refine aj.of (o:=⟨.normal,[(0,.int .i64 (i:Nat)),(1,.ptr 0 0 0 0),(2,.ptr 1 0 0 0),(9,.bool false)],E⟩) (Run.cond (d:=false) (by simp [aC,au]) ⟨0,rfl⟩) ⟨.inl rfl,ex,h,fun k x hx=>⟨x.2,hx⟩,fun k x h1 h2=>by have:=eY h2;omega⟩
end
end Go.Proofs.Ytbodincpjijdiaa
