/- ZK to QJ: texts of this claim, one behind the other; what each shows stands at its head. -/
import Derived.Test.YtbodincpjijdiaaMg6
set_option linter.unusedSimpArgs false
set_option linter.unusedVariables false
set_option maxRecDepth 100000
set_option maxHeartbeats 8000000
namespace Go.Proofs.Ytbodincpjijdiaa
open Go.AM
theorem BF (n:Int):IntKind.u32.wrap n = n % 4294967296:=by simp [IntKind.wrap,IntKind.signed,IntKind.bits]
theorem Qy {lo hi:Nat} (h:lo < 65521) (h2:hi < 65521):Ce lo hi = ((hi * 65536 + lo:Nat):Int):=by
  have b:∀ n:Nat,n < 4294967296→(AM.bits .u32 (n:Int)).toNat = n:=by
    intro n hn
    unfold AM.bits
    rw [BitVec.toNat_ofInt]
    show ((n:Int) % 4294967296).toNat = n
    omega
  have e1:IntKind.u32.wrap ((hi:Int) * 2 ^ (min 16 32)) = ((hi * 65536:Nat):Int):=by
    rw [BF,show (2:Int) ^ (min 16 32) = 65536 by decide]
    omega
  unfold Ce
  rw [e1,BitVec.toNat_or,b _ (by omega),b _ (by omega),BF]
  have e2:hi * 65536 ||| lo = hi * 65536 + lo:=by
    have:=Nat.two_pow_add_eq_or_of_lt (i:=16) (b:=lo) (by omega) hi
    rw [show 2 ^ 16 * hi = hi * 65536 by omega] at this
    exact this.symm
  rw [e2]
  omega
theorem Iy {n:Int} (h:0≤n):∃ k:Nat,n.tmod 65521 = (k:Nat)∧k < 65521:=by
  rw [Int.tmod_eq_emod_of_nonneg h]
  exact ⟨(n % 65521).toNat,by omega,by omega⟩
theorem EC:∀ (l:List UInt8) (lo hi:Int),(∃ k:Nat,lo = (k:Nat)∧k < 65521)→(∃ k:Nat,hi = (k:Nat)∧k < 65521)→∃ a b:Nat,iK lo hi l = ((a:Int),(b:Int))∧a < 65521∧b < 65521
  | [],lo,hi,⟨k,h1,h2⟩,⟨j,h3,h4⟩=>⟨k,j,by rw [iK,h1,h3],h2,h4⟩
  | x :: r,lo,hi,_,_=>by
    rw [iK]
    exact EC r _ _ (by unfold lo1;exact Iy (vJ _).1) (by unfold hi1;exact Iy (vJ _).1)
section
variable {c:Nat} {l:List UInt8}
def xq (c t:Nat) (l:List UInt8) (lo hi:Int) (i:Nat):AM.Frame:=[(1,.ro c (.pb l) t),(5,.int .u32 lo),(6,.int .u32 hi),(7,.int .i64 (i:Nat))]
theorem KO {t:Nat} (hl:l.length≤1000000):∃ code,Try.f48.body = some code∧Run X (evT X) 48 0 code [(0,.int .u32 1),(1,.ro c (.pb l) t)] [] ⟨.ret,[(4,.int .u32 (adl l:Nat))],[]⟩:=by
  refine ⟨_,rfl,?_⟩
  have t1:(1:Int).tmod 65536 = 1:=by decide
  have t2:(1:Int).tmod 65521 = 1:=by decide
  have t3:(1:Int).tdiv 65536 = 0:=by decide
  have t4:(0:Int).tmod 65521 = 0:=by decide
  apply Run.seq (fr':=[(0,.int .u32 1),(1,.ro c (.pb l) t)]) (H':=[])
  · (refine ⟨0,?_⟩;simp (maxSteps:=2000000) -implicitDefEqProofs [-getElem?_pos,go_sem,eqV,ah])
  apply Run.seq (fr':=[(1,.ro c (.pb l) t),(5,.int .u32 1),(6,.int .u32 0)]) (H':=[])
  · exact ⟨0,rfl⟩
  apply Run.seq (fr':=xq c t l (iK 1 0 l).1 (iK 1 0 l).2 l.length ++ [(17,.bool false)]) (H':=[])
  · apply Run.seq (fr':=xq c t l 1 0 0) (H':=[])
    · simp only [xq]
      (refine ⟨0,?_⟩;simp (maxSteps:=2000000) -implicitDefEqProofs [-getElem?_pos,go_sem,eqV,ah])
    apply Run.eF
    refine Run.jD (σ:=Nat × Int × Int) (fun s=>s.1≤l.length∧iK s.2.1 s.2.2 (l.drop s.1) = iK 1 0 l) (fun s=>xq c t l s.2.1 s.2.2 s.1) (fun _=>[]) (fun _=>⟨.exit 0,xq c t l (iK 1 0 l).1 (iK 1 0 l).2 l.length ++ [(17,.bool false)],[]⟩) (fun s=>l.length - s.1) ?_ (0,1,0) ⟨by simp,rfl⟩
    rintro ⟨i,lo,hi⟩ ⟨h1,h2⟩
    simp only at h1 h2 ⊢
    by_cases he:i = l.length
    · right
      subst he
      rw [List.drop_length] at h2
      refine ⟨?_,by simp⟩
      rw [← h2]
      simp only [iK,xq]
      generalize hL:l.length = L at *
      (refine ⟨0,?_⟩;simp (maxSteps:=2000000) -implicitDefEqProofs [-getElem?_pos,go_sem,eqV,ah,hL])
    · left
      have hlt:i < l.length:=by omega
      have iT:(i:Int) < (l.length:Int):=by omega
      obtain ⟨x,hx⟩:∃ x,l[i]? = some x:=⟨l[i],List.getElem?_eq_getElem hlt⟩
      rw [Ci l i lo hi hx] at h2
      have w1:IntKind.i64.wrap ((i:Int) + 1) = ((i + 1:Nat):Int):=by rw [wrap_i64 (by omega) (by omega)];omega
      refine ⟨(i + 1,lo1 lo x,hi1 lo hi x),⟨by simp only;omega,h2⟩,?_,trivial,by simp only;omega⟩
      simp only
      apply Run.seq (fr':=xq c t l lo hi i ++ [(17,.bool true)]) (H':=[])
      · apply Run.seq (fr':=xq c t l lo hi i ++ [(17,.bool true)]) (H':=[])
        · simp only [xq]
          generalize hL:l.length = L at *
          (refine ⟨0,?_⟩;simp (maxSteps:=2000000) -implicitDefEqProofs [-getElem?_pos,go_sem,eqV,ah,iT,hlt,hL])
        · exact Run.cond (d:=true) (by simp [xq,aC,au]) ⟨0,rfl⟩
      apply Run.seq (fr':=xq c t l (lo1 lo x) (hi1 lo hi x) i) (H':=[])
      · refine Run.block ?_ (by simp)
        apply Run.seq (fr':=xq c t l (lo1 lo x) hi i) (H':=[])
        · simp only [xq,lo1]
          generalize hL:l.length = L at *
          (refine ⟨0,?_⟩;simp (maxSteps:=2000000) -implicitDefEqProofs [-getElem?_pos,go_sem,eqV,ah,hx,iT,hlt,hL])
        exact ⟨0,rfl⟩
      · simp only [xq]
        generalize i + 1 = i1 at *
        (refine ⟨0,?_⟩;simp (maxSteps:=2000000) -implicitDefEqProofs [-getElem?_pos,go_sem,eqV,ah,w1])
  obtain ⟨a,b,hm,ha,hb⟩:=EC l 1 0 ⟨1,rfl,by omega⟩ ⟨0,rfl,by omega⟩
  have hj:=KP l
  rw [hm] at hj ⊢
  simp only at hj ⊢
  rw [Qy ha hb] at hj
  rw [← hj]
  have w1:IntKind.u32.wrap ((b:Int) * 65536) = ((b * 65536:Nat):Int):=by rw [BF];omega
  have w2:IntKind.u32.wrap (((b * 65536:Nat):Int) + (a:Int)) = ((b * 65536 + a:Nat):Int):=by rw [BF];omega
  generalize b * 65536 + a = s at *
  generalize b * 65536 = b6 at *
  refine ⟨0,?_⟩
  simp only [xq]
  simp (maxSteps:=2000000) -implicitDefEqProofs [-getElem?_pos,go_sem,eqV,ah,w1,w2]
theorem Qz {H:AM.Heap} {a:AV} (ha:gq H a = some (.pb l)) (hl:l.length≤1000000):evT X 48 [.int .u32 1,a] H = some (.int .u32 (adl l:Nat),H):=by
  obtain ⟨c,x,hx⟩:=dS (C:=X) (f:=48) (i:=1) rfl ha (bU 2)
  have hx2:=dL (C:=X) (f:=48) (i:=0) (a:=.int .u32 1) (H:=H) rfl rfl hx
  obtain ⟨code,hc,hr⟩:=KO (c:=c) (l:=l) (t:=2) hl
  refine dA (Ev1.nV (l:=[.int .u32 (adl l:Nat)]) (bn X) Try.func48 hc hx2 (by simp [aJ,ids]) (by simp [bW]) rfl rfl rfl ?_)
  rw [Y9]
  exact ⟨_,⟨rfl,rfl⟩,hr⟩
theorem Um {H:AM.Heap} {a:AV} (ha:gq H a = some (.pb l)) (hl:l.length≤1000000):evT X 38 [a] H = some (.int .u32 (adl l:Nat),H):=by
  obtain ⟨c,x,hx⟩:=dS (C:=X) (f:=38) (i:=0) rfl ha (bU 1)
  have hm:=Qz (H:=[]) (a:=.ro c (.pb l) 1) (l:=l) rfl hl
  have hr:∃ code,Try.f38.body = some code∧Run X (evT X) 38 0 code [(0,.ro c (.pb l) 1)] [] ⟨.ret,[(2,.int .u32 (adl l:Nat))],[]⟩:=by
    refine ⟨_,rfl,0,?_⟩
    simp (maxSteps:=2000000) -implicitDefEqProofs [-getElem?_pos,go_sem,eqV,ah,hm]
  obtain ⟨code,hc,hr⟩:=hr
  refine dA (Ev1.nV (l:=[.int .u32 (adl l:Nat)]) (bn X) Try.func38 hc hx (by simp [aJ,ids]) (by simp [bW]) rfl rfl rfl ?_)
  rw [Y4]
  exact ⟨_,⟨rfl,rfl⟩,hr⟩
end
end Go.Proofs.Ytbodincpjijdiaa
namespace Go.Proofs.Ytbodincpjijdiaa
open Go.AM
def oV:AM.Obj:=⟨.pb [],0,none,0,true,false,0⟩
theorem Gj:rowOf (bJ X 5) none 0 = oV:=by simp [bJ,rowOf,oV]
section
variable {s:Ws} {v:Nat} {E:AM.Heap}
theorem aaC {m q g τ:Nat} {B:List UInt8} {ob:AM.Obj} {tl:AM.Frame} (ho:E[q]? = some (some ob)) (hw:RwT (.pb B) g τ ob) (hk:s.k / 8 < B.length) (hv:v < 2) (hl:s.k≤10000000) :
    ∃ ob',RwT (.pb (B.set (s.k / 8) (orB (B[s.k / 8]) (v:Nat) (s.k % 8)))) g τ ob'∧∃ code,((Try.f79.body).bind (aF [1,1,0])) = some code∧Run X (evT X) 79 m code ((0,.sl q 0 B.length g) :: (1,.int .i64 (s.k:Nat)) :: (2,.int .i64 (v:Nat)) :: tl) E ⟨.normal,[(0,.sl q 0 B.length g)],upd E q (some ob')⟩:=by
  have q1:=hw.p;have q2:=hw.g;have q4:=hw.ids;have q5:=hw.tg
  have w2:((s.k:Nat):Int).tdiv 8 = ((s.k / 8:Nat):Int):=by rw [Int.tdiv_eq_ediv_of_nonneg (by omega)];omega
  have w2':((s.k:Nat):Int) / 8 = ((s.k / 8:Nat):Int):=by omega
  have w3:((s.k:Nat):Int).tmod 8 = ((s.k % 8:Nat):Int):=by rw [Int.tmod_eq_emod_of_nonneg (by omega)];omega
  have w3':((s.k:Nat):Int) % 8 = ((s.k % 8:Nat):Int):=by omega
  have w4:IntKind.i64.wrap ((s.k / 8:Nat):Int) = ((s.k / 8:Nat):Int):=wrap_i64 (by omega) (by omega)
  have w5:IntKind.i64.wrap ((s.k % 8:Nat):Int) = ((s.k % 8:Nat):Int):=wrap_i64 (by omega) (by omega)
  have w6:IntKind.u64.wrap ((s.k % 8:Nat):Int) = ((s.k % 8:Nat):Int):=wrap_u64 (by omega) (by omega)
  have w7:IntKind.u8.wrap ((v:Nat):Int) = ((v:Nat):Int):=wu8 (by omega)
  have hkI:((s.k / 8:Nat):Int) < (B.length:Int):=by omega
  have hkr:s.k % 8 < 8:=Nat.mod_lt _ (by omega)
  obtain ⟨y,hy⟩:∃ y,B[s.k / 8]? = some y:=⟨_,List.getElem?_eq_getElem hk⟩
  have hyg:B[s.k / 8] = y:=by rw [List.getElem?_eq_getElem hk] at hy;exact Option.some.inj hy
  rw [hyg]
  clear hyg
  have hv2:(((v:Nat):Int) % 2).toNat = v:=by omega
  have hy2:=y.toNat_lt
  have hsh:=Wv hv hkr
  have hor:y.toNat ||| v * 2 ^ (s.k % 8) < 256:=Nat.or_lt_two_pow (n:=8) hy2 hsh
  have f0:¬ ((s.k % 8:Nat):Int) < 0:=by omega
  have f2:IntKind.u8.wrap (((v:Nat):Int) * 2 ^ min (s.k % 8) 8) = ((v * 2 ^ (s.k % 8):Nat):Int):=by
    rw [Nat.min_eq_left (by omega)]
    have e:((v:Nat):Int) * 2 ^ (s.k % 8) = ((v * 2 ^ (s.k % 8):Nat):Int):=by push_cast;rfl
    rw [e,wu8 hsh]
  have f3:IntKind.u8.wrap ((AM.bits .u8 ((y.toNat:Nat):Int) ||| AM.bits .u8 ((v * 2 ^ (s.k % 8):Nat):Int)).toNat:Nat) = ((y.toNat ||| v * 2 ^ (s.k % 8):Nat):Int):=by
    rw [BitVec.toNat_or,Gl hy2,Gl hsh,wu8 hor]
  have hwI:((y.toNat ||| v * 2 ^ (s.k % 8):Nat):Int) < 256:=by omega
  refine ⟨{ ob with p:=.pb (B.set (s.k / 8) (orB y (v:Nat) (s.k % 8))) },⟨rfl,hw.g,hw.row,hw.ids,hw.tg⟩,_,rfl,?_⟩
  unfold orB
  rw [hv2]
  generalize v * 2 ^ (s.k % 8) = sh at *
  generalize y.toNat ||| sh = wv at *
  generalize s.k / 8 = kd at *
  generalize s.k % 8 = kr at *
  generalize hN:B.length = N at *
  have hτ:(if τ = 0 then some 0 else some τ) = some τ:=by
    split
    · rename_i h;rw [h]
    · rfl
  simp only [go_sem] at f2 f3 w7
  refine ⟨0,?_⟩
  simp (maxSteps:=2000000) -implicitDefEqProofs [-getElem?_pos,go_sem,eqV,ah,retag,ho,q1,q2,q4,q5,w2,w2',w3,w3',w4,w5,w6,w7,hk,hkI,hy,hN,f0,f2,f3,hwI,hτ]
theorem KQ {m q g τ:Nat} {B:List UInt8} {ob:AM.Obj} {tl:AM.Frame} (ho:E[q]? = some (some ob)) (hw:RwT (.pb B) g τ ob) (hk:s.k / 8 < B.length) (hv:v < 2) (hl:s.k≤10000000) (hB:B = if s.k % 8 = 0 then s.o ++ [0] else s.o) :
    ∃ ob',RwT (.pb (dR s (v:Nat)).o) g τ ob'∧∃ code,((Try.f79.body).bind (aF [1,1])) = some code∧Run X (evT X) 79 m code ((0,.sl q 0 B.length g) :: (1,.int .i64 (s.k:Nat)) :: (2,.int .i64 (v:Nat)) :: tl) E ⟨.ret,[(6,.sl q 0 (dR s (v:Nat)).o.length g)],upd E q (some ob')⟩:=by
  obtain ⟨ob',w,hr⟩:=aaC (m:=m) (tl:=tl) ho hw hk hv hl
  have hbw:(dR s (v:Nat)).o = B.set (s.k / 8) (orB (B[s.k / 8]) (v:Nat) (s.k % 8)):=by
    have hg:B.getD (s.k / 8) 0 = B[s.k / 8]:=by rw [List.getD_eq_getElem?_getD,List.getElem?_eq_getElem hk];rfl
    unfold dR
    rw [← hB,hg]
  have hlen:(dR s (v:Nat)).o.length = B.length:=by rw [hbw,List.length_set]
  refine ⟨ob',by rw [hbw];exact w,_,rfl,?_⟩
  rw [hlen]
  apply Run.seq (piece hr _ rfl)
  clear hr hlen hbw w
  generalize B.length = N at *
  refine ⟨0,?_⟩
  simp (maxSteps:=2000000) -implicitDefEqProofs [-getElem?_pos,go_sem,eqV,ah,ak]
theorem QA {m τ:Nat} {ob:AM.Obj} (hw:RwT (.pb s.o) 0 τ ob) (hs:gQ s) (hv:v < 2) (hl:s.k≤9000000):∃ g ob1 R,RwT (.pb (dR s (v:Nat)).o) g τ ob1∧∃ code,Try.f79.body = some code ∧
    Run X (evT X) 79 m code [(0,.sl 0 0 s.o.length 0),(1,.int .i64 (s.k:Nat)),(2,.int .i64 (v:Nat))] [some ob] ⟨.ret,[(6,.sl 0 0 (dR s (v:Nat)).o.length g)],some ob1 :: R⟩:=by
  have hso:=hs
  unfold gQ at hso
  have w3:((s.k:Nat):Int).tmod 8 = ((s.k % 8:Nat):Int):=by rw [Int.tmod_eq_emod_of_nonneg (by omega)];omega
  have w3':((s.k:Nat):Int) % 8 = ((s.k % 8:Nat):Int):=by omega
  have w5:IntKind.i64.wrap ((s.k % 8:Nat):Int) = ((s.k % 8:Nat):Int):=wrap_i64 (by omega) (by omega)
  by_cases h8:s.k % 8 = 0
  · obtain ⟨ob2,w2,hA⟩:=BA (C:=X) (T:=22) (e:=5) (H:=[some ob,some oV]) (o:=0) (src:=.ro 1 (.pb [0]) 0) (m:=[0]) kK rV kL bytes5 qC rfl hw (.inl (by simp [gU,jF,kM])) (by simp;omega)
    have hlen:(s.o ++ [0]).length = s.o.length + 1:=by simp
    have hB:s.k / 8 < (s.o ++ [0]).length:=by rw [hlen];omega
    obtain ⟨ob3,w4,hr⟩:=KQ (m:=m) (E:=AM.upd [some ob,some oV] 0 (some ob2)) (q:=0) (tl:=[]) rfl w2 hB hv (by omega) (by rw [if_pos h8])
    refine ⟨_,ob3,[some oV],w4,_,rfl,?_⟩
    have hbs:=bsW [some ob,some oV] 0
    simp only [show ((0:UInt8).toNat:Int) = 0 from rfl] at hbs
    rw [hlen] at hr
    rw [h8] at w3 w3' w5
    simp only [List.length_singleton] at hA
    apply Run.seq (fr':=[(0,.sl 0 0 s.o.length 0),(1,.int .i64 (s.k:Nat)),(2,.int .i64 (v:Nat))]) (H':=[some ob,some oV])
    · generalize s.o.length = N at *
      (refine ⟨0,?_⟩;simp (maxSteps:=2000000) -implicitDefEqProofs [-getElem?_pos,go_sem,eqV,ah,ak,Gj])
    apply Run.seq (fr':=[(0,.sl 0 0 (s.o.length + 1) (0 + 1)),(1,.int .i64 (s.k:Nat)),(2,.int .i64 (v:Nat))]) (H':=AM.upd [some ob,some oV] 0 (some ob2))
    · apply Run.seq (fr':=[(0,.sl 0 0 s.o.length 0),(1,.int .i64 (s.k:Nat)),(2,.int .i64 (v:Nat)),(9,.bool true)]) (H':=[some ob,some oV])
      · generalize s.o.length = N at *
        (refine ⟨0,?_⟩;simp (maxSteps:=2000000) -implicitDefEqProofs [-getElem?_pos,go_sem,eqV,ah,w3,w3',w5])
      · refine Run.cond (d:=true) (by simp [aC,au]) ?_
        generalize s.o.length + 1 = N1 at *
        generalize s.o.length = N at *
        (refine ⟨0,?_⟩;simp (maxSteps:=2000000) -implicitDefEqProofs [-getElem?_pos,go_sem,eqV,ah,hbs,hA,ak])
    exact piece hr _ rfl
  · have hB:s.k / 8 < s.o.length:=by omega
    obtain ⟨ob3,w4,hr⟩:=KQ (m:=m) (s:=s) (v:=v) (B:=s.o) (E:=[some ob,some oV]) (q:=0) (tl:=[(9,.bool false)]) rfl hw hB hv (by omega) (by rw [if_neg h8])
    refine ⟨_,ob3,[some oV],w4,_,rfl,?_⟩
    have hzI:¬ ((s.k % 8:Nat):Int) = 0:=by omega
    have hzb:(((s.k % 8:Nat):Int) == 0) = false:=by simpa using hzI
    apply Run.seq (fr':=[(0,.sl 0 0 s.o.length 0),(1,.int .i64 (s.k:Nat)),(2,.int .i64 (v:Nat))]) (H':=[some ob,some oV])
    · generalize s.o.length = N at *
      (refine ⟨0,?_⟩;simp (maxSteps:=2000000) -implicitDefEqProofs [-getElem?_pos,go_sem,eqV,ah,ak,Gj])
    apply Run.seq (fr':=[(0,.sl 0 0 s.o.length 0),(1,.int .i64 (s.k:Nat)),(2,.int .i64 (v:Nat)),(9,.bool false)]) (H':=[some ob,some oV])
    · apply Run.seq (fr':=[(0,.sl 0 0 s.o.length 0),(1,.int .i64 (s.k:Nat)),(2,.int .i64 (v:Nat)),(9,.bool false)]) (H':=[some ob,some oV])
      · generalize s.k % 8 = kr at *
        generalize s.o.length = N at *
        (refine ⟨0,?_⟩;simp (maxSteps:=2000000) -implicitDefEqProofs [-getElem?_pos,go_sem,eqV,ah,w3,w3',w5,h8,hzI,hzb])
      · exact Run.cond (d:=false) (by simp [aC,au]) ⟨0,rfl⟩
    exact piece hr _ rfl
end
end Go.Proofs.Ytbodincpjijdiaa
namespace Go.Proofs.Ytbodincpjijdiaa
open Go.AM
section
variable {t:Nat} {H:AM.Heap} {o:Nat} {oa:Option Nat} {s:Ws}
theorem WY {vo:AV} {v:Nat} (h:OuW t H oa vo s.o) (hs:gQ s) (hv:v < 2) (hl:s.k≤9000000) (ht:t < bW):∃ v' H' oa',evT X 79 [vo,.int .i64 (s.k:Nat),.int .i64 (v:Nat)] H = some (v',H')∧OuW t H' oa' v' (dR s (v:Nat)).o∧H.length≤H'.length∧(∀ a,oa = some a→oa' = some a)∧(∀ a,oa = none→oa' = some a→H.length≤a)∧(∀ j,j < H.length→(∀ a,oa = some a→j ≠ a)→H'[j]? = H[j]?):=by
  have hf2:=dL (C:=X) (f:=79) (i:=2) (a:=.int .i64 (v:Nat)) (H:=H) rfl rfl (bU 3)
  have hf1:=dL (C:=X) (f:=79) (i:=1) (a:=.int .i64 (s.k:Nat)) (H:=H) rfl rfl hf2
  cases oa with
  | some a =>
    obtain ⟨g,τ,ob,hτ,rfl,ho,hw⟩:=h
    have hw4:RwT (.pb s.o) 0 4 { ob with g:=0,tg:=4 }:=⟨hw.p,rfl,hw.row,hw.ids,rfl⟩
    obtain ⟨g1,ob1,R,w1,code,hc,hr⟩:=QA (m:=1) (v:=v) hw4 hs hv hl
    have hE:=Ev1.rwB (C:=X) (f:=79) (H:=H) (o:=a) (off:=0) (len:=s.o.length) (g:=g) (ob:=ob) (ob1:=ob1) (xs:=[.int .i64 (s.k:Nat),.int .i64 (v:Nat)]) (ys:=[.int .i64 (s.k:Nat),.int .i64 (v:Nat)]) (n:=4) (rest:=[]) (VH:=R) (off1:=0) (n1:=(dR s (v:Nat)).o.length) (g1:=g1)
      (bn X) Try.func79 hc rfl ho hw.g hw.ids (by rw [hw.p];rfl) hf1 rfl rfl rfl (by simp [bW]) (by rw [VG];exact hr) (.inr rfl) rfl rfl w1.g w1.ids (by rw [w1.p];rfl) (.inr w1.tg) rfl rfl rfl
    refine ⟨_,_,some a,dA hE,⟨_,bk 4 ob.tg ob1.tg,_,?_,rfl,setAt ho,⟨w1.p,rfl,w1.row,w1.ids,rfl⟩⟩,by simp [AM.upd],fun a' h=>h,fun a' h=>(by cases h),fun j hj hja=>by unfold AM.upd;rw [List.getElem?_set_ne (Ne.symm (hja a rfl))]⟩
    rw [w1.tg]
    unfold bk
    rw [if_pos rfl,hw.tg]
    exact hτ
  | none =>
    obtain ⟨h1,τ,hτ,rfl⟩:=h
    have hk0:s.k = 0:=by unfold gQ at hs;rw [h1] at hs;simp at hs;omega
    have hs0:s = ⟨0,[]⟩:=by
      obtain ⟨k,o⟩:=s
      simp only at h1 hk0
      rw [h1,hk0]
    have hbw:(dR s (v:Nat)).o = [orB 0 (v:Nat) 0]:=by rw [hs0];rfl
    have hl0:aH X 79 H 0 [.ro 0 .pn τ,.int .i64 (s.k:Nat),.int .i64 (v:Nat)] = some ([.ro 0 .pn 1,.int .i64 (s.k:Nat),.int .i64 (v:Nat)],[⟨[],[τ]⟩,⟨[],[]⟩,⟨[],[]⟩]):=by
      rw [aH]
      all_goals first | (intro _ _ _ _ _ h;cases h;done) | (rw [hf1];simp [eU,dY];done) | (rw [hf1];simp [eU,dY];intro _ _ _ _ h;cases h)
    -- the code
    have hrun:∃ code,Try.f79.body = some code∧∃ ob,Rw (.pb (dR s (v:Nat)).o) 0 ob∧Run X (evT X) 79 0 code [(0,.ro 0 (.pb []) 1),(1,.int .i64 (s.k:Nat)),(2,.int .i64 (v:Nat))] [] ⟨.ret,[(6,.sl 1 0 (dR s (v:Nat)).o.length 0)],[some oV,some ob]⟩:=by
      refine ⟨_,rfl,?_⟩
      have hbs:=bsW [some oV] 0
      simp only [show ((0:UInt8).toNat:Int) = 0 from rfl] at hbs
      have hA:bD X [some oV] 22 (.ro 0 (.pb []) 1) (.ro 1 (.pb [0]) 0) = some (.sl 1 0 1 0,[some oV,some ⟨.pb [0],0,none,0,true,false,0⟩]):=by
        simp only [bD,kK,kL,qC]
        simp [gU,jF,ah,kM,fK,og,bJ,aK]
      obtain ⟨ob',w,hr⟩:=KQ (m:=0) (E:=[some oV,some ⟨.pb [0],0,none,0,true,false,0⟩]) (s:=s) (v:=v) (B:=[0]) (q:=1) (g:=0) (τ:=0) (ob:=⟨.pb [0],0,none,0,true,false,0⟩) (tl:=[]) rfl ⟨rfl,rfl,rfl,rfl,rfl⟩ (by rw [hk0];simp) hv (by omega) (by rw [hk0,h1];rfl)
      refine ⟨ob',w.rw,?_⟩
      have w3:((s.k:Nat):Int) = 0:=by omega
      apply Run.seq (fr':=[(0,.ro 0 (.pb []) 1),(1,.int .i64 (s.k:Nat)),(2,.int .i64 (v:Nat))]) (H':=[some oV])
      · (refine ⟨0,?_⟩;simp (maxSteps:=2000000) -implicitDefEqProofs [-getElem?_pos,go_sem,eqV,ah,ak,Gj])
      apply Run.seq (fr':=[(0,.sl 1 0 1 0),(1,.int .i64 (s.k:Nat)),(2,.int .i64 (v:Nat))]) (H':=[some oV,some ⟨.pb [0],0,none,0,true,false,0⟩])
      · rw [w3]
        (refine ⟨0,?_⟩;simp (maxSteps:=2000000) -implicitDefEqProofs [-getElem?_pos,go_sem,eqV,ah,hbs,hA,ak])
      have hu:upd [some oV,some (⟨.pb [0],0,none,0,true,false,0⟩:AM.Obj)] 1 (some ob') = [some oV,some ob']:=rfl
      rw [hu] at hr
      exact piece hr _ rfl
    obtain ⟨code,hc,ob,w,hr⟩:=hrun
    obtain ⟨ob',q1,q2⟩:=Ev1.wZ (C:=X) (H:=H) (bn X) (n:=(dR s (v:Nat)).o.length) (l:=(dR s (v:Nat)).o) (rest:=[]) Try.func79 hc hl0 rfl (by simp [bW]) rfl rfl rfl (by
      rw [VG]
      exact ⟨_,⟨rfl,1,0,ob,rfl,rfl,w⟩,by simpa [coerce,numbered,bJ] using hr⟩)
    exact ⟨_,H ++ [some ob'],some H.length,dA q2,⟨0,0,ob',.inl rfl,rfl,List.getElem?_concat_length,q1.rwt⟩,by simp,fun a h=>(by cases h),fun a _ h=>(by cases h;exact Nat.le_refl _),fun j hj _=>List.getElem?_append_left hj⟩
end
end Go.Proofs.Ytbodincpjijdiaa
namespace Go.Proofs.Ytbodincpjijdiaa
open Go.AM
theorem QC (s:Ws) (x:Int):dR s (((x % 2).toNat:Nat):Int) = dR s x:=by
  unfold dR orB
  have:((((x % 2).toNat:Nat):Int) % 2).toNat = (x % 2).toNat:=by omega
  rw [this]
section
variable {t:Nat} {H:AM.Heap} {o:Nat} {oa:Option Nat} {s:Ws}
def uq (x:Int) (n i:Nat):AM.Frame:=[(0,.ptr 0 0 0 0),(1,.int .i64 x),(2,.int .i64 (n:Nat)),(6,.int .i64 (i:Nat))]
def uw (x:Int) (I:Int):AM.Frame:=[(0,.ptr 0 0 0 0),(1,.int .i64 x),(6,.int .i64 I)]
theorem QD {x:Int} {E:AM.Heap} (h:WrV t E 0 oa s) (hs:gQ s) (hl:s.k≤9000000) (ht:t < bW):∃ vo τ v' E1 oa1,E[0]? = some (some (fE s vo τ))∧evT X 79 [vo,.int .i64 (s.k:Nat),.int .i64 ((x % 2).toNat:Nat)] E = some (v',E1)∧E1[0]? = some (some (fE s vo τ)) ∧
    (∃ a g,v' = .sl a 0 (dR s x).o.length g∧a ≠ 0∧(E1[a]?).isSome)∧WrV t (AM.upd E1 0 (some (fE ⟨s.k,(dR s x).o⟩ v' τ))) 0 oa1 ⟨s.k,(dR s x).o⟩∧Kpw E (AM.upd E1 0 (some (fE ⟨s.k,(dR s x).o⟩ v' τ))) 0 oa oa1:=by
  obtain ⟨⟨vo,τ,a1,h0,ho⟩,hne⟩:=id h
  have hv2:(x % 2).toNat < 2:=by omega
  obtain ⟨v',E1,oa1,q1,q2,q3,q4,q5,q6⟩:=WY (v:=(x % 2).toNat) ho hs hv2 hl ht
  rw [QC] at q2
  have hE1:E1[0]? = some (some (fE s vo τ)):=by rw [q6 0 (eY h0) (fun a ha e=>hne a ha e.symm)];exact h0
  have hne1:∀ a,oa1 = some a→a ≠ 0:=by
    intro a ha
    cases hq:oa with
    | none=>have:=q5 a hq ha;have:=eY h0;omega
    | some z=>have:=q4 z hq;rw [ha] at this;cases this;exact hne _ hq
  have hlen:(dR s x).o ≠ []:=by
    have h1:=vH (x:=x) hs
    intro e
    unfold gQ at h1
    rw [e] at h1
    have:(dR s x).k = s.k + 1:=rfl
    simp at h1
    omega
  refine ⟨vo,τ,v',E1,oa1,h0,q1,hE1,?_,WrV.set hne1 a1 (eY hE1) q2,?_⟩
  · cases oa1 with
    | none=>exact absurd q2.1 hlen
    | some a =>
      obtain ⟨g,τ2,ob,_,rfl,h3,_⟩:=q2
      exact ⟨a,g,rfl,hne1 a rfl,by rw [h3];rfl⟩
  · refine Kpw.trans (H1:=E1) (oa1:=oa1) ⟨q3,q4,q5,fun j hj _ hja=>q6 j hj hja⟩ (Kpw.upd _)
theorem aaD {m n i:Nat} {x:Int} {E:AM.Heap} (h:WrV t E 0 oa s) (hs:gQ s) (hl:s.k≤9000000) (ht:t < bW) (hi:i≤60):∃ E' oa',WrV t E' 0 oa' (dR s (x / 2 ^ i))∧Kpw E E' 0 oa oa'∧∃ code,((Try.f64.body).bind (aF [1,0,0,1])) = some code∧Run X (evT X) 64 m code (uq x n i ++ [(9,.bool true)]) E ⟨.normal,uq x n (i + 1),E'⟩:=by
  obtain ⟨vo,τ,v',E1,oa1,h0,hP,h1,⟨a,g,rfl,ha0,_⟩,hV,hk⟩:=QD (x:=x / 2 ^ i) h hs hl ht
  obtain ⟨⟨vo2,τ2,a2,h2,ho2⟩,hne2⟩:=id hV
  have hb:dR s (x / 2 ^ i) = ⟨s.k + 1,(dR s (x / 2 ^ i)).o⟩:=rfl
  have hlt:=eY h1
  have h2':(AM.upd E1 0 (some (fE ⟨s.k,(dR s (x / 2 ^ i)).o⟩ (.sl a 0 (dR s (x / 2 ^ i)).o.length g) τ)))[0]? = some (some (fE ⟨s.k,(dR s (x / 2 ^ i)).o⟩ (.sl a 0 (dR s (x / 2 ^ i)).o.length g) τ)):=setAt h1
  rw [h2'] at h2
  obtain ⟨rfl,rfl⟩:AV.sl a 0 (dR s (x / 2 ^ i)).o.length g = vo2∧τ = τ2:=by
    simp only [fE,Option.some.injEq,AM.Obj.mk.injEq,AV.pc.injEq,List.cons.injEq] at h2
    exact ⟨h2.1.1,h2.2.2.2.2.2.2⟩
  refine ⟨AM.upd (AM.upd E1 0 (some (fE ⟨s.k,(dR s (x / 2 ^ i)).o⟩ (.sl a 0 (dR s (x / 2 ^ i)).o.length g) τ))) 0 (some (fE ⟨s.k + 1,(dR s (x / 2 ^ i)).o⟩ (.sl a 0 (dR s (x / 2 ^ i)).o.length g) τ)),oa1,by rw [hb];exact WrV.set hne2 a2 (eY h2') ho2,hk.trans (Kpw.upd _),_,rfl,?_⟩
  have w1:IntKind.i64.wrap ((i:Int) + 1) = ((i + 1:Nat):Int):=by rw [wrap_i64 (by omega) (by omega)];omega
  have w3:IntKind.i64.wrap ((s.k:Int) + 1) = ((s.k + 1:Nat):Int):=by rw [wrap_i64 (by omega) (by omega)];omega
  have w4:IntKind.u64.wrap (i:Int) = (i:Int):=wrap_u64 (by omega) (by omega)
  have hi0:¬ (i:Int) < 0:=by omega
  have w2:=Gm (x:=x) hi
  have w5:=QE (x / 2 ^ i)
  simp only [fE] at h0 h1 h2' hP ⊢
  generalize ((x / 2 ^ i) % 2).toNat = v at *
  generalize (dR s (x / 2 ^ i)).o.length = N at *
  generalize hy:x / 2 ^ i = y at *
  simp only [go_sem] at w5
  generalize s.k + 1 = k1 at *
  generalize i + 1 = i1 at *
  have hu:AM.upd E1 0 (some (⟨.pc [.sl a 0 N g,.int .i64 (s.k:Nat)],0,some 2,1,false,true,τ⟩:AM.Obj)) = E1.set 0 (some ⟨.pc [.sl a 0 N g,.int .i64 (s.k:Nat)],0,some 2,1,false,true,τ⟩):=rfl
  rw [hu] at h2' ⊢
  apply Run.seq (fr':=uq x n i) (H':=(E1.set 0 (some ⟨.pc [.sl a 0 N g,.int .i64 (s.k:Nat)],0,some 2,1,false,true,τ⟩)).set 0 (some ⟨.pc [.sl a 0 N g,.int .i64 (k1:Nat)],0,some 2,1,false,true,τ⟩))
  · refine Run.block ?_ (by simp)
    apply Run.seq (fr':=uq x n i) (H':=E1.set 0 (some ⟨.pc [.sl a 0 N g,.int .i64 (s.k:Nat)],0,some 2,1,false,true,τ⟩))
    · simp only [uq]
      (refine ⟨0,?_⟩;simp (maxSteps:=2000000) -implicitDefEqProofs [-getElem?_pos,go_sem,eqV,ah,h0,h1,w4,hi0,w2,w5,hP])
    · simp only [uq]
      generalize E1.set 0 (some (⟨.pc [.sl a 0 N g,.int .i64 (s.k:Nat)],0,some 2,1,false,true,τ⟩:AM.Obj)) = E2 at *
      (refine ⟨0,?_⟩;simp (maxSteps:=2000000) -implicitDefEqProofs [-getElem?_pos,go_sem,eqV,ah,h2',w3])
  · simp only [uq]
    (refine ⟨0,?_⟩;simp (maxSteps:=2000000) -implicitDefEqProofs [-getElem?_pos,go_sem,eqV,ah,w1])
theorem aaE {m i:Nat} {x:Int} {E:AM.Heap} (h:WrV t E 0 oa s) (hs:gQ s) (hl:s.k≤9000000) (ht:t < bW) (hi:i≤60):∃ E' oa',WrV t E' 0 oa' (dR s (x / 2 ^ i))∧Kpw E E' 0 oa oa'∧∃ code,((Try.f65.body).bind (aF [1,0,0,1])) = some code∧Run X (evT X) 65 m code (uw x (i:Nat) ++ [(10,.bool true)]) E ⟨.normal,uw x ((i:Int) - 1),E'⟩:=by
  obtain ⟨vo,τ,v',E1,oa1,h0,hP,h1,⟨a,g,rfl,ha0,_⟩,hV,hk⟩:=QD (x:=x / 2 ^ i) h hs hl ht
  obtain ⟨⟨vo2,τ2,a2,h2,ho2⟩,hne2⟩:=id hV
  have hb:dR s (x / 2 ^ i) = ⟨s.k + 1,(dR s (x / 2 ^ i)).o⟩:=rfl
  have hlt:=eY h1
  have h2':(AM.upd E1 0 (some (fE ⟨s.k,(dR s (x / 2 ^ i)).o⟩ (.sl a 0 (dR s (x / 2 ^ i)).o.length g) τ)))[0]? = some (some (fE ⟨s.k,(dR s (x / 2 ^ i)).o⟩ (.sl a 0 (dR s (x / 2 ^ i)).o.length g) τ)):=setAt h1
  rw [h2'] at h2
  obtain ⟨rfl,rfl⟩:AV.sl a 0 (dR s (x / 2 ^ i)).o.length g = vo2∧τ = τ2:=by
    simp only [fE,Option.some.injEq,AM.Obj.mk.injEq,AV.pc.injEq,List.cons.injEq] at h2
    exact ⟨h2.1.1,h2.2.2.2.2.2.2⟩
  refine ⟨AM.upd (AM.upd E1 0 (some (fE ⟨s.k,(dR s (x / 2 ^ i)).o⟩ (.sl a 0 (dR s (x / 2 ^ i)).o.length g) τ))) 0 (some (fE ⟨s.k + 1,(dR s (x / 2 ^ i)).o⟩ (.sl a 0 (dR s (x / 2 ^ i)).o.length g) τ)),oa1,by rw [hb];exact WrV.set hne2 a2 (eY h2') ho2,hk.trans (Kpw.upd _),_,rfl,?_⟩
  have w1:IntKind.i64.wrap ((i:Int) - 1) = (i:Int) - 1:=by rw [wrap_i64 (by omega) (by omega)]
  have w3:IntKind.i64.wrap ((s.k:Int) + 1) = ((s.k + 1:Nat):Int):=by rw [wrap_i64 (by omega) (by omega)];omega
  have w4:IntKind.u64.wrap (i:Int) = (i:Int):=wrap_u64 (by omega) (by omega)
  have hi0:¬ (i:Int) < 0:=by omega
  have w2:=Gm (x:=x) hi
  have w5:=QE (x / 2 ^ i)
  simp only [fE] at h0 h1 h2' hP ⊢
  generalize ((x / 2 ^ i) % 2).toNat = v at *
  generalize (dR s (x / 2 ^ i)).o.length = N at *
  generalize hy:x / 2 ^ i = y at *
  simp only [go_sem] at w5
  generalize s.k + 1 = k1 at *
  have hu:AM.upd E1 0 (some (⟨.pc [.sl a 0 N g,.int .i64 (s.k:Nat)],0,some 2,1,false,true,τ⟩:AM.Obj)) = E1.set 0 (some ⟨.pc [.sl a 0 N g,.int .i64 (s.k:Nat)],0,some 2,1,false,true,τ⟩):=rfl
  rw [hu] at h2' ⊢
  apply Run.seq (fr':=uw x (i:Nat)) (H':=(E1.set 0 (some ⟨.pc [.sl a 0 N g,.int .i64 (s.k:Nat)],0,some 2,1,false,true,τ⟩)).set 0 (some ⟨.pc [.sl a 0 N g,.int .i64 (k1:Nat)],0,some 2,1,false,true,τ⟩))
  · refine Run.block ?_ (by simp)
    apply Run.seq (fr':=uw x (i:Nat)) (H':=E1.set 0 (some ⟨.pc [.sl a 0 N g,.int .i64 (s.k:Nat)],0,some 2,1,false,true,τ⟩))
    · simp only [uw]
      (refine ⟨0,?_⟩;simp (maxSteps:=2000000) -implicitDefEqProofs [-getElem?_pos,go_sem,eqV,ah,h0,h1,w4,hi0,w2,w5,hP])
    · simp only [uw]
      generalize E1.set 0 (some (⟨.pc [.sl a 0 N g,.int .i64 (s.k:Nat)],0,some 2,1,false,true,τ⟩:AM.Obj)) = E2 at *
      (refine ⟨0,?_⟩;simp (maxSteps:=2000000) -implicitDefEqProofs [-getElem?_pos,go_sem,eqV,ah,h2',w3])
  · simp only [uw]
    (refine ⟨0,?_⟩;simp (maxSteps:=2000000) -implicitDefEqProofs [-getElem?_pos,go_sem,eqV,ah,w1])
theorem Iz {m n:Nat} {x:Int} {E:AM.Heap} (h:WrV t E 0 oa s) (hs:gQ s) (hl:s.k≤8000000) (ht:t < bW) (hn:n≤60):∃ code,Try.f64.body = some code ∧
    aj (ru fun fr E'=>∃ oa',WrV t E' 0 oa' (bI s x n)∧Kpw E E' 0 oa oa') X (evT X) 64 m code [(0,.ptr 0 0 0 0),(1,.int .i64 x),(2,.int .i64 (n:Nat))] E:=by
  refine ⟨_,rfl,?_⟩
  apply aj.seq (fr':=uq x n 0) (H':=E)
  · simp only [uq]
    (refine ⟨0,?_⟩;simp (maxSteps:=2000000) -implicitDefEqProofs [-getElem?_pos,go_sem,eqV,ah])
  refine aj.mono (Q:=Goes fun fr E'=>∃ oa',WrV t E' 0 oa' (bI s x n)∧Kpw E E' 0 oa oa') ?_ fun o ho=>⟨.inl ho.1,ho.2⟩
  apply aj.block
  refine aj.kJ (I:=fun q fr E'=>∃ i oa',i≤n∧q = n - i∧fr = uq x n i∧WrV t E' 0 oa' (bI s x i)∧Kpw E E' 0 oa oa') ?_ (k:=n) ⟨0,oa,by omega,rfl,rfl,h,Kpw.refl E 0 oa⟩
  rintro q fr E' ⟨i,oa',hi,rfl,rfl,hV,hk⟩
  by_cases hin:i = n
  · subst hin
    refine aj.of (o:=⟨.exit 0,uq x i i ++ [(9,.bool false)],E'⟩) ?_ (.inr ⟨by simp,rfl,oa',hV,hk⟩)
    refine ⟨0,?_⟩
    simp only [uq]
    simp (maxSteps:=2000000) -implicitDefEqProofs [-getElem?_pos,go_sem,eqV,ah]
  · have hlt:i < n:=by omega
    have iT:(i:Int) < (n:Int):=by omega
    obtain ⟨f1,f2⟩:=bV (x:=x) hs i
    obtain ⟨E2,oa2,h1,h2,hr⟩:=aaD (m:=m) (n:=n) (i:=i) (x:=x) hV f1 (by omega) ht (by omega)
    refine aj.of (o:=⟨.normal,uq x n (i + 1),E2⟩) ?_ (.inl ⟨rfl,n - (i + 1),by omega,i + 1,oa2,by omega,rfl,rfl,h1,hk.trans h2⟩)
    apply Run.seq (fr':=uq x n i ++ [(9,.bool true)]) (H':=E')
    · apply Run.seq (fr':=uq x n i ++ [(9,.bool true)]) (H':=E')
      · simp only [uq]
        (refine ⟨0,?_⟩;simp (maxSteps:=2000000) -implicitDefEqProofs [-getElem?_pos,go_sem,eqV,ah,iT,hlt])
      · exact Run.cond (d:=true) (by simp [uq,aC,au]) ⟨0,rfl⟩
    exact piece hr _ rfl
theorem KR {m n:Nat} {x:Int} {E:AM.Heap} (h:WrV t E 0 oa s) (hs:gQ s) (hl:s.k≤8000000) (ht:t < bW) (hn:n≤60):∃ code,Try.f65.body = some code ∧
    aj (ru fun fr E'=>∃ oa',WrV t E' 0 oa' (lN s x n)∧Kpw E E' 0 oa oa') X (evT X) 65 m code [(0,.ptr 0 0 0 0),(1,.int .i64 x),(2,.int .i64 (n:Nat))] E:=by
  refine ⟨_,rfl,?_⟩
  apply aj.seq (fr':=uw x ((n:Int) - 1)) (H':=E)
  · have w1:IntKind.i64.wrap ((n:Int) - 1) = (n:Int) - 1:=by rw [wrap_i64 (by omega) (by omega)]
    simp only [uw]
    (refine ⟨0,?_⟩;simp (maxSteps:=2000000) -implicitDefEqProofs [-getElem?_pos,go_sem,eqV,ah,w1,ak])
  refine aj.mono (Q:=Goes fun fr E'=>∃ oa',WrV t E' 0 oa' (lN s x n)∧Kpw E E' 0 oa oa') ?_ fun o ho=>⟨.inl ho.1,ho.2⟩
  apply aj.block
  refine aj.kJ (I:=fun q fr E'=>∃ oa' s',q≤n∧s'.k + q = s.k + n∧gQ s'∧fr = uw x ((q:Int) - 1)∧WrV t E' 0 oa' s'∧Kpw E E' 0 oa oa'∧lN s' x q = lN s x n) ?_ (k:=n) ⟨oa,s,by omega,rfl,hs,rfl,h,Kpw.refl E 0 oa,rfl⟩
  rintro q fr E' ⟨oa',s',hq,hkk,hs',rfl,hV,hk,hc⟩
  cases q with
  | zero =>
    refine aj.of (o:=⟨.exit 0,uw x (((0:Nat):Int) - 1) ++ [(10,.bool false)],E'⟩) ?_ (.inr ⟨by simp,rfl,oa',by rw [← hc];exact hV,hk⟩)
    have e1:(((0:Nat):Int) - 1) = -1:=rfl
    rw [e1]
    refine ⟨0,?_⟩
    simp only [uw]
    simp (maxSteps:=2000000) -implicitDefEqProofs [-getElem?_pos,go_sem,eqV,ah]
  | succ q =>
    have e1:(((q + 1:Nat):Int) - 1) = (q:Nat):=by omega
    rw [e1]
    obtain ⟨E2,oa2,g1,g2,hr⟩:=aaE (m:=m) (i:=q) (x:=x) hV hs' (by omega) ht (by omega)
    refine aj.of (o:=⟨.normal,uw x ((q:Int) - 1),E2⟩) ?_ (.inl ⟨rfl,q,by omega,oa2,dR s' (x / 2 ^ q),by omega,by simp only [dR];omega,vH hs',rfl,g1,hk.trans g2,hc⟩)
    have hq1:(0:Int)≤(q:Int):=by omega
    apply Run.seq (fr':=uw x (q:Nat) ++ [(10,.bool true)]) (H':=E')
    · apply Run.seq (fr':=uw x (q:Nat) ++ [(10,.bool true)]) (H':=E')
      · simp only [uw]
        (refine ⟨0,?_⟩;simp (maxSteps:=2000000) -implicitDefEqProofs [-getElem?_pos,go_sem,eqV,ah,hq1])
      · exact Run.cond (d:=true) (by simp [uw,aC,au]) ⟨0,rfl⟩
    exact piece hr _ rfl
theorem vK {x I:Int} {n:Nat} (hI:I = (n:Nat)) (h:WrV t H o oa s) (hs:gQ s) (hl:s.k≤8000000) (hn:n≤60):∃ H' oa',evT X 64 [.ptr o 0 0 0,.int .i64 x,.int .i64 I] H = some (.tup [],H')∧WrV t H' o oa' (bI s x n)∧Kpw H H' o oa oa':=by
  subst hI
  obtain ⟨code,hc⟩:∃ code,Try.f64.body = some code:=⟨_,rfl⟩
  exact BG (n:=4) (xs:=[.int .i64 x,.int .i64 (n:Nat)]) (ys:=[.int .i64 x,.int .i64 (n:Nat)]) Try.func64 hc rfl h (fun π K _=>jO.flat rfl rfl (jO.flat rfl rfl jO.nil)) rfl rfl (by simp [bW]) rfl fun m E oa1 hE=>by
    obtain ⟨wM,hc2,ht⟩:=Iz (m:=m) (x:=x) hE hs hl (by simp [bW]) hn
    rw [Zh]
    exact ⟨wM,hc2,ht⟩
theorem yF {x I:Int} {n:Nat} (hI:I = (n:Nat)) (h:WrV t H o oa s) (hs:gQ s) (hl:s.k≤8000000) (hn:n≤60):∃ H' oa',evT X 65 [.ptr o 0 0 0,.int .i64 x,.int .i64 I] H = some (.tup [],H')∧WrV t H' o oa' (lN s x n)∧Kpw H H' o oa oa':=by
  subst hI
  obtain ⟨code,hc⟩:∃ code,Try.f65.body = some code:=⟨_,rfl⟩
  exact BG (n:=4) (xs:=[.int .i64 x,.int .i64 (n:Nat)]) (ys:=[.int .i64 x,.int .i64 (n:Nat)]) Try.func65 hc rfl h (fun π K _=>jO.flat rfl rfl (jO.flat rfl rfl jO.nil)) rfl rfl (by simp [bW]) rfl fun m E oa1 hE=>by
    obtain ⟨wM,hc2,ht⟩:=KR (m:=m) (x:=x) hE hs hl (by simp [bW]) hn
    rw [Zi]
    exact ⟨wM,hc2,ht⟩
end
end Go.Proofs.Ytbodincpjijdiaa
namespace Go.Proofs.Ytbodincpjijdiaa
open Go.AM
def uy (c:Nat) (l:List Int) (s:Int) (i:Nat):AM.Frame:=[(0,.ro c (.pi .i64 l) 1),(4,.int .i64 s),(5,.int .i64 (i:Nat))]
def Gn (c:Nat) (l todo:List Int) (s:Int):AM.Out :=
  if (qU todo s).2 = 0 then ⟨.exit 0,uy c l (qU todo s).1 l.length ++ [(12,.bool false)],[]⟩ else ⟨.ret,[(2,.bool false),(3,.int .i64 2)],[]⟩
theorem Nz (c:Nat) (l todo:List Int) (s:Int):(Gn c l todo s).ex ≠ .normal:=by
  unfold Gn;split <;> simp
theorem IB (c:Nat) (l:List Int) (h63:l.length < 9223372036854775808):∃ code,Try.f78.body = some code ∧
    Run X (evT X) 78 0 code [(0,.ro c (.pi .i64 l) 1)] [] ⟨.ret,[(2,.bool (fZ l).1),(3,.int .i64 (fZ l).2)],[]⟩:=by
  refine ⟨_,rfl,?_⟩
  by_cases hl:320 < (l.length:Int)
  · simp only [fZ,hl,if_true]
    refine ⟨0,?_⟩
    simp (maxSteps:=2000000) -implicitDefEqProofs [-getElem?_pos,go_sem,eqV,ah,hl]
  · simp only [fZ,hl,if_false]
    apply Run.seq
    · (refine ⟨0,?_⟩;conv=>lhs;simp (maxSteps:=2000000) -implicitDefEqProofs [-getElem?_pos,go_sem,eqV,ah])
    apply Run.seq
    · (refine ⟨0,?_⟩;conv=>lhs;simp (maxSteps:=2000000) -implicitDefEqProofs [-getElem?_pos,go_sem,eqV,ah,hl])
    apply Run.seq
    · (refine ⟨0,?_⟩;conv=>lhs;simp (maxSteps:=2000000) -implicitDefEqProofs [-getElem?_pos,go_sem,eqV,ah])
    apply Run.seq' (o:=jQ 0 (Gn c l l 0))
    · apply Run.seq (fr':=uy c l 0 0) (H':=[])
      · (refine ⟨0,?_⟩;simp (maxSteps:=2000000) -implicitDefEqProofs [-getElem?_pos,go_sem,eqV,ah,uy])
      · apply Run.block'
        refine Run.jD (σ:=Int × List Int × List Int) (fun t=>t.2.1 ++ t.2.2 = l) (fun t=>uy c l t.1 t.2.1.length) (fun _=>[]) (fun t=>Gn c l t.2.2 t.1) (fun t=>t.2.2.length) ?_ (0,[],l) rfl
        rintro ⟨s,done,todo⟩ hd
        simp only at hd ⊢
        cases todo with
        | nil =>
          right
          have hlen:done.length = l.length:=by rw [← hd];simp
          refine ⟨?_,Nz c l _ s⟩
          simp only [Gn,qU,if_true]
          apply Run.bH
          · (refine ⟨0,?_⟩;simp (maxSteps:=2000000) -implicitDefEqProofs [-getElem?_pos,go_sem,eqV,ah,hlen,uy])
          · simp
        | cons x todo =>
          have hlt:done.length < l.length:=by rw [← hd];simp
          have hget:l[done.length]? = some x:=by rw [← hd];simp
          have iT:(done.length:Int) < (l.length:Int):=by omega
          by_cases hx:0≤x∧x≤15
          · left
            refine ⟨((if 0 < x then IntKind.i64.wrap (s + IntKind.i64.wrap (2 ^ (min (15 - x).toNat 64))) else s),done ++ [x],todo),by simpa using hd,?_,?_,by simp⟩
            · have hx1:¬ x < 0:=by omega
              have hx2:¬ 15 < x:=by omega
              have e:IntKind.i64.wrap ((done.length:Int) + 1) = (done.length:Int) + 1:=wrap_i64 (by omega) (by omega)
              have e1:IntKind.i64.wrap (15 - x) = 15 - x:=wrap_i64 (by omega) (by omega)
              have e2:IntKind.u64.wrap (15 - x) = 15 - x:=wrap_u64 (by omega) (by omega)
              have e3:¬ (15 - x < 0):=by omega
              apply Run.seq
              · (refine ⟨0,?_⟩;conv=>lhs;simp (maxSteps:=2000000) -implicitDefEqProofs [-getElem?_pos,go_sem,eqV,ah,iT,uy])
              by_cases hx0:0 < x
              · apply Run.seq
                · (refine ⟨0,?_⟩;conv=>lhs;simp (maxSteps:=2000000) -implicitDefEqProofs [-getElem?_pos,go_sem,eqV,ah,hget,hlt,hx1,hx2,hx0,e1,e2,e3,IntKind.bits])
                · (refine ⟨0,?_⟩;simp (maxSteps:=2000000) -implicitDefEqProofs [-getElem?_pos,go_sem,eqV,ah,e,uy,hx0])
              · apply Run.seq
                · (refine ⟨0,?_⟩;conv=>lhs;simp (maxSteps:=2000000) -implicitDefEqProofs [-getElem?_pos,go_sem,eqV,ah,hget,hlt,hx1,hx2,hx0])
                · (refine ⟨0,?_⟩;simp (maxSteps:=2000000) -implicitDefEqProofs [-getElem?_pos,go_sem,eqV,ah,e,uy,hx0])
            · simp [Gn,qU,hx]
          · right
            refine ⟨?_,Nz c l _ s⟩
            simp only [Gn,qU,hx,if_false]
            apply Run.seq
            · (refine ⟨0,?_⟩;conv=>lhs;simp (maxSteps:=2000000) -implicitDefEqProofs [-getElem?_pos,go_sem,eqV,ah,iT,uy])
            apply Run.bH
            · by_cases hx1:x < 0
              · (refine ⟨0,?_⟩;simp (maxSteps:=2000000) -implicitDefEqProofs [-getElem?_pos,go_sem,eqV,ah,hget,hlt,hx1])
              · have hx2:15 < x:=by omega
                (refine ⟨0,?_⟩;simp (maxSteps:=2000000) -implicitDefEqProofs [-getElem?_pos,go_sem,eqV,ah,hget,hlt,hx1,hx2])
            · simp
    · intro fr' H' h
      unfold Gn at h
      split at h
      · rename_i hw
        simp only [jQ,if_true,Out.mk.injEq,true_and] at h
        obtain ⟨rfl,rfl⟩:=h
        simp only [hw,if_true]
        by_cases hs:32768 < (qU l 0).1
        · simp only [hs,if_true]
          refine ⟨0,?_⟩
          simp (maxSteps:=2000000) -implicitDefEqProofs [-getElem?_pos,go_sem,eqV,ah,uy,hs]
        · simp only [hs,if_false]
          refine ⟨0,?_⟩
          simp (maxSteps:=2000000) -implicitDefEqProofs [-getElem?_pos,go_sem,eqV,ah,uy,hs]
      · simp [jQ] at h
    · intro h
      unfold Gn at h ⊢
      split at h
      · simp [jQ] at h
      · rename_i hw
        rw [if_neg hw,if_neg hw]
        rfl
def WZ (l:List Int):AV:=.tup [.bool (fZ l).1,.int .i64 (fZ l).2]
theorem QF {H:AM.Heap} {a:AV} {l:List Int} (h:gq H a = some (.pi .i64 l)) (hl:l.length < 9223372036854775808):evT X 78 [a] H = some (WZ l,H):=by
  obtain ⟨c,x,hx⟩:=dS (C:=X) (f:=78) (i:=0) rfl h (bU 1)
  obtain ⟨code,hb,hr⟩:=IB c l hl
  unfold WZ
  refine dA (Ev1.nV (l:=[.bool (fZ l).1,.int .i64 (fZ l).2]) (bn X) Try.func78 hb hx rfl (by simp [bW]) rfl rfl rfl ?_)
  rw [Zn]
  exact ⟨_,⟨rfl,rfl⟩,hr⟩
def Gp (c:Nat) (l:List Int) (nx la:Int) (n:Nat):AM.Frame:=[(0,.ro c (.pi .i64 l) 1),(6,.sl 1 0 l.length 0),(7,.int .i64 nx),(8,.int .i64 la),(9,.int .i64 (n:Nat))]
def tX (c:Nat) (l:List Int) (nx la:Int) (n i:Nat):AM.Frame:=[(0,.ro c (.pi .i64 l) 1),(6,.sl 1 0 l.length 0),(7,.int .i64 nx),(8,.int .i64 la),(9,.int .i64 (n:Nat)),(10,.int .i64 (i:Nat))]
def xu (c:Nat) (l:List Int) (i:Nat):AM.Frame:=[(0,.ro c (.pi .i64 l) 1),(6,.sl 1 0 l.length 0),(11,.int .i64 (i:Nat))]
theorem IC (c:Nat) (l:List Int) (he:(fZ l).2 = 0) (ajw:l.length≤320):∃ code,Try.f63.body = some code ∧
    Run X (evT X) 63 0 code [(0,.ro c (.pi .i64 l) 1)] [] ⟨.ret,[(2,.sl 1 0 l.length 0),(3,.int .i64 0)],[jK,dD l.length (iI l)]⟩:=by
  have h63:l.length < 9223372036854775808:=by omega
  have hm1:(l.length:Int)≤9223372036854775807:=by omega
  have hm2:8 * (l.length:Int)≤140737488355328:=by omega
  have hT:=fun H=>QF (H:=H) (a:=.ro c (.pi .i64 l) 1) rfl h63
  unfold WZ at hT
  have hu:∀ n,¬ (IntKind.u64.wrap n < 0):=fun n=>by have:=u64_nonneg n;omega
  unfold iI
  generalize hK:(15:Nat) = K
  refine ⟨_,rfl,?_⟩
  apply Run.seq
  · (refine ⟨0,?_⟩;conv=>lhs;simp (maxSteps:=2000000) -implicitDefEqProofs [-getElem?_pos,go_sem,eqV,ah,rowOf,bJ])
  apply Run.seq
  · (refine ⟨0,?_⟩;conv=>lhs;simp (maxSteps:=2000000) -implicitDefEqProofs [-getElem?_pos,go_sem,eqV,ah,hT,he])
  apply Run.seq
  · (refine ⟨0,?_⟩;conv=>lhs;simp (maxSteps:=2000000) -implicitDefEqProofs [-getElem?_pos,go_sem,eqV,ah])
  apply Run.seq (fr':=[(0,.ro c (.pi .i64 l) 1),(6,.sl 1 0 l.length 0)]) (H':=[jK,dD l.length (List.replicate l.length 0)])
  · (refine ⟨0,?_⟩;simp (maxSteps:=2000000) -implicitDefEqProofs [-getElem?_pos,go_sem,eqV,ah,dI,iP,dK,scalars,aJ,ids,bQ,rowOf,hm1,hm2,jK,dD])
  apply Run.seq
  · (refine ⟨0,?_⟩;conv=>lhs;simp (maxSteps:=2000000) -implicitDefEqProofs [-getElem?_pos,go_sem,eqV,ah])
  have hlen0:(List.replicate l.length (0:Int)).length = l.length:=by simp
  generalize List.replicate l.length (0:Int) = o0 at hlen0 ⊢
  have hol:=Ih l K 1 0 0 o0
  apply Run.seq (fr':=Gp c l (wW l K 1 0 0 o0).1 (wW l K 1 0 0 o0).2.1 16 ++ [(24,.bool false)]) (H':=[jK,dD l.length (wW l K 1 0 0 o0).2.2])
  · apply Run.seq (fr':=Gp c l 0 0 1) (H':=[jK,dD l.length o0])
    · (refine ⟨0,?_⟩;simp (maxSteps:=2000000) -implicitDefEqProofs [-getElem?_pos,go_sem,eqV,ah,Gp])
    · apply Run.eF
      refine Run.jD (σ:=Nat × Nat × Int × Int × List Int) (fun t=>t.1 + t.2.1 = 16∧t.2.2.2.2.length = l.length) (fun t=>Gp c l t.2.2.1 t.2.2.2.1 t.2.1) (fun t=>[jK,dD l.length t.2.2.2.2])
        (fun t=>⟨.exit 0,Gp c l (wW l t.1 t.2.1 t.2.2.1 t.2.2.2.1 t.2.2.2.2).1 (wW l t.1 t.2.1 t.2.2.1 t.2.2.2.1 t.2.2.2.2).2.1 16 ++ [(24,.bool false)],[jK,dD l.length (wW l t.1 t.2.1 t.2.2.1 t.2.2.2.1 t.2.2.2.2).2.2]⟩) (fun t=>t.1) ?_ (K,1,0,0,o0) ⟨show K + 1 = 16 by omega,hlen0⟩
      rintro ⟨k,n,nx,la,o⟩ ⟨hk,ho⟩
      simp only at hk ho ⊢
      cases k with
      | zero =>
        right
        have:n = 16:=by omega
        subst this
        refine ⟨?_,by simp⟩
        apply Run.bH
        · (refine ⟨0,?_⟩;simp (maxSteps:=2000000) -implicitDefEqProofs [-getElem?_pos,go_sem,eqV,ah,Gp,wW])
        · simp
      | succ k =>
        left
        have ajx:(n:Int)≤15:=by omega
        refine ⟨(k,n + 1,(rIn n l 0 nx la o).1,(rIn n l 0 nx la o).2.1,(rIn n l 0 nx la o).2.2),⟨show k + (n + 1) = 16 by omega,by rw [← ho];exact Bq _ _ _ _ _ _⟩,?_,by simp only [wW],by simp⟩
        have en:IntKind.i64.wrap ((n:Int) + 1) = (n:Int) + 1:=wrap_i64 (by omega) (by omega)
        apply Run.seq
        · (refine ⟨0,?_⟩;conv=>lhs;simp (maxSteps:=2000000) -implicitDefEqProofs [-getElem?_pos,go_sem,eqV,ah,ajx,Gp])
        apply Run.seq (fr':=tX c l (rIn n l 0 nx la o).1 (rIn n l 0 nx la o).2.1 n l.length ++ [(30,.bool false)]) (H':=[jK,dD l.length (rIn n l 0 nx la o).2.2])
        · apply Run.block
          · apply Run.seq (fr':=tX c l nx la n 0) (H':=[jK,dD l.length o])
            · (refine ⟨0,?_⟩;simp (maxSteps:=2000000) -implicitDefEqProofs [-getElem?_pos,go_sem,eqV,ah,tX])
            · apply Run.eF
              refine Run.jD (σ:=List Int × List Int × Int × Int × List Int) (fun t=>t.1 ++ t.2.1 = l∧t.2.2.2.2.length = l.length) (fun t=>tX c l t.2.2.1 t.2.2.2.1 n t.1.length) (fun t=>[jK,dD l.length t.2.2.2.2])
                (fun t=>⟨.exit 2,tX c l (rIn n t.2.1 t.1.length t.2.2.1 t.2.2.2.1 t.2.2.2.2).1 (rIn n t.2.1 t.1.length t.2.2.1 t.2.2.2.1 t.2.2.2.2).2.1 n l.length ++ [(30,.bool false)],[jK,dD l.length (rIn n t.2.1 t.1.length t.2.2.1 t.2.2.2.1 t.2.2.2.2).2.2]⟩)
                (fun t=>t.2.1.length) ?_ ([],l,nx,la,o) ⟨rfl,ho⟩
              rintro ⟨done,todo,nx,la,o⟩ ⟨hd,ho⟩
              simp only at hd ho ⊢
              cases todo with
              | nil =>
                right
                have hlen:done.length = l.length:=by rw [← hd];simp
                refine ⟨?_,by simp⟩
                simp only [rIn]
                apply Run.bH
                · (refine ⟨0,?_⟩;simp (maxSteps:=2000000) -implicitDefEqProofs [-getElem?_pos,go_sem,eqV,ah,tX,hlen])
                · simp
              | cons x todo =>
                left
                have hlt:done.length < l.length:=by rw [← hd];simp
                have hget:l[done.length]? = some x:=by rw [← hd];simp
                have iT:(done.length:Int) < (l.length:Int):=by omega
                have hlo:done.length < o.length:=by omega
                have e:IntKind.i64.wrap ((done.length:Int) + 1) = (done.length:Int) + 1:=wrap_i64 (by omega) (by omega)
                by_cases hxn:x = (n:Int)
                · refine ⟨(done ++ [x],todo,wL n nx la,n,o.set done.length (wL n nx la)),⟨by simpa using hd,by simpa using ho⟩,?_,by simp [rIn,hxn],by simp⟩
                  apply Run.seq
                  · (refine ⟨0,?_⟩;conv=>lhs;simp (maxSteps:=2000000) -implicitDefEqProofs [-getElem?_pos,go_sem,eqV,ah,iT,tX])
                  by_cases hla:0 < la
                  · apply Run.seq (fr':=tX c l (wL n nx la) n n done.length) (H':=[jK,dD l.length (o.set done.length (wL n nx la))])
                    · (refine ⟨0,?_⟩;simp (maxSteps:=2000000) -implicitDefEqProofs [-getElem?_pos,go_sem,eqV,ah,hget,hlt,hxn,hla,hu,wL,tX,dD,jK,hlo,IntKind.bits])
                    · (refine ⟨0,?_⟩;simp (maxSteps:=2000000) -implicitDefEqProofs [-getElem?_pos,go_sem,eqV,ah,e,tX])
                  · apply Run.seq (fr':=tX c l (wL n nx la) n n done.length) (H':=[jK,dD l.length (o.set done.length (wL n nx la))])
                    · (refine ⟨0,?_⟩;simp (maxSteps:=2000000) -implicitDefEqProofs [-getElem?_pos,go_sem,eqV,ah,hget,hlt,hxn,hla,hu,wL,tX,dD,jK,hlo,IntKind.bits])
                    · (refine ⟨0,?_⟩;simp (maxSteps:=2000000) -implicitDefEqProofs [-getElem?_pos,go_sem,eqV,ah,e,tX])
                · have hxb:(x != (n:Int)) = true:=by simpa using hxn
                  refine ⟨(done ++ [x],todo,nx,la,o),⟨by simpa using hd,ho⟩,?_,by simp [rIn,hxn],by simp⟩
                  apply Run.seq
                  · (refine ⟨0,?_⟩;conv=>lhs;simp (maxSteps:=2000000) -implicitDefEqProofs [-getElem?_pos,go_sem,eqV,ah,iT,tX])
                  apply Run.seq (fr':=tX c l nx la n done.length ++ [(38,.bool true)]) (H':=[jK,dD l.length o])
                  · (refine ⟨0,?_⟩;simp (maxSteps:=2000000) -implicitDefEqProofs [-getElem?_pos,go_sem,eqV,ah,hget,hlt,hxn,hxb,tX,dD,jK])
                  · (refine ⟨0,?_⟩;simp (maxSteps:=2000000) -implicitDefEqProofs [-getElem?_pos,go_sem,eqV,ah,e,tX])
          · simp
        · (refine ⟨0,?_⟩;simp (maxSteps:=2000000) -implicitDefEqProofs [-getElem?_pos,go_sem,eqV,ah,en,Gp,tX])
  · generalize (wW l K 1 0 0 o0).1 = nx
    generalize (wW l K 1 0 0 o0).2.1 = la
    generalize (wW l K 1 0 0 o0).2.2 = o1 at hol ⊢
    rw [hlen0] at hol
    have hnl:=Ii l 0 o1
    apply Run.seq (fr':=xu c l l.length ++ [(56,.bool false)]) (H':=[jK,dD l.length (D9 l 0 o1)])
    · apply Run.seq (fr':=xu c l 0) (H':=[jK,dD l.length o1])
      · (refine ⟨0,?_⟩;simp (maxSteps:=2000000) -implicitDefEqProofs [-getElem?_pos,go_sem,eqV,ah,Gp,xu])
      · apply Run.eF
        refine Run.jD (σ:=List Int × List Int × List Int) (fun t=>t.1 ++ t.2.1 = l∧t.2.2.length = l.length) (fun t=>xu c l t.1.length) (fun t=>[jK,dD l.length t.2.2])
          (fun t=>⟨.exit 4,xu c l l.length ++ [(56,.bool false)],[jK,dD l.length (D9 t.2.1 t.1.length t.2.2)]⟩) (fun t=>t.2.1.length) ?_ ([],l,o1) ⟨rfl,hol⟩
        rintro ⟨done,todo,o⟩ ⟨hd,ho⟩
        simp only at hd ho ⊢
        cases todo with
        | nil =>
          right
          have hlen:done.length = l.length:=by rw [← hd];simp
          refine ⟨?_,by simp⟩
          simp only [D9]
          apply Run.bH
          · (refine ⟨0,?_⟩;simp (maxSteps:=2000000) -implicitDefEqProofs [-getElem?_pos,go_sem,eqV,ah,xu,hlen])
          · simp
        | cons x todo =>
          left
          have hlt:done.length < l.length:=by rw [← hd];simp
          have hget:l[done.length]? = some x:=by rw [← hd];simp
          have iT:(done.length:Int) < (l.length:Int):=by omega
          have hlo:done.length < o.length:=by omega
          have e:IntKind.i64.wrap ((done.length:Int) + 1) = (done.length:Int) + 1:=wrap_i64 (by omega) (by omega)
          by_cases hx0:x = 0
          · refine ⟨(done ++ [x],todo,o.set done.length (-1)),⟨by simpa using hd,by simpa using ho⟩,?_,by simp [D9,hx0],by simp⟩
            apply Run.seq
            · (refine ⟨0,?_⟩;conv=>lhs;simp (maxSteps:=2000000) -implicitDefEqProofs [-getElem?_pos,go_sem,eqV,ah,iT,xu])
            apply Run.seq (fr':=xu c l done.length) (H':=[jK,dD l.length (o.set done.length (-1))])
            · (refine ⟨0,?_⟩;simp (maxSteps:=2000000) -implicitDefEqProofs [-getElem?_pos,go_sem,eqV,ah,hget,hlt,hx0,xu,dD,jK,hlo])
            · (refine ⟨0,?_⟩;simp (maxSteps:=2000000) -implicitDefEqProofs [-getElem?_pos,go_sem,eqV,ah,e,xu])
          · refine ⟨(done ++ [x],todo,o),⟨by simpa using hd,ho⟩,?_,by simp [D9,hx0],by simp⟩
            apply Run.seq
            · (refine ⟨0,?_⟩;conv=>lhs;simp (maxSteps:=2000000) -implicitDefEqProofs [-getElem?_pos,go_sem,eqV,ah,iT,xu])
            apply Run.seq (fr':=xu c l done.length ++ [(63,.bool false)]) (H':=[jK,dD l.length o])
            · (refine ⟨0,?_⟩;simp (maxSteps:=2000000) -implicitDefEqProofs [-getElem?_pos,go_sem,eqV,ah,hget,hlt,hx0,xu,dD,jK])
            · (refine ⟨0,?_⟩;simp (maxSteps:=2000000) -implicitDefEqProofs [-getElem?_pos,go_sem,eqV,ah,e,xu])
    · generalize D9 l 0 o1 = o2
      refine ⟨0,?_⟩
      simp (maxSteps:=2000000) -implicitDefEqProofs [-getElem?_pos,go_sem,eqV,ah,xu]
theorem IE {H:AM.Heap} {a:AV} {l:List Int} (h:gq H a = some (.pi .i64 l)) (he:(fZ l).2 = 0):evT X 63 [a] H = some (.tup [.sl H.length 0 l.length 0,.int .i64 0],H ++ [dD l.length (iI l)]):=by
  obtain ⟨c,x,hx⟩:=dS (C:=X) (f:=63) (i:=0) rfl h (bU 1)
  obtain ⟨code,hb,hr⟩:=IC c l he (Ij he).1
  have:=Ev1.fresh (H:=H) (args:=[a]) (l:=[.sl 1 0 l.length 0,.int .i64 0]) (o:=1) (g:=0) (bn X) Try.func63 hb hx rfl (by simp [bW]) hr (.inr rfl) rfl rfl rfl rfl rfl rfl rfl
  have:=dA this
  simpa [aO,fU,ren,bZ,dD,AM.fresh] using this
end Go.Proofs.Ytbodincpjijdiaa
namespace Go.Proofs.Ytbodincpjijdiaa
open Go.AM
def rlB (s:Nat):Nat × Nat:=if s = 285 then (258,0) else if s < 265 then (s - 254,0) else (3 + (4 + (s - 261) % 4) * 2 ^ ((s - 261) / 4),(s - 261) / 4)
def rdB (s:Nat):Nat × Nat:=if s < 4 then (s + 1,0) else (1 + (2 + s % 2) * 2 ^ ((s - 2) / 2),(s - 2) / 2)
theorem QG:(List.range 29).all (fun k=>xw X (fun _ _ _=>none) 300 ⟨67,[.int .i64 ((257 + k:Nat):Int)],.tup [.int .i64 ((rlB (257 + k)).1:Nat),.int .i64 ((rlB (257 + k)).2:Nat)],[]⟩) = true:=by kernel_rfl
theorem QH:(List.range 30).all (fun k=>xw X (fun _ _ _=>none) 300 ⟨69,[.int .i64 ((k:Nat):Int)],.tup [.int .i64 ((rdB k).1:Nat),.int .i64 ((rdB k).2:Nat)],[]⟩) = true:=by kernel_rfl
theorem NC {H:AM.Heap} {s:Nat} (h:257≤s) (h2:s≤285):evT X 67 [.int .i64 (s:Nat)] H = some (.tup [.int .i64 ((rlB s).1:Nat),.int .i64 ((rlB s).2:Nat)],H):=by
  obtain ⟨k,rfl⟩:∃ k,s = 257 + k:=⟨s - 257,by omega⟩
  have:=dA (Ev1.tried (T:=fun _ _ _=>none) Below.none (List.all_eq_true.1 QG k (List.mem_range.2 (by omega))) H)
  simpa only [dM,ren,bZ,kG,List.map_nil,List.append_nil] using this
theorem ND {H:AM.Heap} {s:Nat} (h:s≤29):evT X 69 [.int .i64 (s:Nat)] H = some (.tup [.int .i64 ((rdB s).1:Nat),.int .i64 ((rdB s).2:Nat)],H):=by
  have:=dA (Ev1.tried (T:=fun _ _ _=>none) Below.none (List.all_eq_true.1 QH s (List.mem_range.2 (by omega))) H)
  simpa only [dM,ren,bZ,kG,List.map_nil,List.append_nil] using this
def rlL (n:Nat):Nat→Nat→Nat→Nat
  | 0,_,s=>s
  | f + 1,k,s=>rlL n f (k + 1) (if (rlB k).1≤n then k else s)
def rdL (n:Nat):Nat→Nat→Nat→Nat
  | 0,_,s=>s
  | f + 1,k,s=>rdL n f (k + 1) (if (rdB k).1≤n then k else s)
def tY (n s k:Nat):AM.Frame:=[(0,.int .i64 (n:Nat)),(3,.int .i64 (s:Nat)),(4,.int .i64 (k:Nat))]
theorem W9:∀ s,s < 286→(rlB s).1≤100000:=by decide +kernel
theorem Ea {m n:Nat} {E:AM.Heap} (hn:n < 258):∃ code,Try.f66.body = some code ∧
    aj (fun o=>o = ⟨.ret,[(2,.int .i64 (rlL n 27 258 257:Nat))],E⟩) X (evT X) 66 m code [(0,.int .i64 (n:Nat))] E:=by
  refine ⟨_,rfl,?_⟩
  have h1:¬ n = 258:=by omega
  have h1I:¬ (n:Int) = 258:=by omega
  have h1b:((n:Int) == 258) = false:=by simpa using h1I
  apply aj.seq (fr':=[(0,.int .i64 (n:Nat))]) (H':=E)
  · (refine ⟨0,?_⟩;simp (maxSteps:=2000000) -implicitDefEqProofs [-getElem?_pos,go_sem,eqV,ah])
  apply aj.assoc
  apply aj.seq (fr':=[(0,.int .i64 (n:Nat)),(8,.bool false)]) (H':=E)
  · (refine ⟨0,?_⟩;simp (maxSteps:=2000000) -implicitDefEqProofs [-getElem?_pos,go_sem,eqV,ah,h1,h1I,h1b])
  apply aj.seq (fr':=[(0,.int .i64 (n:Nat)),(8,.bool false)]) (H':=E)
  · exact Run.cond (d:=false) (by simp [aC,au]) ⟨0,rfl⟩
  apply aj.seq (fr':=[(0,.int .i64 (n:Nat)),(3,.int .i64 257)]) (H':=E)
  · (refine ⟨0,?_⟩;simp (maxSteps:=2000000) -implicitDefEqProofs [-getElem?_pos,go_sem,eqV,ah])
  apply aj.assoc
  apply aj.seq (fr':=tY n 257 258) (H':=E)
  · simp only [tY]
    (refine ⟨0,?_⟩;simp (maxSteps:=2000000) -implicitDefEqProofs [-getElem?_pos,go_sem,eqV,ah])
  apply aj.andThen (P:=fun fr H=>∃ k,fr = tY n (rlL n 27 258 257) k ++ [(10,.bool false)]∧H = E)
  · apply aj.block
    refine aj.loop (σ:=Nat × Nat) (fun t=>258≤t.1∧t.1≤285∧rlL n (285 - t.1) t.1 t.2 = rlL n 27 258 257) (fun t=>tY n t.2 t.1) (fun _=>E) (fun t=>285 - t.1) ?_ (258,257) ⟨by simp,by simp,rfl⟩
    rintro ⟨k,s⟩ ⟨hk0,hk,he⟩
    simp only at hk0 hk he ⊢
    by_cases hc:k = 285
    · right
      subst hc
      rw [Nat.sub_self,rlL] at he
      refine ⟨⟨.exit 0,tY n s 285 ++ [(10,.bool false)],E⟩,⟨rfl,285,by rw [← he],rfl⟩,by simp,?_⟩
      refine ⟨0,?_⟩
      simp only [tY]
      simp (maxSteps:=2000000) -implicitDefEqProofs [-getElem?_pos,go_sem,eqV,ah]
    · left
      obtain ⟨g,hg⟩:∃ g,285 - k = g + 1:=⟨284 - k,by omega⟩
      rw [hg,rlL] at he
      refine ⟨(k + 1,if (rlB k).1≤n then k else s),⟨by simp only;omega,by simp only;omega,?_⟩,?_,by simp only;omega⟩
      · simp only
        rw [show 285 - (k + 1) = g by omega]
        exact he
      · have hkI:(k:Int)≤284:=by omega
        have hkN:k≤284:=by omega
        have w1:IntKind.i64.wrap ((k:Int) + 1) = ((k + 1:Nat):Int):=by rw [wrap_i64 (by omega) (by omega)];omega
        have hL:=NC (H:=E) (s:=k) (by omega) (by omega)
        have hle:=W9 k (by omega)
        clear he
        generalize rlB k = R at *
        obtain ⟨x,y⟩:=R
        simp only at hL hle ⊢
        by_cases hx:x≤n
        · have hxI:(x:Int)≤(n:Int):=by omega
          rw [if_pos hx]
          generalize k + 1 = k1 at *
          simp only [tY]
          (refine ⟨0,?_⟩;simp (maxSteps:=2000000) -implicitDefEqProofs [-getElem?_pos,go_sem,eqV,ah,hkI,hkN,w1,hL,hx,hxI,ak])
        · have hxI:¬ (x:Int)≤(n:Int):=by omega
          rw [if_neg hx]
          generalize k + 1 = k1 at *
          simp only [tY]
          (refine ⟨0,?_⟩;simp (maxSteps:=2000000) -implicitDefEqProofs [-getElem?_pos,go_sem,eqV,ah,hkI,hkN,w1,hL,hx,hxI,ak])
  rintro fr H ⟨k,rfl,rfl⟩
  generalize rlL n 27 258 257 = s at *
  refine aj.of (o:=⟨.ret,[(2,.int .i64 (s:Nat))],H⟩) ?_ rfl
  refine ⟨0,?_⟩
  simp only [tY]
  simp (maxSteps:=2000000) -implicitDefEqProofs [-getElem?_pos,go_sem,eqV,ah,ak]
theorem Gq {m:Nat} {E:AM.Heap}:∃ code,Try.f66.body = some code ∧
    aj (fun o=>o = ⟨.ret,[(2,.int .i64 285)],E⟩) X (evT X) 66 m code [(0,.int .i64 258)] E:=by
  refine ⟨_,rfl,?_⟩
  refine aj.of (o:=⟨.ret,[(2,.int .i64 285)],E⟩) ?_ rfl
  refine ⟨0,?_⟩
  simp (maxSteps:=2000000) -implicitDefEqProofs [-getElem?_pos,go_sem,eqV,ah]
theorem Xa:∀ n,n < 258→3≤n→rlL n 27 258 257 = (lenOf n).1:=by decide +kernel
theorem IG {H:AM.Heap} {n:Nat} (h3:3≤n) (hn:n≤258):evT X 66 [.int .i64 (n:Nat)] H = some (.int .i64 ((lenOf n).1:Nat),H):=by
  have hx:=dL (C:=X) (f:=66) (i:=0) (a:=.int .i64 (n:Nat)) (H:=H) rfl rfl (bU 1)
  by_cases h:n = 258
  · subst h
    obtain ⟨code,hc,o,rfl,hr⟩:=Gq (m:=0) (E:=[])
    refine dA (Ev1.nV (l:=[.int .i64 ((lenOf 258).1:Nat)]) (bn X) Try.func66 hc hx rfl (by simp [bW]) rfl rfl rfl ?_)
    rw [VF]
    exact ⟨_,⟨rfl,rfl⟩,hr⟩
  · obtain ⟨code,hc,o,rfl,hr⟩:=Ea (m:=0) (n:=n) (E:=[]) (by omega)
    rw [Xa n (by omega) h3] at hr
    refine dA (Ev1.nV (l:=[.int .i64 ((lenOf n).1:Nat)]) (bn X) Try.func66 hc hx rfl (by simp [bW]) rfl rfl rfl ?_)
    rw [VF]
    exact ⟨_,⟨rfl,rfl⟩,hr⟩
theorem OL:∀ n,n < 259→3≤n→rlB (lenOf n).1 = ((lenOf n).2.1,(lenOf n).2.2):=by decide +kernel
theorem Un {H:AM.Heap} {n:Nat} (h3:3≤n) (hn:n≤258):evT X 67 [.int .i64 ((lenOf n).1:Nat)] H = some (.tup [.int .i64 ((lenOf n).2.1:Nat),.int .i64 ((lenOf n).2.2:Nat)],H):=by
  obtain ⟨a1,a2,a3,a4,a5⟩:=nU n (by omega) h3
  have:=NC (H:=H) (s:=(lenOf n).1) (by omega) (by omega)
  rwa [OL n (by omega) h3] at this
end Go.Proofs.Ytbodincpjijdiaa
namespace Go.Proofs.Ytbodincpjijdiaa
open Go.AM
theorem QI:∀ a,a < 30→∀ b,b < 30→a≤b→(rdB a).1≤(rdB b).1:=by decide +kernel
theorem QK {n s:Nat} (h:(rdB s).1≤n) (hs:s≤29) (h2:s < 29→n < (rdB (s + 1)).1):∀ (f k s0:Nat),k + f = 30→(s < k→s0 = s)→rdL n f k s0 = s
  | 0,k,s0,hk,h0=>h0 (by omega)
  | f + 1,k,s0,hk,h0=>by
    unfold rdL
    refine QK h hs h2 f (k + 1) _ (by omega) fun hlt=>?_
    by_cases he:s = k
    · subst he
      rw [if_pos h]
    · have hn:n < (rdB k).1:=Nat.lt_of_lt_of_le (h2 (by omega)) (QI (s + 1) (by omega) k (by omega) (by omega))
      rw [if_neg (by omega)]
      exact h0 (by omega)
theorem EF {n:Nat} (h1:1≤n) (h:n≤32768):rdB (bG n).1 = ((bG n).2.1,(bG n).2.2)∧((bG n).1 < 29→n < (rdB ((bG n).1 + 1)).1):=by
  by_cases h4:n≤4
  · have:∀ n,n < 5→1≤n→rdB (bG n).1 = ((bG n).2.1,(bG n).2.2)∧((bG n).1 < 29→n < (rdB ((bG n).1 + 1)).1):=by decide +kernel
    exact this n (by omega) h1
  · have hf:=jL h1 h
    unfold bG at hf ⊢
    rw [if_neg h4] at hf ⊢
    obtain ⟨b,j,hj,he⟩:=uj (n:=n) (f:=40) (bits:=1) (j:=0) (by omega) (BU h)
    have he':gF 2 n 40 4 5 1 0 = (2 * b + 2 + j,(2 + j) * 2 ^ b + 1,b):=he
    rw [he'] at hf ⊢
    simp only at hf ⊢
    obtain ⟨f1,f2,f3,f4⟩:=hf
    constructor
    · unfold rdB
      by_cases hb:b = 0
      · subst hb
        rw [if_pos (by omega)]
        simp
      · rw [if_neg (by omega),show (2 * b + 2 + j - 2) / 2 = b by omega,show (2 * b + 2 + j) % 2 = j by omega,Nat.add_comm]
    · intro _
      refine Nat.lt_of_lt_of_le f3 ?_
      have hcase:j = 0∨j = 1:=by omega
      rcases hcase with rfl | rfl
      · by_cases hb:b = 0
        · subst hb;decide
        · unfold rdB
          rw [if_neg (by omega),show (2 * b + 2 + 0 + 1 - 2) / 2 = b by omega,show (2 * b + 2 + 0 + 1) % 2 = 1 by omega]
          simp only
          omega
      · unfold rdB
        rw [if_neg (by omega),show (2 * b + 2 + 1 + 1 - 2) / 2 = b + 1 by omega,show (2 * b + 2 + 1 + 1) % 2 = 0 by omega,Nat.pow_succ]
        simp only
        omega
theorem Bd {m n:Nat} {E:AM.Heap}:∃ code,Try.f68.body = some code ∧
    aj (fun o=>o = ⟨.ret,[(2,.int .i64 (rdL n 29 1 0:Nat))],E⟩) X (evT X) 68 m code [(0,.int .i64 (n:Nat))] E:=by
  refine ⟨_,rfl,?_⟩
  apply aj.seq (fr':=[(0,.int .i64 (n:Nat))]) (H':=E)
  · (refine ⟨0,?_⟩;simp (maxSteps:=2000000) -implicitDefEqProofs [-getElem?_pos,go_sem,eqV,ah])
  apply aj.seq (fr':=[(0,.int .i64 (n:Nat)),(3,.int .i64 0)]) (H':=E)
  · (refine ⟨0,?_⟩;simp (maxSteps:=2000000) -implicitDefEqProofs [-getElem?_pos,go_sem,eqV,ah])
  apply aj.assoc
  apply aj.seq (fr':=tY n 0 1) (H':=E)
  · simp only [tY]
    (refine ⟨0,?_⟩;simp (maxSteps:=2000000) -implicitDefEqProofs [-getElem?_pos,go_sem,eqV,ah])
  apply aj.andThen (P:=fun fr H=>∃ k,fr = tY n (rdL n 29 1 0) k ++ [(8,.bool false)]∧H = E)
  · apply aj.block
    refine aj.loop (σ:=Nat × Nat) (fun t=>t.1≤30∧rdL n (30 - t.1) t.1 t.2 = rdL n 29 1 0) (fun t=>tY n t.2 t.1) (fun _=>E) (fun t=>30 - t.1) ?_ (1,0) ⟨by simp,rfl⟩
    rintro ⟨k,s⟩ ⟨hk,he⟩
    simp only at hk he ⊢
    by_cases hc:k = 30
    · right
      subst hc
      rw [Nat.sub_self,rdL] at he
      refine ⟨⟨.exit 0,tY n s 30 ++ [(8,.bool false)],E⟩,⟨rfl,30,by rw [← he],rfl⟩,by simp,?_⟩
      refine ⟨0,?_⟩
      simp only [tY]
      simp (maxSteps:=2000000) -implicitDefEqProofs [-getElem?_pos,go_sem,eqV,ah]
    · left
      obtain ⟨g,hg⟩:∃ g,30 - k = g + 1:=⟨29 - k,by omega⟩
      rw [hg,rdL] at he
      refine ⟨(k + 1,if (rdB k).1≤n then k else s),⟨by simp only;omega,?_⟩,?_,by simp only;omega⟩
      · simp only
        rw [show 30 - (k + 1) = g by omega]
        exact he
      · have hkI:(k:Int)≤29:=by omega
        have hkN:k≤29:=by omega
        have w1:IntKind.i64.wrap ((k:Int) + 1) = ((k + 1:Nat):Int):=by rw [wrap_i64 (by omega) (by omega)];omega
        have hL:=ND (H:=E) (s:=k) (by omega)
        clear he
        generalize rdB k = R at *
        obtain ⟨x,y⟩:=R
        simp only at hL ⊢
        by_cases hx:x≤n
        · have hxI:(x:Int)≤(n:Int):=by omega
          rw [if_pos hx]
          generalize k + 1 = k1 at *
          simp only [tY]
          (refine ⟨0,?_⟩;simp (maxSteps:=2000000) -implicitDefEqProofs [-getElem?_pos,go_sem,eqV,ah,hkI,hkN,w1,hL,hx,hxI,ak])
        · have hxI:¬ (x:Int)≤(n:Int):=by omega
          rw [if_neg hx]
          generalize k + 1 = k1 at *
          simp only [tY]
          (refine ⟨0,?_⟩;simp (maxSteps:=2000000) -implicitDefEqProofs [-getElem?_pos,go_sem,eqV,ah,hkI,hkN,w1,hL,hx,hxI,ak])
  rintro fr H ⟨k,rfl,rfl⟩
  generalize rdL n 29 1 0 = s at *
  refine aj.of (o:=⟨.ret,[(2,.int .i64 (s:Nat))],H⟩) ?_ rfl
  refine ⟨0,?_⟩
  simp only [tY]
  simp (maxSteps:=2000000) -implicitDefEqProofs [-getElem?_pos,go_sem,eqV,ah,ak]
theorem Eb {H:AM.Heap} {n:Nat} (h1:1≤n) (hn:n≤32768):evT X 68 [.int .i64 (n:Nat)] H = some (.int .i64 ((bG n).1:Nat),H):=by
  have hx:=dL (C:=X) (f:=68) (i:=0) (a:=.int .i64 (n:Nat)) (H:=H) rfl rfl (bU 1)
  obtain ⟨code,hc,o,rfl,hr⟩:=Bd (m:=0) (n:=n) (E:=[])
  obtain ⟨d1,d2⟩:=EF h1 hn
  obtain ⟨f1,f2,f3,f4⟩:=jL h1 hn
  rw [QK (s:=(bG n).1) (by rw [d1];exact f2) (by omega) d2 29 1 0 rfl (fun h=>by omega)] at hr
  refine dA (Ev1.nV (l:=[.int .i64 ((bG n).1:Nat)]) (bn X) Try.func68 hc hx rfl (by simp [bW]) rfl rfl rfl ?_)
  rw [Zj]
  exact ⟨_,⟨rfl,rfl⟩,hr⟩
theorem Uo {H:AM.Heap} {n:Nat} (h1:1≤n) (hn:n≤32768):evT X 69 [.int .i64 ((bG n).1:Nat)] H = some (.tup [.int .i64 ((bG n).2.1:Nat),.int .i64 ((bG n).2.2:Nat)],H):=by
  obtain ⟨f1,f2,f3,f4⟩:=jL h1 hn
  have:=ND (H:=H) (s:=(bG n).1) f1
  rwa [(EF h1 hn).1] at this
end Go.Proofs.Ytbodincpjijdiaa
namespace Go.Proofs.Ytbodincpjijdiaa
open Go.AM
theorem OM (x:Px):∃ code,Try.f77.body = some code∧aj (jV fun fr H=>au fr 2 = .bool (jy x)) X (evT X) 77 0 code [(0,.agg (pxR x))] []:=by
  refine ⟨_,rfl,?_⟩
  simp only [pxR]
  apply aj.seq (fr':=[(1,.ptr 0 0 0 0)]) (H':=[some (⟨.pc [.int .i64 x.len,.int .i64 x.dist,.int .u8 (x.byte.toNat:Nat)],0,some 3,1,false,true,0⟩:AM.Obj)])
  · (refine ⟨0,?_⟩;simp (maxSteps:=2000000) -implicitDefEqProofs [-getElem?_pos,go_sem,eqV,ah])
  unfold jy
  by_cases h0:x.len = 0
  · rw [if_pos h0,h0]
    refine aj.of (o:=⟨.ret,[(2,.bool (decide (x.dist = 0)))],[some (⟨.pc [.int .i64 0,.int .i64 x.dist,.int .u8 (x.byte.toNat:Nat)],0,some 3,1,false,true,0⟩:AM.Obj)]⟩) ?_ ⟨rfl,rfl⟩
    refine ⟨0,?_⟩
    by_cases h1:x.dist = 0
    · rw [decide_eq_true h1,h1]
      simp (maxSteps:=2000000) -implicitDefEqProofs [-getElem?_pos,go_sem,eqV,ah]
    · have h1b:(x.dist == 0) = false:=by simpa using h1
      rw [decide_eq_false h1]
      simp (maxSteps:=2000000) -implicitDefEqProofs [-getElem?_pos,go_sem,eqV,ah,h1,h1b]
  · rw [if_neg h0]
    have h0b:(x.len == 0) = false:=by simpa using h0
    refine aj.of (o:=⟨.ret,[(2,.bool (decide (3≤x.len) && (decide (x.len≤258) && (decide (1≤x.dist) && (decide (x.dist≤32768) && decide (x.byte = 0))))))],[some (⟨.pc [.int .i64 x.len,.int .i64 x.dist,.int .u8 (x.byte.toNat:Nat)],0,some 3,1,false,true,0⟩:AM.Obj)]⟩) ?_ ⟨rfl,rfl⟩
    refine ⟨0,?_⟩
    by_cases h1:3≤x.len
    · rw [decide_eq_true h1]
      by_cases h2:x.len≤258
      · rw [decide_eq_true h2]
        by_cases h3:1≤x.dist
        · rw [decide_eq_true h3]
          by_cases h4:x.dist≤32768
          · rw [decide_eq_true h4]
            by_cases h5:x.byte = 0
            · rw [decide_eq_true h5,h5]
              simp (maxSteps:=2000000) -implicitDefEqProofs [-getElem?_pos,go_sem,eqV,ah,h0,h0b,h1,h2,h3,h4]
            · have h5N:¬ x.byte.toNat = 0:=fun h=>h5 (UInt8.toNat_inj.1 h)
              have h5b:((x.byte.toNat:Int) == 0) = false:=by simpa using h5N
              have h5I:¬ (x.byte.toNat:Int) = 0:=by omega
              rw [decide_eq_false h5]
              simp (maxSteps:=2000000) -implicitDefEqProofs [-getElem?_pos,go_sem,eqV,ah,h0,h0b,h1,h2,h3,h4,h5N,h5b,h5I]
          · rw [decide_eq_false h4]
            simp (maxSteps:=2000000) -implicitDefEqProofs [-getElem?_pos,go_sem,eqV,ah,h0,h0b,h1,h2,h3,h4]
        · rw [decide_eq_false h3]
          simp (maxSteps:=2000000) -implicitDefEqProofs [-getElem?_pos,go_sem,eqV,ah,h0,h0b,h1,h2,h3]
      · rw [decide_eq_false h2]
        simp (maxSteps:=2000000) -implicitDefEqProofs [-getElem?_pos,go_sem,eqV,ah,h0,h0b,h1,h2]
    · rw [decide_eq_false h1]
      simp (maxSteps:=2000000) -implicitDefEqProofs [-getElem?_pos,go_sem,eqV,ah,h0,h0b,h1]
theorem Ur (H:AM.Heap) (x:Px):evT X 77 [.agg (pxR x)] H = some (.bool (jy x),H):=by
  obtain ⟨code,hc,⟨out,⟨ho,h2⟩,hr⟩⟩:=OM x
  have hl:aH X 77 H 0 [.agg (pxR x)] = some ([.agg (pxR x)],[⟨[],[]⟩]):=by
    have hrw:X.rw 77 0 = false:=rfl
    simp [aH,hrw,eU,iO,dY,pxR,tags]
  refine dA (Ev1.nV (l:=[.bool (jy x)]) (bn X) Try.func77 hc hl rfl (by simp [bW]) rfl rfl rfl ?_)
  rw [Zm]
  refine ⟨out,⟨ho,?_⟩,hr⟩
  show some [au out.fr 2] = _
  rw [h2]
section
variable {c:Nat} {l:List Px}
def gV (v:AV) (c:Nat) (l:List Px) (i:Nat):AM.Frame:=[(0,.ro c (.pr 3 (l.map pxR)) 1),(4,v),(5,.int .i64 (i:Nat))]
def tZ (v:AV) (c:Nat) (l:List Px) (i j:Nat):AM.Frame:=[(0,.ro c (.pr 3 (l.map pxR)) 1),(4,v),(5,.int .i64 (i:Nat)),(6,.int .i64 (j:Nat))]
theorem tC {i:Nat} {x:Px} (hx:l[i]? = some x):(l.map pxR)[i]? = some (pxR x)∧i < (l.map pxR).length∧(i:Int) < ((l.map pxR).length:Int):=by
  have:=eY hx
  refine ⟨by rw [List.getElem?_map,hx];rfl,by simp;omega,by simp;omega⟩
theorem aaF {m i:Nat} {x:Px} {v:AV} {tl:AM.Frame} {E:AM.Heap} (hx:l[i]? = some x):∃ code,((Try.f61.body).bind (aF [1,1,0,1,0,0,1,0,0,0,0])) = some code∧Run X (evT X) 61 m code (gV v c l i ++ tl) E ⟨.normal,gV v c l i ++ [(18,.bool (!jy x))],E⟩:=by
  refine ⟨_,rfl,?_⟩
  have hM:=Ur E x
  obtain ⟨h1,h2,h3⟩:=tC hx
  generalize jy x = d at *
  simp only [gV,pxR] at h1 hM ⊢
  generalize l.map pxR = R at *
  generalize hN:R.length = N at *
  cases d <;> (refine ⟨0,?_⟩;simp (maxSteps:=2000000) -implicitDefEqProofs [-getElem?_pos,go_sem,eqV,ah,h1,h2,h3,hN,hM,TG,kE,retag])
theorem aaG {m i:Nat} {x:Px} {v:AV} {tl:AM.Frame} {E:AM.Heap} (hx:l[i]? = some x):∃ code,((Try.f61.body).bind (aF [1,1,0,1,0,0,1,0,0,1,0,0])) = some code∧Run X (evT X) 61 m code (gV v c l i ++ tl) E ⟨.normal,gV v c l i ++ [(24,.bool (decide (x.len = 0)))],E⟩:=by
  refine ⟨_,rfl,?_⟩
  obtain ⟨h1,h2,h3⟩:=tC hx
  simp only [gV,pxR] at h1 ⊢
  generalize l.map pxR = R at *
  generalize hN:R.length = N at *
  by_cases h:x.len = 0
  · have hb:(x.len == 0) = true:=by simpa using h
    rw [decide_eq_true h]
    (refine ⟨0,?_⟩;simp (maxSteps:=2000000) -implicitDefEqProofs [-getElem?_pos,go_sem,eqV,ah,h1,h2,h3,hN,h,hb])
  · have hb:(x.len == 0) = false:=by simpa using h
    rw [decide_eq_false h]
    (refine ⟨0,?_⟩;simp (maxSteps:=2000000) -implicitDefEqProofs [-getElem?_pos,go_sem,eqV,ah,h1,h2,h3,hN,h,hb])
theorem aaH {m i N g:Nat} {x:Px} {v:AV} {E E':AM.Heap} {tl:AM.Frame} (hx:l[i]? = some x) (hA:bD X E 22 v (.ro 1 (.pb [x.byte]) 0) = some (.sl 1 0 N g,E')):∃ code,((Try.f61.body).bind (aF [1,1,0,1,0,0,1,0,0,1,0,1,0,0])) = some code∧Run X (evT X) 61 m code (gV v c l i ++ tl) E ⟨.normal,gV (.sl 1 0 N g) c l i,E'⟩:=by
  refine ⟨_,rfl,?_⟩
  have hbs:=bsW E x.byte
  obtain ⟨h1,h2,h3⟩:=tC hx
  simp only [gV,pxR] at h1 ⊢
  generalize l.map pxR = R at *
  generalize hN:R.length = N2 at *
  (refine ⟨0,?_⟩;simp (maxSteps:=2000000) -implicitDefEqProofs [-getElem?_pos,go_sem,eqV,ah,h1,h2,h3,hN,hbs,hA,ak])
theorem aaI {m i g:Nat} {x:Px} {o:List UInt8} {ob:AM.Obj} {tl:AM.Frame} {E:AM.Heap} (hx:l[i]? = some x) (ho:E[1]? = some (some ob)) (hw:Rw (.pb o) g ob):∃ code,((Try.f61.body).bind (aF [1,1,0,1,0,0,1,0,0,1,1,0,0])) = some code∧Run X (evT X) 61 m code (gV (.sl 1 0 o.length g) c l i ++ tl) E ⟨.normal,gV (.sl 1 0 o.length g) c l i ++ [(40,.bool (decide ((o.length:Int) < x.dist)))],E⟩:=by
  refine ⟨_,rfl,?_⟩
  have hg:=hw.g
  obtain ⟨h1,h2,h3⟩:=tC hx
  simp only [gV,pxR] at h1 ⊢
  generalize l.map pxR = R at *
  generalize hN:R.length = N at *
  generalize o.length = K at *
  by_cases h:(K:Int) < x.dist
  · rw [decide_eq_true h]
    (refine ⟨0,?_⟩;simp (maxSteps:=2000000) -implicitDefEqProofs [-getElem?_pos,go_sem,eqV,ah,h1,h2,h3,hN,ho,hg,h])
  · rw [decide_eq_false h]
    (refine ⟨0,?_⟩;simp (maxSteps:=2000000) -implicitDefEqProofs [-getElem?_pos,go_sem,eqV,ah,h1,h2,h3,hN,ho,hg,h])
theorem Xb {m i n j:Nat} {x:Px} {v:AV} {E:AM.Heap} (hx:l[i]? = some x) (hn:x.len = (n:Nat)):∃ code,((Try.f61.body).bind (aF [1,1,0,1,0,0,1,0,0,1,1,1,1,0,0,0,0])) = some code∧Run X (evT X) 61 m code (tZ v c l i j) E ⟨.normal,tZ v c l i j ++ [(47,.bool (decide (j < n)))],E⟩:=by
  refine ⟨_,rfl,?_⟩
  obtain ⟨h1,h2,h3⟩:=tC hx
  simp only [tZ,pxR,hn] at h1 ⊢
  generalize l.map pxR = R at *
  generalize hN:R.length = N at *
  by_cases h:j < n
  · have hI:(j:Int) < (n:Int):=by omega
    rw [decide_eq_true h]
    (refine ⟨0,?_⟩;simp (maxSteps:=2000000) -implicitDefEqProofs [-getElem?_pos,go_sem,eqV,ah,h1,h2,h3,hN,h,hI])
  · have hI:¬ (j:Int) < (n:Int):=by omega
    rw [decide_eq_false h]
    (refine ⟨0,?_⟩;simp (maxSteps:=2000000) -implicitDefEqProofs [-getElem?_pos,go_sem,eqV,ah,h1,h2,h3,hN,h,hI])
theorem Xc {m i j g d:Nat} {x:Px} {o:List UInt8} {ob:AM.Obj} {tl:AM.Frame} {E:AM.Heap} (hx:l[i]? = some x) (hd:x.dist = (d:Nat)) (hd1:1≤d) (hd2:d≤o.length) (ho:E[1]? = some (some ob)) (hw:Rw (.pb o) g ob) (hol:o.length≤1000000) :
    ∃ ob',Rw (.pb (o ++ [o.getD (o.length - d) 0])) (g + 1) ob'∧∃ code,((Try.f61.body).bind (aF [1,1,0,1,0,0,1,0,0,1,1,1,1,0,0,1,0,0])) = some code∧Run X (evT X) 61 m code (tZ (.sl 1 0 o.length g) c l i j ++ tl) E ⟨.normal,tZ (.sl 1 0 (o.length + 1) (g + 1)) c l i j,upd E 1 (some ob')⟩:=by
  have hy:o[o.length - d]? = some (o.getD (o.length - d) 0):=by
    rw [List.getD_eq_getElem?_getD,List.getElem?_eq_getElem (by omega)];rfl
  generalize o.getD (o.length - d) 0 = y at *
  obtain ⟨ob',w1,w2⟩:=mY (C:=X) (T:=22) (e:=5) (H:=E) (o:=1) (m:=[y]) (src:=.ro 1 (.pb [y]) 0) kK rV kL bytes5 qC ho hw (.inl (by simp [gU,jF,kM])) (by simp;omega)
  refine ⟨ob',w1,_,rfl,?_⟩
  have hbs:=bsW E y
  obtain ⟨h1,h2,h3⟩:=tC hx
  have q1:=hw.p;have q2:=hw.g;have q4:=hw.ids;have q5:=hw.tg
  have w3:IntKind.i64.wrap ((o.length:Int) - (d:Int)) = ((o.length - d:Nat):Int):=by rw [wrap_i64 (by omega) (by omega)];omega
  have hlt:o.length - d < o.length:=by omega
  have iT:((o.length - d:Nat):Int) < (o.length:Int):=by omega
  simp only [List.length_singleton] at w2
  simp only [tZ,pxR,hd] at h1 ⊢
  generalize l.map pxR = R at *
  generalize hN:R.length = N at *
  generalize o.length - d = kd at *
  generalize hK:o.length = K at *
  generalize K + 1 = K1 at *
  (refine ⟨0,?_⟩;simp (maxSteps:=2000000) -implicitDefEqProofs [-getElem?_pos,go_sem,eqV,ah,h1,h2,h3,hN,ho,q1,q2,q4,q5,w3,hy,hlt,iT,hbs,w2,hK,ak])
end
end Go.Proofs.Ytbodincpjijdiaa
