/- QO to SG: texts of this claim, one behind the other; what each shows stands at its head. -/
import Derived.Test.YtbodincpjijdiaaAm4
import Derived.Test.YtbodincpjijdiaaMg9
set_option linter.unusedSimpArgs false
set_option linter.unusedVariables false
set_option maxRecDepth 100000
set_option maxHeartbeats 8000000
namespace Go.Proofs.Ytbodincpjijdiaa
open Go.AM
def uT:AM.Obj:=⟨.pb [],0,.none,0,true,false,0⟩
theorem emC:rowOf (bJ X 5) .none 0 = uT:=by simp [bJ,rowOf,uT]
theorem ajG {H:AM.Heap} {c t:Nat} {l:List UInt8}:gU H (.ro c (.pb l) t) = some (.pb l,0)∨(gU H (.ro c (.pb l) t) = some (.pn,0)∧l = []):=.inl (by simp [gU,jF,kM])
def e8:List UInt8:=[165,165,165,165,165,165,165,165]
theorem bs8 (H:AM.Heap):bP X H 22 8 [(0,.int .u8 165),(1,.int .u8 165),(2,.int .u8 165),(3,.int .u8 165),(4,.int .u8 165),(5,.int .u8 165),(6,.int .u8 165),(7,.int .u8 165)] = some (.ro 1 (.pb e8) 0,H):=by kernel_rfl
theorem mk0 {n:Nat} (hn:n≤1000000) (H:AM.Heap):dI X H 22 (.int .i64 0) (.int .i64 (n:Nat)) = some (.sl H.length 0 0 0,H ++ [some ⟨.pb [],0,some n,1,true,false,0⟩]):=by
  have hz:∀ n,iP X 5 n = some (.pb (List.replicate n 0)):=fun n=>by simp [iP,dK,scalars,scalar,aJ,ids,bQ,tags]
  have h0:(0:Int)≤n:=by omega
  have h1:(n:Int)≤9223372036854775807:=by omega
  have h2:(n:Int)≤140737488355328:=by omega
  simp [dI,hz,h0,h1,h2,rowOf]
theorem XF {c n8:Nat} {b E:List UInt8} {ob0 ob1 ob2:AM.Obj} (w8:IntKind.i64.wrap ((b.length:Int) + 8) = (n8:Nat))
    (hM:dI X [some uT] 22 (.int .i64 0) (.int .i64 (n8:Nat)) = some (.sl 1 0 0 0,[some uT,some ob0]))
    (hA1:bD X [some uT,some ob0] 22 (.sl 1 0 0 0) (.ro c (.pb b) 1) = some (.sl 1 0 b.length 1,[some uT,some ob1]))
    (hb8:∀ H,bP X H 22 8 [(0,.int .u8 165),(1,.int .u8 165),(2,.int .u8 165),(3,.int .u8 165),(4,.int .u8 165),(5,.int .u8 165),(6,.int .u8 165),(7,.int .u8 165)] = some (.ro 1 (.pb E) 0,H))
    (hA2:bD X [some uT,some ob1] 22 (.sl 1 0 b.length 1) (.ro 1 (.pb E) 0) = some (.sl 1 0 n8 2,[some uT,some ob2]))
    (hS2:jq X [some uT,some ob2] 22 (.sl 1 0 n8 2) none (some (.int .i64 (b.length:Nat))) = some (.sl 1 0 b.length 2)) :
    ∃ code,((Try.f9.body).bind (aF [1,0])) = some code∧Run X (evT X) 9 0 code [(0,.ro c (.pb b) 1)] [some uT] ⟨.normal,[(2,.sl 1 0 b.length 2)],[some uT,some ob2]⟩:=by
  refine ⟨_,rfl,0,?_⟩
  simp (maxSteps:=2000000) -implicitDefEqProofs [-getElem?_pos,go_sem,eqV,ah,ak,w8,hM,hA1,hA2,hb8,hS2]
section
variable (c:Nat) (b:List UInt8)
theorem RF (hc:c = 0→b = []) (hb:b.length≤900000):∃ code,Try.f9.body = some code ∧
    aj (jV fun fr H=>∃ o g ob,au fr 2 = .sl o 0 b.length g∧H[o]? = some (some ob)∧Rw (.pb (b ++ e8)) g ob∧ob.cap = some (b.length + 8)) X (evT X) 9 0 code [(0,.ro c (.pb b) 1)] []:=by
  refine ⟨_,rfl,?_⟩
  have w8:IntKind.i64.wrap ((b.length:Int) + 8) = ((b.length + 8:Nat):Int):=by rw [wrap_i64 (by omega) (by omega)];omega
  have hM:=mk0 (n:=b.length + 8) (by omega) [some uT]
  have hw0:Rw (.pb []) 0 ⟨.pb [],0,some (b.length + 8),1,true,false,0⟩:=⟨rfl,rfl,rfl,rfl,rfl⟩
  obtain ⟨ob1,hw1,hk1,hA1⟩:=NM (C:=X) (T:=22) (e:=5) (by simp) (rV) (by simp) (by simp) (by simp) (H:=[some uT,some ⟨.pb [],0,some (b.length + 8),1,true,false,0⟩]) (o:=1) (g:=0) (k:=b.length + 8) (l:=[]) (m:=b) (src:=.ro c (.pb b) 1) rfl hw0 rfl (by simp) (ajG) (by simp;omega)
  rw [List.nil_append] at hw1
  rw [List.length_nil,Nat.zero_add] at hA1
  obtain ⟨ob2,hw2,hk2,hA2⟩:=NM (C:=X) (T:=22) (e:=5) (by simp) (rV) (by simp) (by simp) (by simp) (H:=[some uT,some ob1]) (o:=1) (g:=1) (k:=b.length + 8) (l:=b) (m:=e8) (src:=.ro 1 (.pb e8) 0) rfl hw1 hk1 (by simp [e8]) (.inl rfl) (by simp [e8];omega)
  have hPl:ah (.pb (b ++ e8)) = b.length + 8:=by simp [ah,e8]
  have hS2:jq X [some uT,some ob2] 22 (.sl 1 0 (b.length + 8) 2) none (some (.int .i64 (b.length:Nat))) = some (.sl 1 0 b.length 2):=by
    have hg:=hw2.g
    have hp:=hw2.p
    have hle:(b.length:Int)≤(b.length:Int) + 8:=by omega
    simp [jq,bound,live,hg,hp,hPl,aK,hle]
  apply aj.seq (fr':=[(0,.ro c (.pb b) 1)]) (H':=[some uT])
  · (refine ⟨0,?_⟩;simp (maxSteps:=2000000) -implicitDefEqProofs [-getElem?_pos,go_sem,eqV,ah,ak,emC])
  refine aj.seq (piece (XF w8 hM hA1 bs8 hA2 hS2) _ rfl) (aj.of (o:=⟨.ret,[(2,.sl 1 0 b.length 2)],[some uT,some ob2]⟩) ⟨0,rfl⟩ ⟨rfl,1,2,ob2,rfl,rfl,hw2,hk2⟩)
structure OwnB (b:List UInt8) (ob:AM.Obj):Prop where
  rw:Rw (.pb (b ++ e8)) 0 ob
  cap:ob.cap = some (b.length + 8)
def Jh (c t:Nat) (b:List UInt8) (i:Nat):AM.Frame:=[(5,.sl 0 b.length 8 0),(6,.int .i64 (i:Nat))]
theorem Pg (ob:AM.Obj) (hp:ob.p = .pb (b ++ e8)) (hg:ob.g = 0) (hid:ob.ids = false) (hk:ob.cap = some (b.length + 8)) (hc:c = 0→b = []) (hb:b.length≤900000):∃ code,Try.f13.body = some code ∧
    aj (jV fun fr H=>au fr 4 = .bool true∧H = [some ob]) X (evT X) 13 1 code [(0,.sl 0 0 b.length 0),(1,.ro c (.pb b) 2)] [some ob]:=by
  refine ⟨_,rfl,?_⟩
  have w8:IntKind.i64.wrap ((b.length:Int) + 8) = (b.length:Int) + 8:=by rw [wrap_i64 (by omega) (by omega)]
  have hPl:ah (.pb (b ++ e8)) = b.length + 8:=by simp [ah,e8]
  have hS:=Dj (H:=[some ob]) (a:=.sl 0 0 b.length 0) (a2:=.ro c (.pb b) 2) (Byt.part (l:=b) rfl hg hp hid (by simp) (by simp)) (Byt.ro (.inl rfl) hc)
  rw [beq_self_eq_true] at hS
  have hC:Eh X [some ob] 22 (.sl 0 0 b.length 0) = some ((b.length:Int) + 8):=by simp [Eh,live,hg,hk]
  have hS1:jq X [some ob] 22 (.sl 0 0 b.length 0) none (some (.int .i64 ((b.length:Int) + 8))) = some (.sl 0 0 (b.length + 8) 0):=by
    have h1:(0:Int)≤(b.length:Int) + 8:=by omega
    have h2:((b.length:Int) + 8).toNat = b.length + 8:=by omega
    simp [jq,bound,live,hg,hp,hPl,aK,h1,h2]
  have hS2:jq X [some ob] 22 (.sl 0 0 (b.length + 8) 0) (some (.int .i64 (b.length:Nat))) none = some (.sl 0 b.length 8 0):=by
    have hle:(b.length:Int)≤(b.length:Int) + 8:=by omega
    simp [jq,bound,live,hg,hp,hPl,aK,hle]
  apply aj.seq (fr':=[(0,.sl 0 0 b.length 0),(1,.ro c (.pb b) 2)]) (H':=[some ob])
  · (refine ⟨0,?_⟩;simp (maxSteps:=2000000) -implicitDefEqProofs [-getElem?_pos,go_sem,eqV,ah])
  apply aj.seq (fr':=[(0,.sl 0 0 b.length 0),(1,.ro c (.pb b) 2),(18,.bool false)]) (H':=[some ob])
  · (refine ⟨0,?_⟩;simp (maxSteps:=2000000) -implicitDefEqProofs [-getElem?_pos,go_sem,eqV,ah,hS,hC,w8])
  apply aj.seq (fr':=[(5,.sl 0 b.length 8 0)]) (H':=[some ob])
  · (refine ⟨0,?_⟩;simp (maxSteps:=2000000) -implicitDefEqProofs [-getElem?_pos,go_sem,eqV,ah,hS1,hS2,w8])
  apply aj.andThen (P:=fun fr H=>fr = Jh c 2 b 8 ++ [(33,.bool false)]∧H = [some ob])
  · apply aj.seq (fr':=Jh c 2 b 0) (H':=[some ob])
    · (refine ⟨0,?_⟩;simp (maxSteps:=2000000) -implicitDefEqProofs [-getElem?_pos,go_sem,eqV,ah,Jh])
    apply aj.block
    refine aj.loop (σ:=Nat) (fun i=>i≤8) (fun i=>Jh c 2 b i) (fun _=>[some ob]) (fun i=>8 - i) ?_ 0 (by omega)
    intro i hi
    by_cases hi8:i = 8
    · right
      subst hi8
      refine ⟨⟨.exit 0,Jh c 2 b 8 ++ [(33,.bool false)],[some ob]⟩,⟨rfl,rfl,rfl⟩,by simp,?_⟩
      (refine ⟨0,?_⟩;simp (maxSteps:=2000000) -implicitDefEqProofs [-getElem?_pos,go_sem,eqV,ah,Jh,hg])
    · left
      have hiI:(i:Int) < 8:=by omega
      have w1:IntKind.i64.wrap ((i:Int) + 1) = ((i + 1:Nat):Int):=by rw [wrap_i64 (by omega) (by omega)];omega
      have hv:(b ++ e8)[b.length + i]? = some 165:=by
        rw [List.getElem?_append_right (by omega),show b.length + i - b.length = i by omega]
        match i,hi,hi8 with
        | 0,_,_ | 1,_,_ | 2,_,_ | 3,_,_ | 4,_,_ | 5,_,_ | 6,_,_ | 7,_,_=>rfl
        | 8,_,h=>exact absurd rfl h
        | i + 9,h,_=>omega
      refine ⟨i + 1,by omega,?_,by omega⟩
      have hin:i < 8:=by omega
      (refine ⟨0,?_⟩;simp (maxSteps:=2000000) -implicitDefEqProofs [-getElem?_pos,go_sem,eqV,ah,Jh,hiI,hin,hg,hp,hid,hv,w1])
  · rintro fr H ⟨rfl,rfl⟩
    refine aj.of (o:=⟨.ret,[(4,.bool true)],[some ob]⟩) ⟨0,?_⟩ ⟨rfl,rfl,rfl⟩
    simp (maxSteps:=2000000) -implicitDefEqProofs [-getElem?_pos,go_sem,eqV,ah,Jh]
end
theorem XG {H:AM.Heap} {a:AV} {b:List UInt8} (h:Byt H a b) (hb:b.length≤900000):∃ ob,OwnB b ob∧evT X 9 [a] H = some (.sl H.length 0 b.length 0,H ++ [some ob]):=by
  obtain ⟨c,p,xl,hp,hc,hx⟩:=oZ (C:=X) (f:=9) (i:=0) rfl h (bU 1)
  obtain ⟨code,hcode,hr⟩:=RF c b hc hb
  obtain ⟨ob,q1,q2,q3⟩:=Ev1.aaP (H:=H) (n:=b.length) (k:=some (b.length + 8)) (l:=b ++ e8) (rest:=[]) (bn X) Try.func9 hcode hx (by simp [aJ,ids,hp.ids]) (by simp [bW]) rfl rfl rfl (by
    obtain ⟨o,⟨he,o1,g,ob,q1,q2,q3,q4⟩,hrun⟩:=hr
    exact ⟨o,⟨he,o1,g,ob,congrArg (fun v=>some [v]) q1,q2,q3,q4⟩,by rw [agr,coD hp];exact hrun⟩)
  exact ⟨ob,⟨q1,q2⟩,dA q3⟩
theorem OwnB.byt {H:AM.Heap} {o:Nat} {ob:AM.Obj} {b:List UInt8} (ho:H[o]? = some (some ob)) (h:OwnB b ob):Byt H (.sl o 0 b.length 0) b :=
  Byt.sl ho h.rw (by simp) (by simp)
theorem UL {H:AM.Heap} {o:Nat} {ob:AM.Obj} {b:List UInt8} {c t:Nat} (ho:H[o]? = some (some ob)) (h:OwnB b ob) (hc:c = 0→b = []) (hb:b.length≤900000) :
    evT X 13 [.sl o 0 b.length 0,.ro c (.pb b) t] H = some (.bool true,H):=by
  have hl:aH X 13 H 1 [.ro c (.pb b) t] = some ([.ro c (.pb b) 2],[⟨[],[t]⟩]):=by simp [aH,eU,dY]
  obtain ⟨code,hcode,⟨⟨ex,fr,H1⟩,⟨he,h4,hH⟩,hrun⟩⟩:=Pg c b { ob with g:=0,tg:=3 } h.rw.p rfl h.rw.ids h.cap hc hb
  simp only at he h4 hH
  subst he hH
  exact dA (Ev1.rw1 (H:=H) (n:=3) (l:=[.bool true]) (rest:=[]) (bn X) Try.func13 hcode rfl ho h.rw.g h.rw.ids (by rw [h.rw.p];rfl) h.rw.tg hl rfl rfl rfl (by simp [bW])
    (by rw [YV];simpa [coerce,numbered] using hrun) (.inr rfl) (by show some [au fr 4] = _;rw [h4]) rfl rfl rfl)
end Go.Proofs.Ytbodincpjijdiaa
namespace Go.Proofs.Ytbodincpjijdiaa
open Go.AM
theorem XH:sqR [97,98] 3 60 50 = ([2,0,0,3,0,0,0,97,98],4,0):=by kernel_rfl
theorem aa0 (H:AM.Heap):bP X H 22 2 [(0,.int .u8 97),(1,.int .u8 98)] = some (.ro 1 (.pb [97,98]) 0,H):=by kernel_rfl
theorem aa1 (H:AM.Heap):bP X H 22 9 [(0,.int .u8 2),(1,.int .u8 0),(2,.int .u8 0),(3,.int .u8 3),(4,.int .u8 0),(5,.int .u8 0),(6,.int .u8 0),(7,.int .u8 97),(8,.int .u8 98)] = some (.ro 1 (.pb [2,0,0,3,0,0,0,97,98]) 0,H):=by kernel_rfl
theorem Ji:∃ code,Try.f8.body = some code∧aj (jV fun fr H=>aQ X fr H Try.f8.results.toList = some [.bool true]) X (evT X) 8 0 code [] []:=by
  refine ⟨_,rfl,?_⟩
  obtain ⟨ob1,w1,e1⟩:=Dk (H:=[]) (a:=.ro 1 (.pb [97,98]) 0) (B:=[97,98]) (s:=3) (mo:=60) (th:=50) (Byt.ro (.inl rfl) (fun h=>by omega)) (by simp) (by omega)
  rw [XH] at w1 e1
  have s1:=Dj (H:=[some ob1]) (a:=.sl 0 0 9 0) (a2:=.ro 1 (.pb [2,0,0,3,0,0,0,97,98]) 0) (Byt.whole (l:=[2,0,0,3,0,0,0,97,98]) rfl w1) (Byt.ro (.inl rfl) (fun h=>by omega))
  rw [beq_self_eq_true] at s1
  simp only [List.length_cons,List.length_nil,List.nil_append] at e1
  refine aj.of (o:=⟨.ret,[(0,.bool true)],[some ob1]⟩) ?_ ⟨rfl,rfl⟩
  refine ⟨0,?_⟩
  have e1':=e1
  simp at e1'
  simp (maxSteps:=2000000) -implicitDefEqProofs [-getElem?_pos,go_sem,eqV,ah,aa0,aa1,e1,e1',s1,ak]
theorem Ph (H:AM.Heap):evT X 8 [] H = some (.bool true,H):=by
  obtain ⟨code,hc,ht⟩:=Ji
  exact dA (Ev1.nV (l:=[.bool true]) (bn X) Try.func8 hc rfl rfl (by simp [bW]) rfl rfl rfl ht)
section
variable (c:Nat) (b:List UInt8) (k:Nat) (n th:Int)
theorem LU (hc:c = 0→b = []) (hk:k < 256):∃ code,Try.f3.body = some code ∧
    aj (jV fun fr H=>au fr 8 = .bool true) X (evT X) 3 0 code [(0,.ro c (.pb b) 1),(1,.int .u8 (k:Nat)),(2,.int .i64 n),(3,.int .i64 th)] []:=by
  refine ⟨_,rfl,?_⟩
  have hL:=Ph []
  generalize hkI:(k:Int) = kI at *
  apply aj.seq (fr':=[(0,.ro c (.pb b) 1),(1,.int .u8 kI),(2,.int .i64 n),(3,.int .i64 th)]) (H':=[])
  · (refine ⟨0,?_⟩;simp (maxSteps:=2000000) -implicitDefEqProofs [-getElem?_pos,go_sem,eqV,ah])
  apply aj.assoc
  apply aj.seq (fr':=[(0,.ro c (.pb b) 1),(1,.int .u8 kI),(2,.int .i64 n),(3,.int .i64 th),(17,.bool false)]) (H':=[])
  · (refine ⟨0,?_⟩;simp (maxSteps:=2000000) -implicitDefEqProofs [-getElem?_pos,go_sem,eqV,ah,hL])
  apply aj.seq (fr':=[(0,.ro c (.pb b) 1),(1,.int .u8 kI),(2,.int .i64 n),(3,.int .i64 th),(17,.bool false)]) (H':=[])
  · exact Run.cond (d:=false) (by simp [aC,au]) ⟨0,rfl⟩
  clear hL
  apply aj.assoc
  by_cases h1:(1000:Int) < (b.length:Int)
  · apply aj.seq (fr':=[(0,.ro c (.pb b) 1),(1,.int .u8 kI),(2,.int .i64 n),(3,.int .i64 th),(20,.bool true)]) (H':=[])
    · generalize hN:b.length = N at *
      (refine ⟨0,?_⟩;simp (maxSteps:=2000000) -implicitDefEqProofs [-getElem?_pos,go_sem,eqV,ah,h1,hN])
    refine aj.of (o:=⟨.ret,[(8,.bool true)],[]⟩) ⟨0,?_⟩ ⟨rfl,rfl⟩
    simp (maxSteps:=2000000) -implicitDefEqProofs [-getElem?_pos,go_sem,eqV,ah]
  have hbl:b.length≤1000:=by omega
  apply aj.seq (fr':=[(0,.ro c (.pb b) 1),(1,.int .u8 kI),(2,.int .i64 n),(3,.int .i64 th),(20,.bool false)]) (H':=[])
  · generalize hN:b.length = N at *
    (refine ⟨0,?_⟩;simp (maxSteps:=2000000) -implicitDefEqProofs [-getElem?_pos,go_sem,eqV,ah,h1,hN])
  apply aj.seq (fr':=[(0,.ro c (.pb b) 1),(1,.int .u8 kI),(2,.int .i64 n),(3,.int .i64 th),(20,.bool false)]) (H':=[])
  · exact Run.cond (d:=false) (by simp [aC,au]) ⟨0,rfl⟩
  obtain ⟨obO,hO,e0⟩:=XG (H:=[]) (a:=.ro c (.pb b) 1) (b:=b) (Byt.ro (.inl rfl) hc) (by omega)
  simp only [List.length_nil,List.nil_append] at e0
  obtain ⟨ob1,w1,e1⟩:=Dk (H:=[some obO]) (a:=.sl 0 0 b.length 0) (B:=b) (s:=k) (mo:=n) (th:=th) (OwnB.byt rfl hO) hbl hk
  obtain ⟨ob2,w2,e2⟩:=Xz (H:=[some obO,some ob1]) (a:=.ro c (.pb b) 1) (B:=b) (s:=k) (mo:=n) (th:=th) (Byt.ro (.inl rfl) hc) hbl hk
  rw [hkI] at e1 e2
  have e9:=Dj (H:=[some obO,some ob1,some ob2]) (a:=.sl 1 0 (sqR b k n th).1.length 0) (a2:=.sl 2 0 (sqR b k n th).1.length 0) (Byt.whole rfl w1) (Byt.whole rfl w2)
  have eK:=UL (H:=[some obO,some ob1,some ob2]) (o:=0) (c:=c) (t:=1) rfl hO hc (by omega)
  rw [beq_self_eq_true] at e9
  simp only [List.length_cons,List.length_nil,List.cons_append,List.nil_append] at e1 e2
  apply aj.seq (fr':=[(0,.ro c (.pb b) 1),(1,.int .u8 kI),(2,.int .i64 n),(3,.int .i64 th),(9,.sl 0 0 b.length 0)]) (H':=[some obO])
  · generalize b.length = N at *
    (refine ⟨0,?_⟩;simp (maxSteps:=2000000) -implicitDefEqProofs [-getElem?_pos,go_sem,eqV,ah,e0,ak])
  clear e0 w1 w2
  refine aj.of (o:=⟨.ret,[(8,.bool true)],[some obO,some ob1,some ob2]⟩) ?_ ⟨rfl,rfl⟩
  refine ⟨0,?_⟩
  generalize (sqR b k n th).1.length = N1 at *
  generalize (((sqR b k n th).2.1:Nat):Int) = N2 at *
  generalize (sqR b k n th).2.2 = N3 at *
  generalize b.length = N at *
  simp (maxSteps:=2000000) -implicitDefEqProofs [-getElem?_pos,go_sem,eqV,ah,e1,e2,e9,eK,ak]
end
end Go.Proofs.Ytbodincpjijdiaa
