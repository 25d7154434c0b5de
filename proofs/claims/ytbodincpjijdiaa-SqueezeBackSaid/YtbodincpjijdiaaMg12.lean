/- U1 to U4: texts of this claim, one behind the other; what each shows stands at its head. -/
import Derived.Test.YtbodincpjijdiaaAm4
import Derived.Test.YtbodincpjijdiaaMg11
set_option linter.unusedSimpArgs false
set_option linter.unusedVariables false
set_option maxRecDepth 100000
set_option maxHeartbeats 8000000
namespace Go.Proofs.Ytbodincpjijdiaa
open Go.AM
def ChA (x:List UInt8) (v:AV):Prop:=∃ cb τ,(cb = 0→x = [])∧v = .ro cb (.pb x) τ
def ChL:List (List UInt8)→List AV→Prop
  | [],[]=>True
  | x :: r,v :: l=>ChA x v∧ChL r l
  | _,_=>False
theorem Ei:∀ {l:List (List UInt8)} {m:List AV},ChL l m→m.length = l.length
  | [],[],_=>rfl
  | _ :: _,_ :: _,h=>by simp [Ei h.2]
  | [],_ :: _,h=>h.elim
  | _ :: _,[],h=>h.elim
theorem Fg {a:List UInt8} {b:AV}:∀ {l:List (List UInt8)} {m:List AV},ChL l m→ChA a b→ChL (l ++ [a]) (m ++ [b])
  | [],[],_,h=>⟨h,trivial⟩
  | _ :: _,_ :: _,h,h2=>⟨h.1,Fg h.2 h2⟩
  | [],_ :: _,h,_=>h.elim
  | _ :: _,[],h,_=>h.elim
theorem QO:∀ {l:List (List UInt8)} {m:List AV},ChL l m→aC m = []
  | [],[],_=>rfl
  | _ :: _,_ :: _,⟨⟨cb,τ,_,rfl⟩,h⟩=>by simp [aC,ids,QO h]
  | [],_ :: _,h=>h.elim
  | _ :: _,[],h=>h.elim
theorem QS {τ:Nat→Nat}:∀ {l:List (List UInt8)} {m:List AV},ChL l m→ChL l (bU (fun _ _=>none) τ m)
  | [],[],_=>trivial
  | _ :: _,_ :: _,⟨⟨cb,t,h1,rfl⟩,h⟩=>⟨⟨cb,τ t,h1,by simp [ren]⟩,QS h⟩
  | [],_ :: _,h=>h.elim
  | _ :: _,[],h=>h.elim
theorem Xi {x:List UInt8}:∀ {i:Nat} {l:List (List UInt8)} {m:List AV},ChL l m→l[i]? = some x→∃ v,m[i]? = some v∧ChA x v
  | 0,q :: r,v :: l,h,hi=>by
    simp at hi
    subst hi
    exact ⟨v,rfl,h.1⟩
  | i + 1,q :: r,v :: l,h,hi=>by
    obtain ⟨w,h1,h2⟩:=Xi (i:=i) h.2 (by simpa using hi)
    exact ⟨w,by simpa using h1,h2⟩
  | _,[],_,_,hi=>by simp at hi
  | _,_ :: _,[],h,_=>h.elim
theorem aow (a b:Int):kE false (.int .i64 a) [.int .i64 b] = some (.int .i64 (if b < a then b else a)):=by simp [kE]
theorem Xj:∀ {l:List (List UInt8)} {m:List AV},ChL l m→0 < l.length→aX m ≠ []
  | _ :: _,_ :: _,⟨⟨cb,τ,_,rfl⟩,_⟩,_=>by simp [aX,tags]
  | [],_,_,h=>by simp at h
  | _ :: _,[],h,_=>h.elim
def chk:List UInt8→List Int→List (List UInt8)
  | b,[]=>[b]
  | b,x :: r=>if b.length = 0 then [b] else b.take (min (pk x 8) b.length) :: chk (b.drop (min (pk x 8) b.length)) r
theorem Lr:∀ (b:List UInt8) (l:List Int),(chk b l).flatten = b
  | b,[]=>by simp [chk]
  | b,x :: r=>by
    unfold chk
    split
    · simp
    · rw [List.flatten_cons,Lr,avw]
theorem Zl:∀ (b:List UInt8) (l:List Int),0 < (chk b l).length
  | b,[]=>by simp [chk]
  | b,x :: r=>by unfold chk;split <;> simp
theorem JH:∀ (b:List UInt8) (l:List Int),(chk b l).length≤l.length + 1
  | b,[]=>by simp [chk]
  | b,x :: r=>by
    unfold chk
    split
    · simp
    · have:=JH (b.drop (min (pk x 8) b.length)) r
      simp only [atV];omega
theorem Xk {H:AM.Heap} {o g τ:Nat} {ob:AM.Obj} {l:List AV} {v src:AV} (ho:H[o]? = some (some ob)) (h:RwT (.pc l) g τ ob) (hτ:τ = 0∨τ = 1) (hsrc:iC H src = some (.pc [v],1)) (hn:l.length≤1000000) :
    ∃ ob',RwT (.pc (l ++ [v])) (g + 1) 1 ob'∧bH X H 38 (.sl o 0 l.length g) src = some (.sl o 0 (l.length + 1) (g + 1),upd H o (some ob')):=by
  have hlive:live H o g = some ob:=by simp [live,ho,h.g]
  have hroom:dX X 22 (l.length + 1) = true:=by simp [dX];omega
  have hj:dO τ 1 = some 1:=by rcases hτ with rfl | rfl <;> rfl
  refine ⟨{ ob with p:=.pc (l ++ [v]),g:=g + 1,cap:=(match ob.cap with | some c=>if 0 + l.length + AM.ah (.pc [v])≤c then some (c - 0) else none | none=>none),z:=(if AM.ah ob.p = 0 then ob.z else 1),tg:=1 },⟨rfl,rfl,h.row,h.ids,rfl⟩,?_⟩
  unfold bH
  simp only [aaC,Wp,adV,hsrc,hlive,h.row,h.ids,h.p,h.tg]
  rw [if_neg (by simp)]
  have hc:True∧True∧0 + l.length = AM.ah (.pc l)∧aO (.pc l) = 1∧dX X 22 (l.length + AM.ah (.pc [v])) = true:=⟨trivial,trivial,by simp [AM.ah],rfl,by simpa [AM.ah] using hroom⟩
  rw [if_pos hc]
  simp only [gG,auo,atG,if_true,auY,auU,nM,hj,aO]
  simp [AM.ah]
  rfl
theorem bsC (H:AM.Heap) (c:Nat) (p:AV) (t:Nat):bT X H 38 1 [(0,.ro c p t)] = some (.ro 1 (.pc [.ro c p t]) t,H):=by
  have hz:bg X 22 = .ro 0 .pn 0:=by kernel_rfl
  have hm:mkRow X 22 [.ro c p t] = some (.pc [.ro c p t]):=rfl
  have hj:dD [t] = some t:=by
    by_cases h:t = 0
    · subst h;rfl
    · simp [dD,dO,h]
  simp only [bT,aaC,Wp,hz]
  simp [dY,scalars,scalar,jk,qP,hm,aC,ids,aX,tags,hj]
section
variable (c1:Nat) (cuts:List Int)
def ql (c:Nat) (b:List UInt8) (o N g i:Nat) (tl:AM.Frame):AM.Frame:=[(0,.ro c (.pb b) 1),(1,.ro c1 (.pi .i64 cuts) 2),(5,.sl o 0 N g),(6,.int .i64 (i:Nat))] ++ tl
theorem afn {c t n:Nat} {b:List UInt8} (hn:n≤b.length) (H:AM.Heap):jB X H 22 (.ro c (.pb b) t) none (some (.int .i64 (n:Nat))) = some (.ro (if c = 0 then 0 else 2) (.pb (b.take n)) t):=by
  have h2:(n:Int)≤(b.length:Int):=by omega
  simp [jB,bound,ah,aO,gG,h2,hn]
theorem afo {c t n:Nat} {b:List UInt8} (hn:n≤b.length) (H:AM.Heap):jB X H 22 (.ro c (.pb b) t) (some (.int .i64 (n:Nat))) none = some (.ro c (.pb (b.drop n)) t):=by
  have h2:(n:Int)≤(b.length:Int):=by omega
  have h3:(b.drop n).take (b.length - n) = b.drop n:=auB (by simp)
  simp [jB,bound,ah,aO,gG,h2,hn,h3]
  omega
theorem afp {H:AM.Heap} (c:Nat) (b:List UInt8) (o N g i:Nat):∃ code,((Try.f19.body).bind (aB [1,1,0,1,0,0,0,0])) = some code∧Run X (evT X) 19 0 code (ql c1 cuts c b o N g i []) H ⟨.normal,ql c1 cuts c b o N g i [(16,.bool (decide (i < cuts.length∧0 < b.length)))],H⟩:=by
  refine ⟨_,rfl,?_⟩
  by_cases h1:i < cuts.length
  · have h1I:(i:Int) < (cuts.length:Int):=by omega
    by_cases h2:0 < b.length
    · have h2I:(0:Int) < (b.length:Int):=by omega
      rw [show decide (i < cuts.length∧0 < b.length) = true from decide_eq_true ⟨h1,h2⟩]
      unfold ql
      (refine ⟨0,?_⟩;simp [-getElem?_pos,go_sem,eqV,ah,h1,h1I,h2,h2I])
    · have h2I:¬ (0:Int) < (b.length:Int):=by omega
      rw [show decide (i < cuts.length∧0 < b.length) = false from decide_eq_false (fun h=>h2 h.2)]
      unfold ql
      (refine ⟨0,?_⟩;simp [-getElem?_pos,go_sem,eqV,ah,h1,h1I,h2,h2I])
  · have h1I:¬ (i:Int) < (cuts.length:Int):=by omega
    rw [show decide (i < cuts.length∧0 < b.length) = false from decide_eq_false (fun h=>h1 h.1)]
    unfold ql
    (refine ⟨0,?_⟩;simp [-getElem?_pos,go_sem,eqV,ah,h1,h1I])
theorem afq {H:AM.Heap} (c:Nat) (b:List UInt8) (o N g i:Nat) (x:Int) (hx:cuts[i]? = some x) (hb:b.length≤1000000):∃ code,((Try.f19.body).bind (aB [1,1,0,1,0,0,1,0,0,0])) = some code∧Run X (evT X) 19 0 code (ql c1 cuts c b o N g i [(16,.bool true)]) H ⟨.normal,ql c1 cuts c b o N g i [(7,.int .i64 (min (pk x 8) b.length:Nat))],H⟩:=by
  refine ⟨_,rfl,?_⟩
  have h1:=dR hx
  have h1I:(i:Int) < (cuts.length:Int):=by omega
  have hP:=Zm (H:=H) (x:=x) (n:=8) (by omega) (by omega)
  have hmin:(if (b.length:Int) < (pk x 8:Int) then (b.length:Int) else (pk x 8:Int)) = ((min (pk x 8) b.length:Nat):Int):=by
    split <;> omega
  have afr:(if b.length < pk x 8 then (b.length:Int) else (pk x 8:Int)) = ((min (pk x 8) b.length:Nat):Int):=by
    split <;> omega
  simp only [Int.cast_ofNat_Int] at hP
  generalize hk:pk x 8 = k at *
  generalize min k b.length = n at *
  unfold ql
  (refine ⟨0,?_⟩;simp [-getElem?_pos,go_sem,eqV,ah,h1,h1I,hx,hP,aow,hmin,afr])
theorem abH {H:AM.Heap} (c:Nat) (b:List UInt8) (o g i n τ:Nat) (l:List AV) (acc:List (List UInt8)) (ob:AM.Obj) (hc:c = 0→b = []) (hn:n≤b.length) (ho:H[o]? = some (some ob)) (hw:RwT (.pc l) g τ ob) (hτ:τ = 0∨τ = 1) (hl:ChL acc l) (hN:acc.length≤1000000) :
    ∃ H' l' ob',ChL (acc ++ [b.take n]) l'∧H'[o]? = some (some ob')∧RwT (.pc l') (g + 1) 1 ob'∧∀ cd6 cd7,((Try.f19.body).bind (aB [1,1,0,1,0,0,1,0,0,1,0])) = some cd6→((Try.f19.body).bind (aB [1,1,0,1,0,0,1,0,0,1,1])) = some cd7→Run X (evT X) 19 0 (.seq cd6 cd7) (ql c1 cuts c b o acc.length g i [(7,.int .i64 (n:Nat))]) H ⟨.normal,ql c1 cuts c (b.drop n) o (acc.length + 1) (g + 1) i [],H'⟩:=by
  have hll:=Ei hl
  have hB:=afn (c:=c) (t:=1) hn H
  have hS:=bsC H (if c = 0 then 0 else 2) (.pb (b.take n)) 1
  obtain ⟨ob',w1,w2⟩:=Xk (v:=.ro (if c = 0 then 0 else 2) (.pb (b.take n)) 1) (src:=.ro 1 (.pc [.ro (if c = 0 then 0 else 2) (.pb (b.take n)) 1]) 1) ho hw hτ (by simp [iC,jW,mO]) (by omega)
  rw [hll] at w2
  have hE:=afo (c:=c) (t:=1) hn (upd H o (some ob'))
  refine ⟨upd H o (some ob'),_,ob',Fg hl ⟨_,1,?_,rfl⟩,setAt ho,w1,fun cd6 cd7 e6 e7=>?_⟩
  · intro h0
    by_cases h:c = 0
    · rw [hc h];simp
    · rw [if_neg h] at h0;cases h0
  have r6:Run X (evT X) 19 0 cd6 (ql c1 cuts c b o acc.length g i [(7,.int .i64 (n:Nat))]) H ⟨.normal,ql c1 cuts c b o (acc.length + 1) (g + 1) i [(7,.int .i64 (n:Nat))],upd H o (some ob')⟩:=by
    refine piece (P:=fun cd=>Run X (evT X) _ 0 cd _ _ _) ⟨_,rfl,?_⟩ _ e6
    generalize (if c = 0 then 0 else 2) = c2 at *
    generalize acc.length = N at *
    unfold ql
    (refine ⟨0,?_⟩;simp [-getElem?_pos,go_sem,eqV,ah,hB,hS,w2,ak])
  refine Run.seq r6 (piece (P:=fun cd=>Run X (evT X) _ 0 cd _ _ _) ⟨_,rfl,?_⟩ _ e7)
  generalize upd H o (some ob') = H' at *
  unfold ql
  (refine ⟨0,?_⟩;simp [-getElem?_pos,go_sem,eqV,ah,hE,ak])
theorem afs:rowOf (bZ X 22) .none 0 = ⟨.pc [],0,.none,0,true,false,0⟩:=by kernel_rfl
theorem Ls (c:Nat) (b:List UInt8) (hc:c = 0→b = []) (hb:b.length≤1000000) (hcl:cuts.length≤100000):∃ code,Try.f19.body = some code ∧
    aj (nK fun fr H1=>∃ o g ob l,ChL (chk b cuts) l∧ay fr 4 = .sl o 0 (chk b cuts).length g∧H1[o]? = some (some ob)∧RwT (.pc l) g 1 ob) X (evT X) 19 0 code [(0,.ro c (.pb b) 1),(1,.ro c1 (.pi .i64 cuts) 2)] []:=by
  refine ⟨_,rfl,?_⟩
  apply aj.seq (fr':=[(0,.ro c (.pb b) 1),(1,.ro c1 (.pi .i64 cuts) 2)]) (H':=[some ⟨.pc [],0,.none,0,true,false,0⟩])
  · (refine ⟨0,?_⟩;simp [-getElem?_pos,go_sem,eqV,ah,ak,afs])
  apply aj.seq (fr':=[(0,.ro c (.pb b) 1),(1,.ro c1 (.pi .i64 cuts) 2),(5,.sl 1 0 0 0)]) (H':=[some ⟨.pc [],0,.none,0,true,false,0⟩,some ⟨.pc [],0,.none,0,true,false,0⟩])
  · (refine ⟨0,?_⟩;simp [-getElem?_pos,go_sem,eqV,ah,ak,afs])
  apply aj.assoc
  apply aj.seq (fr':=ql c1 cuts c b 1 0 0 0 []) (H':=[some ⟨.pc [],0,.none,0,true,false,0⟩,some ⟨.pc [],0,.none,0,true,false,0⟩])
  · unfold ql
    (refine ⟨0,?_⟩;simp [-getElem?_pos,go_sem,eqV,ah])
  apply aj.andThen (P:=fun fr H=>∃ c2 b2 o g i l ob acc τ,fr = ql c1 cuts c2 b2 o acc.length g i [(16,.bool false)]∧(c2 = 0→b2 = [])∧ChL acc l∧H[o]? = some (some ob)∧RwT (.pc l) g τ ob∧(τ = 0∨τ = 1)∧acc ++ [b2] = chk b cuts)
  · refine aj.block (P:=fun fr H=>∃ c2 b2 o g i l ob acc τ,fr = ql c1 cuts c2 b2 o acc.length g i [(16,.bool false)]∧(c2 = 0→b2 = [])∧ChL acc l∧H[o]? = some (some ob)∧RwT (.pc l) g τ ob∧(τ = 0∨τ = 1)∧acc ++ [b2] = chk b cuts) ?_
    refine aj.kQ (fun k fr H=>∃ b2 o g i l ob acc τ,k = cuts.length - i∧i≤cuts.length∧acc.length = i∧fr = ql c1 cuts c b2 o acc.length g i []∧(c = 0→b2 = [])∧b2.length≤1000000∧ChL acc l∧H[o]? = some (some ob)∧RwT (.pc l) g τ ob∧(τ = 0∨τ = 1)∧acc ++ chk b2 (cuts.drop i) = chk b cuts) ?_ (k:=cuts.length) ⟨b,1,0,0,[],_,[],0,rfl,by omega,rfl,rfl,hc,hb,trivial,rfl,⟨rfl,rfl,rfl,rfl,rfl⟩,.inl rfl,rfl⟩
    rintro k fr H ⟨b2,o,g,i,l,ob,acc,τ,rfl,hi,hai,rfl,hc2,hb2,hl,ho,hw,hτ,hX⟩
    apply aj.assoc
    apply aj.seq (piece (afp c1 cuts c b2 o acc.length g i) _ rfl)
    by_cases hgo:i < cuts.length∧0 < b2.length
    · rw [show decide (i < cuts.length∧0 < b2.length) = true from decide_eq_true hgo]
      apply aj.seq (fr':=ql c1 cuts c b2 o acc.length g i [(16,.bool true)]) (H':=H)
      · exact Run.cond (d:=true) rfl ⟨0,rfl⟩
      obtain ⟨x,hx⟩:∃ x,cuts[i]? = some x:=⟨_,atB hgo.1⟩
      have hdr:cuts.drop i = x :: cuts.drop (i + 1):=by
        obtain ⟨h1,h2⟩:=atD.1 hx
        rw [auw h1,h2]
      rw [hdr,chk,if_neg (by omega)] at hX
      have r5:=afq c1 cuts (H:=H) c b2 o acc.length g i x hx hb2
      obtain ⟨n,hn⟩:∃ n,n = min (pk x 8) b2.length:=⟨_,rfl⟩
      rw [← hn] at hX r5
      obtain ⟨H',l',ob',k1,k2,k3,k4⟩:=abH c1 cuts (H:=H) c b2 o g i n τ l acc ob hc2 (by omega) ho hw hτ hl (by omega)
      have w1:IntKind.i64.wrap ((i:Int) + 1) = ((i + 1:Nat):Int):=by rw [wrap_i64 (by omega) (by omega)];omega
      apply aj.andThen (P:=fun fr H''=>fr = ql c1 cuts c (b2.drop n) o (acc.length + 1) (g + 1) i []∧H'' = H')
      · refine aj.blk ?_ (fun o h=>by rw [h.1];simp)
        exact aj.seq (piece r5 _ rfl) (aj.of (k4 _ _ rfl rfl) ⟨rfl,rfl,rfl⟩)
      rintro fr H'' ⟨rfl,rfl⟩
      refine aj.of (o:=⟨.normal,ql c1 cuts c (b2.drop n) o (acc.length + 1) (g + 1) (i + 1) [],H''⟩) ⟨0,?_⟩ (.inl ⟨rfl,cuts.length - (i + 1),by omega,b2.drop n,o,g + 1,i + 1,l',ob',acc ++ [b2.take n],1,rfl,by omega,by simp [hai],by simp,fun h=>by rw [hc2 h];simp,by simp;omega,k1,k2,k3,.inr rfl,by rw [← hX];simp⟩)
      unfold ql
      generalize acc.length + 1 = N at *
      simp [-getElem?_pos,go_sem,eqV,ah,w1]
    · rw [show decide (i < cuts.length∧0 < b2.length) = false from decide_eq_false hgo]
      refine aj.of (o:=⟨.exit 0,ql c1 cuts c b2 o acc.length g i [(16,.bool false)],H⟩) (Run.bI (Run.cond (d:=false) rfl ⟨0,rfl⟩) (by simp)) (.inr ⟨by simp,rfl,c,b2,o,g,i,l,ob,acc,τ,rfl,hc2,hl,ho,hw,hτ,?_⟩)
      rw [← hX]
      congr 1
      by_cases hil:i < cuts.length
      · have hb0:b2.length = 0:=by omega
        have hdr:=auw hil
        rw [hdr,chk,if_pos hb0]
      · rw [avl (by omega)];rfl
  rintro fr H ⟨c2,b2,o,g,i,l,ob,acc,τ,rfl,hc2,hl,ho,hw,hτ,hX⟩
  have hll:=Ei hl
  have aft:=JH b cuts
  rw [← hX] at aft ⊢
  simp only [atQ,atV,atY] at aft ⊢
  have hS:=bsC H c2 (.pb b2) 1
  obtain ⟨ob',w1,w2⟩:=Xk (v:=.ro c2 (.pb b2) 1) (src:=.ro 1 (.pc [.ro c2 (.pb b2) 1]) 1) ho hw hτ (by simp [iC,jW,mO]) (by omega)
  rw [hll] at w2
  refine aj.of (o:=⟨.ret,[(4,.sl o 0 (acc.length + 1) (g + 1))],upd H o (some ob')⟩) ⟨0,?_⟩ ⟨rfl,o,g + 1,ob',_,Fg hl ⟨c2,1,hc2,rfl⟩,rfl,setAt ho,w1⟩
  unfold ql
  generalize acc.length = N at *
  simp [-getElem?_pos,go_sem,eqV,ah,hS,w2,ak]
end
theorem Tf {H:AM.Heap} {bo g t c1:Nat} {ob:AM.Obj} {b:List UInt8} {cuts:List Int} (ho:H[bo]? = some (some ob)) (hw:Rw (.pb b) g ob) (hb:b.length≤1000000) (hcl:cuts.length≤100000) :
    ∃ ob' l,ChL (chk b cuts) l∧Rw (.pc l) 0 ob'∧evT X 19 [.sl bo 0 b.length g,.ro c1 (.pi .i64 cuts) t] H = some (.sl H.length 0 (chk b cuts).length 0,upd H bo none ++ [some ob']):=by
  have hlive:live H bo g = some ob:=by simp [live,ho,hw.g]
  have aox:X.rw 19 0 = false:=rfl
  have hrw1:X.rw 19 1 = false:=rfl
  have hl:aG X 19 H 0 [.sl bo 0 b.length g,.ro c1 (.pi .i64 cuts) t] = some ([.ro (if ob.z = 0∧AM.ah ob.p = 0 then 0 else 2) (.pb b) 1,.ro c1 (.pi .i64 cuts) 2],[⟨[bo],[0]⟩,⟨[],[t]⟩]):=by
    simp only [aG,aox,hrw1,dV,dN,hlive,hw.ids,hw.p,hw.tg,gG]
    simp
  have hc0:(if ob.z = 0∧AM.ah ob.p = 0 then 0 else 2) = 0→b = []:=by
    intro h
    split at h
    · rename_i h2
      rw [hw.p] at h2
      exact aup h2.2
    · cases h
  obtain ⟨code,hcode,o,⟨he,o1,g1,ob1,l,h1,h4,h5,h6⟩,hr⟩:=Ls c1 cuts _ b hc0 hb hcl
  obtain ⟨ob',l',k1,k2,k3⟩:=Ev1.abp (C:=X) (H:=H) (n:=(chk b cuts).length) (rest:=[]) (P:=ChL (chk b cuts)) (bJ X) Try.func19 hcode hl rfl (by simp [aC,ids]) (by simp [dn]) rfl rfl rfl (fun l h=>QO h) (fun l h=>Xj h (Zl b cuts)) (fun l τ h=>QS h)
    ⟨o,⟨he,o1,g1,ob1,l,h1,by show some [ay o.fr 4] = _;rw [h4],h5,h6.p,h6.g,h6.row,h6.ids,h6.tg⟩,by rw [ady];exact hr⟩
  exact ⟨ob',l',k1,k2,dQ k3⟩
section
variable {c:Nat} {l:List UInt8}
end
section
variable {s:Ws} {v:Nat} {E:AM.Heap}
end
section
variable {t:Nat} {H:AM.Heap} {o:Nat} {oa:Option Nat} {s:Ws}
end
section
variable {t:Nat} {H:AM.Heap} {o:Nat} {oa:Option Nat} {s:Ws}
end
end Go.Proofs.Ytbodincpjijdiaa
namespace Go.Proofs.Ytbodincpjijdiaa
open Go.AM
end Go.Proofs.Ytbodincpjijdiaa
namespace Go.Proofs.Ytbodincpjijdiaa
open Go.AM
section
variable {c:Nat} {l:List Px}
end
section
variable {c:Nat} {l:List Px}
end
structure GxV (E:AM.Heap) (o6 o7 o8 o10 o12:Nat) (oa:Option Nat) (s:Ws):Prop where
  r6:E[o6]? = some (lI 288 flL)
  r7:E[o7]? = some (lI 32 flD)
  r8:E[o8]? = some (lI 288 lcL)
  r10:E[o10]? = some (lI 32 dcL)
  wr:WrV 0 E o12 oa s
  lt:o6 < o12∧o7 < o12∧o8 < o12∧o10 < o12
  oa:∀ a,oa = some a→o12 < a
  ok:jD s
section
variable {E:AM.Heap} {o6 o7 o8 o10 o12:Nat} {oa:Option Nat} {s:Ws}
theorem GxV.step {E':AM.Heap} {oa':Option Nat} {s':Ws} (h:GxV E o6 o7 o8 o10 o12 oa s) (hw:WrV 0 E' o12 oa' s') (hk:Kpw E E' o12 oa oa') (hok:jD s'):GxV E' o6 o7 o8 o10 o12 oa' s':=by
  obtain ⟨l6,l7,l8,l10⟩:=h.lt
  have hl:=h.wr.lt'
  have keep:∀ j,j < o12→E'[j]? = E[j]?:=fun j hj=>hk.rest j (by omega) (by omega) fun a ha=>by have:=h.oa a ha;omega
  refine ⟨by rw [keep _ l6];exact h.r6,by rw [keep _ l7];exact h.r7,by rw [keep _ l8];exact h.r8,by rw [keep _ l10];exact h.r10,hw,h.lt,?_,hok⟩
  intro a ha
  cases hq:oa with
  | none=>have:=hk.new a hq ha;omega
  | some z =>
    have:=hk.same z hq
    rw [ha] at this
    cases this
    exact h.oa _ hq
end
section
variable {E:AM.Heap} {o6 o7 o8 o10 o12:Nat} {oa:Option Nat} {s:Ws}
end
section
variable {c:Nat} {l:List Px}
end
section
variable {c:Nat} {b:List UInt8}
end
end Go.Proofs.Ytbodincpjijdiaa
namespace Go.Proofs.Ytbodincpjijdiaa
open Go.AM
section
variable {c:Nat} {b:List UInt8}
end
-- plain: the same pieces
end Go.Proofs.Ytbodincpjijdiaa
namespace Go.Proofs.Ytbodincpjijdiaa
open Go.AM
section
variable {c:Nat} {b:List UInt8}
end
section
variable {c:Nat} {b:List UInt8}
end
section
variable {c:Nat} {b:List UInt8}
end
section
variable {c:Nat} {B:List UInt8}
end
section
variable {c:Nat} {B:List UInt8}
end
section
variable {c:Nat} {B:List UInt8}
end
def e8:List UInt8:=[165,165,165,165,165,165,165,165]
section
variable (c:Nat) (b:List UInt8)
structure OwnB (b:List UInt8) (ob:AM.Obj):Prop where
  rw:Rw (.pb (b ++ e8)) 0 ob
  cap:ob.cap = some (b.length + 8)
end
theorem OwnB.byt {H:AM.Heap} {o:Nat} {ob:AM.Obj} {b:List UInt8} (ho:H[o]? = some (some ob)) (h:OwnB b ob):Byt H (.sl o 0 b.length 0) b :=
  Byt.sl ho h.rw (by simp) (by simp)
theorem abI:sqR [97,98] 3 60 50 = ([2,0,0,3,0,0,0,97,98],4,0):=by kernel_rfl
theorem afu (H:AM.Heap):bT X H 22 2 [(0,.int .u8 97),(1,.int .u8 98)] = some (.ro 1 (.pb [97,98]) 0,H):=by kernel_rfl
theorem afv (H:AM.Heap):bT X H 22 9 [(0,.int .u8 2),(1,.int .u8 0),(2,.int .u8 0),(3,.int .u8 3),(4,.int .u8 0),(5,.int .u8 0),(6,.int .u8 0),(7,.int .u8 97),(8,.int .u8 98)] = some (.ro 1 (.pb [2,0,0,3,0,0,0,97,98]) 0,H):=by kernel_rfl
theorem Lu:∃ code,Try.f8.body = some code∧aj (nK fun fr H=>aP X fr H Try.f8.results.toList = some [.bool true]) X (evT X) 8 0 code [] []:=by
  refine ⟨_,rfl,?_⟩
  obtain ⟨ob1,w1,e1⟩:=Fh (H:=[]) (a:=.ro 1 (.pb [97,98]) 0) (B:=[97,98]) (s:=3) (mo:=60) (th:=50) (Byt.ro (.inl rfl) (fun h=>by omega)) (by simp) (by omega)
  rw [abI] at w1 e1
  have s1:=Lp (H:=[some ob1]) (a:=.sl 0 0 9 0) (a2:=.ro 1 (.pb [2,0,0,3,0,0,0,97,98]) 0) (Byt.whole (l:=[2,0,0,3,0,0,0,97,98]) rfl w1) (Byt.ro (.inl rfl) (fun h=>by omega))
  rw [beq_self_eq_true] at s1
  simp only [atV,atY,at6] at e1
  refine aj.of (o:=⟨.ret,[(0,.bool true)],[some ob1]⟩) ?_ ⟨rfl,rfl⟩
  refine ⟨0,?_⟩
  have e1':=e1
  simp at e1'
  simp [-getElem?_pos,go_sem,eqV,ah,afu,afv,e1,e1',s1,ak]
theorem Ti (H:AM.Heap):evT X 8 [] H = some (.bool true,H):=by
  obtain ⟨code,hc,ht⟩:=Lu
  exact dQ (Ev1.tY (l:=[.bool true]) (bJ X) Try.func8 hc rfl rfl (by simp [dn]) rfl rfl rfl ht)
section
variable (c:Nat) (b:List UInt8) (k:Nat) (n th:Int)
end
section
variable (c c4:Nat) (b:List UInt8) (cuts:List Int)
def BO (kI n th:Int) (tl:AM.Frame):AM.Frame:=[(0,.ro c (.pb b) 1),(1,.int .u8 kI),(2,.int .i64 n),(3,.int .i64 th),(4,.ro c4 (.pi .i64 cuts) 5)] ++ tl
theorem afw (kI n th:Int):∃ code,((Try.f5.body).bind (aB [1,1,0,0])) = some code∧Run X (evT X) 5 0 code (BO c c4 b cuts kI n th [(22,.bool false)]) [] ⟨.normal,BO c c4 b cuts kI n th [(46,.bool (decide (1000 < b.length∨n < 1∨1000 < n∨th < 0∨2000 < th∨3000 < cuts.length)))],[]⟩:=by
 refine ⟨_,rfl,?_⟩
 unfold BO
 generalize hB:b.length = B at *
 generalize hC:cuts.length = C at *
 by_cases h1:1000 < B
 ·have h1I:(1000:Int) < (B:Int):=by omega
  rw [decide_eq_true (.inl h1)]
  (refine ⟨0,?_⟩;simp [-getElem?_pos,go_sem,eqV,ah,hB,h1,h1I])
 have h1I:¬ (1000:Int) < (B:Int):=by omega
 by_cases h2:n < 1
 ·rw [decide_eq_true (.inr (.inl h2))]
  (refine ⟨0,?_⟩;simp [-getElem?_pos,go_sem,eqV,ah,hB,h1,h1I,h2])
 by_cases h3:1000 < n
 ·rw [decide_eq_true (.inr (.inr (.inl h3)))]
  (refine ⟨0,?_⟩;simp [-getElem?_pos,go_sem,eqV,ah,hB,h1,h1I,h2,h3])
 by_cases h4:th < 0
 ·rw [decide_eq_true (.inr (.inr (.inr (.inl h4))))]
  (refine ⟨0,?_⟩;simp [-getElem?_pos,go_sem,eqV,ah,hB,h1,h1I,h2,h3,h4])
 by_cases h5:2000 < th
 ·rw [decide_eq_true (.inr (.inr (.inr (.inr (.inl h5)))))]
  (refine ⟨0,?_⟩;simp [-getElem?_pos,go_sem,eqV,ah,hB,h1,h1I,h2,h3,h4,h5])
 by_cases h6:3000 < C
 ·have h6I:(3000:Int) < (C:Int):=by omega
  rw [decide_eq_true (.inr (.inr (.inr (.inr (.inr h6)))))]
  (refine ⟨0,?_⟩;simp [-getElem?_pos,go_sem,eqV,ah,hB,hC,h1,h1I,h2,h3,h4,h5,h6,h6I])
 have h6I:¬ (3000:Int) < (C:Int):=by omega
 rw [decide_eq_false (by omega)]
 (refine ⟨0,?_⟩;simp [-getElem?_pos,go_sem,eqV,ah,hB,hC,h1,h1I,h2,h3,h4,h5,h6,h6I])
def BP (m fin:Nat) (r:Nat) (tl:AM.Frame):AM.Frame:=[(0,.ro c (.pb b) 1),(2,.int .i64 (m:Nat)),(12,.int .u8 (fin:Nat)),(14,.ptr r 0 0 0)] ++ tl
theorem afx {E E1:AM.Heap} {m fin XL r k:Nat} {ob:AM.Obj} (hm:1≤m) (hm2:m≤1000) (hb:b.length≤1000) (hx:XL≤b.length + 7 * ((b.length + m - 1) / m)) (ho:E[0]? = some (some ob)) (hg:ob.g = 0) (hr:∃ ob,E[r]? = some (some ob)∧ob.g = 0)
  (he:evT X 18 [.ptr r 0 0 0,.int .u8 (k:Nat)] E = some (.int .i64 0,E1)) :
  ∃ code,((Try.f5.body).bind (aB [1,1,1,1,1,0,0])) = some code∧Run X (evT X) 5 0 code [(0,.ro c (.pb b) 1),(1,.int .u8 (k:Nat)),(2,.int .i64 (m:Nat)),(4,.ro c4 (.pi .i64 cuts) 5),(11,.sl 0 0 XL 0),(12,.int .u8 (fin:Nat)),(13,.int .i64 0),(14,.ptr r 0 0 0),(15,.int .i64 0)] E
   ⟨.normal,[(0,.ro c (.pb b) 1),(2,.int .i64 (m:Nat)),(4,.ro c4 (.pi .i64 cuts) 5),(11,.sl 0 0 XL 0),(12,.int .u8 (fin:Nat)),(14,.ptr r 0 0 0),(92,.bool false)],E1⟩:=by
 refine ⟨_,rfl,?_⟩
 obtain ⟨ob2,hr,hg2⟩:=hr
 have hqb:(b.length + m - 1) / m≤b.length + m - 1:=Nat.div_le_self _ _
 have w1:IntKind.i64.wrap ((b.length:Int) + (m:Int)) = ((b.length + m:Nat):Int):=by rw [wrap_i64 (by omega) (by omega)];omega
 have w2:IntKind.i64.wrap (((b.length + m:Nat):Int) - 1) = ((b.length + m - 1:Nat):Int):=by rw [wrap_i64 (by omega) (by omega)];omega
 have w3:(((b.length + m - 1:Nat):Int)).tdiv (m:Int) = (((b.length + m - 1) / m:Nat):Int):=by rw [auM (by omega)];exact (Int.natCast_ediv _ _).symm
 have w3':((b.length + m - 1:Nat):Int) / (m:Int) = (((b.length + m - 1) / m:Nat):Int):=(Int.natCast_ediv _ _).symm
 generalize (b.length + m - 1) / m = q at *
 have w4:IntKind.i64.wrap (q:Int) = (q:Nat):=wrap_i64 (by omega) (by omega)
 have w5:IntKind.i64.wrap (7 * (q:Int)) = ((7 * q:Nat):Int):=by rw [wrap_i64 (by omega) (by omega)];omega
 have w6:IntKind.i64.wrap ((b.length:Int) + ((7 * q:Nat):Int)) = ((b.length + 7 * q:Nat):Int):=by rw [wrap_i64 (by omega) (by omega)];omega
 have w7:¬ (((b.length + 7 * q:Nat):Int) < (XL:Int)):=by omega
 have w7':¬ (b.length + 7 * q < XL):=by omega
 have hm0:¬ (m:Int) = 0:=by omega
 have aoy:¬ m = 0:=by omega
 generalize b.length + m - 1 = s2 at *
 generalize b.length + m = s1 at *
 generalize b.length + 7 * q = s4 at *
 generalize 7 * q = s3 at *
 generalize hN:b.length = N at *
 (refine ⟨0,?_⟩;simp [-getElem?_pos,go_sem,eqV,ah,hN,ho,hg,hr,hg2,he,w1,w2,w3,w3',w4,w5,w6,w7,w7',hm0,aoy,eqV,isNil,jV])
end
section
variable {c:Nat} {b:List UInt8} {m th fin r D C:Nat} {chs:List (List UInt8)} {E:AM.Heap}
def nO (c:Nat) (b:List UInt8) (m fin r D N g C M i:Nat) (tl:AM.Frame):AM.Frame:=BP c b m fin r ([(16,.sl D 0 N g),(17,.sl C 0 M 0),(18,.int .i64 (i:Nat))] ++ tl)
structure SbI (m th fin:Nat) (b:List UInt8) (chs:List (List UInt8)) (E:AM.Heap) (r D C g i:Nat) (acc p:List UInt8):Prop where
 q:∃ oa nx L off,QV m 0 E r oa nx L off∧Sty m th (L.drop off) (chs.drop i).flatten nx p fin∧Nw m th (L.drop off) p∧L.length≤60000∧∀ a g,oa = some (a,g)→a ≠ D∧a ≠ C
 d:∃ ob,E[D]? = some (some ob)∧Rw (.pb acc) g ob
 ch:∃ ob l,E[C]? = some (some ob)∧ChL chs l∧Rw (.pc l) 0 ob
 rd:r ≠ D
 rc:r ≠ C
 dc:D ≠ C
 bp:b = acc ++ p
theorem abJ {N g i:Nat} {ob:AM.Obj} (ho:E[C]? = some (some ob)) (hg:ob.g = 0):∃ code,((Try.f5.body).bind (aB [1,1,1,1,1,1,1,1,0,1,0,0,0,0])) = some code∧Run X (evT X) 5 0 code (nO c b m fin r D N g C chs.length i []) E ⟨.normal,nO c b m fin r D N g C chs.length i [(99,.bool (decide (i < chs.length)))],E⟩:=by
 refine ⟨_,rfl,?_⟩
 unfold nO BP
 generalize chs.length = M at *
 by_cases h:i < M
 ·have hI:(i:Int) < (M:Int):=by omega
  rw [decide_eq_true h]
  (refine ⟨0,?_⟩;simp [-getElem?_pos,go_sem,eqV,ah,ho,hg,h,hI])
 ·have hI:¬ (i:Int) < (M:Int):=by omega
  rw [decide_eq_false h]
  (refine ⟨0,?_⟩;simp [-getElem?_pos,go_sem,eqV,ah,ho,hg,h,hI])
theorem abK {N g i M cb τ z n g2:Nat} {ob:AM.Obj} {l:List AV} {x:List UInt8} {E1:AM.Heap} (ho:E[C]? = some (some ob)) (hw:Rw (.pc l) 0 ob) (hi:i < M) (hM:l.length = M) (hx:l[i]? = some (.ro cb (.pb x) τ)) (he:evT X 15 [.ptr r 0 0 0,.ro cb (.pb x) 0] E = some (.tup [.sl z 0 n g2,.int .i64 0],E1)) :
  ∃ code,((Try.f5.body).bind (aB [1,1,1,1,1,1,1,1,0,1,0,0,1,0,0,0])) = some code∧Run X (evT X) 5 0 code (nO c b m fin r D N g C M i [(99,.bool true)]) E ⟨.normal,nO c b m fin r D N g C M i [(19,.sl z 0 n g2),(20,.int .i64 0)],E1⟩:=by
 refine ⟨_,rfl,?_⟩
 have hI:(i:Int) < (M:Int):=by omega
 have hiL:i < l.length:=by omega
 have q1:=hw.p;have q2:=hw.g;have q3:=hw.ids;have q5:=hw.tg
 unfold nO BP
 (refine ⟨0,?_⟩;simp [-getElem?_pos,go_sem,eqV,ah,ho,q1,q2,q3,q5,hI,hi,hiL,hx,he,ak,retag])
theorem abL {N g i M z n g2 N2 g3:Nat} {E1:AM.Heap} (hA:bH X E 22 (.sl D 0 N g) (.sl z 0 n g2) = some (.sl D 0 N2 g3,E1)) :
  ∃ code,((Try.f5.body).bind (aB [1,1,1,1,1,1,1,1,0,1,0,0,1,0,0,1,0])) = some code∧Run X (evT X) 5 0 code (nO c b m fin r D N g C M i [(19,.sl z 0 n g2),(20,.int .i64 0)]) E ⟨.normal,nO c b m fin r D N2 g3 C M i [(20,.int .i64 0)],E1⟩:=by
 refine ⟨_,rfl,?_⟩
 unfold nO BP
 (refine ⟨0,?_⟩;simp [-getElem?_pos,go_sem,eqV,ah,hA,ak])
theorem abM {N g i M k:Nat} {E1:AM.Heap} (hk:k≤m + 6) (hm:m≤1000) (he:evT X 20 [.ptr r 0 0 0] E = some (.int .i64 (k:Nat),E1)) :
  ∃ code,((Try.f5.body).bind (aB [1,1,1,1,1,1,1,1,0,1,0,0,1,0,0,1,1,0])) = some code∧Run X (evT X) 5 0 code (nO c b m fin r D N g C M i [(20,.int .i64 0)]) E ⟨.normal,nO c b m fin r D N g C M i [(122,.bool false)],E1⟩:=by
 refine ⟨_,rfl,?_⟩
 have w:IntKind.i64.wrap ((m:Int) + 7) = ((m + 7:Nat):Int):=by rw [wrap_i64 (by omega) (by omega)];omega
 have h1:¬ (((m + 7:Nat):Int) < (k:Int)):=by omega
 have h1N:¬ m + 7 < k:=by omega
 unfold nO BP
 generalize m + 7 = m7 at *
 (refine ⟨0,?_⟩;simp [-getElem?_pos,go_sem,eqV,ah,he,w,h1,h1N])
theorem abN {N g i M:Nat} {tl:AM.Frame} (hi:i < 1000000) (htl:tl = [(122,.bool false)]):∃ code,((Try.f5.body).bind (aB [1,1,1,1,1,1,1,1,0,1,0,0,1,1])) = some code∧Run X (evT X) 5 0 code (nO c b m fin r D N g C M i tl) E ⟨.normal,nO c b m fin r D N g C M (i + 1) [],E⟩:=by
 refine ⟨_,rfl,?_⟩
 have w:IntKind.i64.wrap ((i:Int) + 1) = ((i + 1:Nat):Int):=by rw [wrap_i64 (by omega) (by omega)];omega
 rw [htl]
 unfold nO BP
 generalize i + 1 = i1 at *
 (refine ⟨0,?_⟩;simp [-getElem?_pos,go_sem,eqV,ah,w])
theorem Zn {g i:Nat} {acc p:List UInt8} (hm:1≤m) (hm2:m≤1000) (hb:b.length≤1000) (hI:SbI m th fin b chs E r D C g i acc p) (hi:i < chs.length) (hi2:i < 1000000) :
  ∃ g' acc' p' E',SbI m th fin b chs E' r D C g' (i + 1) acc' p'∧∃ code,((Try.f5.body).bind (aB [1,1,1,1,1,1,1,1,0,1,0,0,1])) = some code∧Run X (evT X) 5 0 code (nO c b m fin r D acc.length g C chs.length i [(99,.bool true)]) E ⟨.normal,nO c b m fin r D acc'.length g' C chs.length (i + 1) [],E'⟩:=by
 obtain ⟨oa,nx,L,off,hV,hS,hN,hL,hoa⟩:=hI.q
 obtain ⟨obC,l,hC,hl,hwC⟩:=hI.ch
 obtain ⟨x,hx⟩:∃ x,chs[i]? = some x:=⟨_,atB hi⟩
 obtain ⟨v,hv,cb,τ,hcb,rfl⟩:=Xi hl hx
 have hfl:(chs.drop i).flatten = x ++ (chs.drop (i + 1)).flatten:=by
  obtain ⟨h1,h2⟩:=atD.1 hx
  rw [auw h1,h2,List.flatten_cons]
 have hS':Sty m th (L.drop off ++ x) (chs.drop (i + 1)).flatten nx p fin:=⟨by rw [auu,← hfl];exact hS.eq,hS.fn,hS.nx,hS.len⟩
 obtain ⟨E1,oa1,nx1,L1,off1,told,p1,z,g2,e1,hV1,hp1,hS1,hN1,hL1,hK1,⟨τz,obz,hτz,hz,hwz⟩,hzl,hza⟩:=YA (x:=.ro cb (.pb x) 0) hV hm (by omega) rfl (by simp [slO,disjoint]) hS' hL
 obtain ⟨obD,hD,hwD⟩:=hI.d
 have hrd:=hI.rd;have hrc:=hI.rc;have hdc:=hI.dc
 have kD:E1[D]? = some (some obD):=by rw [hK1.rest D (dR hD) (auf hrd) (fun a g h=>auf (hoa a g h).1)];exact hD
 have kC:E1[C]? = some (some obC):=by rw [hK1.rest C (dR hC) (auf hrc) (fun a g h=>auf (hoa a g h).2)];exact hC
 have hsrc:iC E1 (.sl z 0 told.length g2) = some (.pb told,0):=TlV.src ⟨z,0,g2,obz,τz,told,rfl,hz,hwz,by simp,by omega⟩
 have hbl:b.length = acc.length + p.length:=by rw [hI.bp,atQ]
 have hpl:p.length = told.length + p1.length:=by rw [hp1,atQ]
 obtain ⟨Tj,w1,w2⟩:=zG (C:=X) (T:=22) (e:=5) (t:=0) nR DN qx bytes5 yh kD ⟨hwD.p,hwD.g,hwD.row,hwD.ids,hwD.tg⟩ (.inl hsrc) (by omega)
 have DR:∀ a g,oa1 = some (a,g)→a ≠ D∧a ≠ C:=by
  intro a g ha
  cases hq:oa with
  | none =>
   have:=hK1.new a g hq ha
   have:=dR hD;have:=dR hC
   exact ⟨by omega,by omega⟩
  | some y =>
   obtain ⟨g3,h3⟩:=hK1.same y.1 y.2 hq
   rw [h3] at ha
   simp only [atA,atC] at ha
   rw [← ha.1]
   exact hoa y.1 y.2 hq
 have hV2:QV m 0 (AM.upd E1 D (some Tj)) r oa1 nx1 L1 off1:=hV1.other (auf hrd) (fun a g h=>auf (DR a g h).1)
 have k2D:(AM.upd E1 D (some Tj))[D]? = some (some Tj):=by unfold AM.upd;exact setAt kD
 have k2C:(AM.upd E1 D (some Tj))[C]? = some (some obC):=by unfold AM.upd;exact qO kC hdc
 rw [← atQ] at w2
 generalize AM.upd E1 D (some Tj) = E2 at *
 obtain ⟨E3,oa3,e3,hV3,hK3⟩:=KF hV2 (by omega)
 have aoz:∀ a g,oa3 = some (a,g)→a ≠ D∧a ≠ C:=by
  intro a g ha
  cases hq:oa1 with
  | none =>
   have:=hK3.new a g hq ha
   have:=dR k2D;have:=dR k2C
   exact ⟨by omega,by omega⟩
  | some y =>
   obtain ⟨g3,h3⟩:=hK3.same y.1 y.2 hq
   rw [h3] at ha
   simp only [atA,atC] at ha
   rw [← ha.1]
   exact DR y.1 y.2 hq
 have hfew:=hN1.few hm hS1
 rw [atZ] at hfew
 refine ⟨g + 1,acc ++ told,p1,E3,⟨⟨oa3,nx1,L1,off1,hV3,hS1,hN1,hL1,aoz⟩,⟨Tj,by rw [hK3.rest D (dR k2D) (auf hrd) (fun a g h=>auf (DR a g h).1)];exact k2D,⟨w1.p,w1.g,w1.row,w1.ids,w1.tg⟩⟩,⟨obC,l,by rw [hK3.rest C (dR k2C) (auf hrc) (fun a g h=>auf (DR a g h).2)];exact k2C,hl,hwC⟩,hrd,hrc,hdc,by rw [hI.bp,hp1,auu]⟩,_,rfl,?_⟩
 refine Run.seq (Run.block (Run.seq (piece (abK hC hwC hi (Ei hl) hv e1) _ rfl) (Run.seq (piece (abL w2) _ rfl) (Run.seq (piece (abM hfew hm2 e3) _ rfl) (Run.cond (d:=false) (by simp [nO,BP,aJ,ay]) ⟨0,rfl⟩)))) (by simp)) (piece (abN hi2 rfl) _ rfl)
end
section
variable (c c4:Nat) (b:List UInt8) (cuts:List Int) (k:Nat) (n th:Int)
theorem Tm (hc:c = 0→b = []) (hk:k < 256):∃ code,Try.f5.body = some code ∧
  aj (nK fun fr H=>ay fr 10 = .bool true) X (evT X) 5 0 code [(0,.ro c (.pb b) 1),(1,.int .u8 (k:Nat)),(2,.int .i64 n),(3,.int .i64 th),(4,.ro c4 (.pi .i64 cuts) 5)] []:=by
 refine ⟨_,rfl,?_⟩
 have hL:=Ti []
 have r3:=afw c c4 b cuts (k:Nat) n th
 apply aj.seq (fr':=BO c c4 b cuts (k:Nat) n th []) (H':=[])
 ·unfold BO
  (refine ⟨0,?_⟩;simp [-getElem?_pos,go_sem,eqV,ah])
 apply aj.assoc
 apply aj.seq (fr':=BO c c4 b cuts (k:Nat) n th [(22,.bool false)]) (H':=[])
 ·unfold BO
  (refine ⟨0,?_⟩;simp [-getElem?_pos,go_sem,eqV,ah,hL,unV])
 apply aj.seq (fr':=BO c c4 b cuts (k:Nat) n th [(22,.bool false)]) (H':=[])
 ·exact Run.cond (d:=false) (by simp [BO,aJ,ay]) ⟨0,rfl⟩
 clear hL
 by_cases hg:1000 < b.length∨n < 1∨1000 < n∨th < 0∨2000 < th∨3000 < cuts.length
 ·rw [decide_eq_true hg] at r3
  apply aj.assoc
  apply aj.seq (piece r3 _ rfl)
  refine aj.of (o:=⟨.ret,[(10,.bool true)],[]⟩) ⟨0,?_⟩ ⟨rfl,rfl⟩
  unfold BO
  simp [-getElem?_pos,go_sem,eqV,ah]
 rw [decide_eq_false hg] at r3
 have hb:b.length≤1000:=by omega
 obtain ⟨m,rfl⟩:∃ m:Nat,n = (m:Nat):=⟨n.toNat,by omega⟩
 obtain ⟨th,rfl⟩:∃ t:Nat,th = (t:Nat):=⟨th.toNat,by omega⟩
 have hm:1≤m:=by omega
 have hm2:m≤1000:=by omega
 have hct:cuts.length≤3000:=by omega
 have hth:th≤2000:=by omega
 apply aj.assoc
 apply aj.seq (piece r3 _ rfl)
 apply aj.seq (fr':=BO c c4 b cuts (k:Nat) (m:Nat) (th:Nat) [(46,.bool false)]) (H':=[])
 ·exact Run.cond (d:=false) (by simp [BO,aJ,ay]) ⟨0,rfl⟩
 clear r3 hg
 obtain ⟨ob1,w1,e1⟩:=Fh (H:=[]) (a:=.ro c (.pb b) 1) (B:=b) (s:=k) (mo:=(m:Nat)) (th:=(th:Nat)) (Byt.ro (.inl rfl) hc) hb hk
 have hsq:sqR b k (m:Nat) (th:Nat) = (frs m th b.length b k,fsq m b.length b k,0):=by
  unfold sqR
  rw [if_neg (by unfold Dh;omega),auy,auy,UE,at6]
 rw [hsq] at e1 w1
 simp only [atY,at6] at e1 w1
 have hxl:=Jb (m:=m) (th:=th) hm b.length b k (atG _)
 have hxs:=He (m:=m) (th:=th) (f:=b.length) (s:=k) (b:=b) hm (atG _) hb
 have hfr:=Eu (m:=m) (th:=th) hm b.length b.length b k (atG _) (atG _)
 obtain ⟨X0,hX0⟩:∃ x,x = frs m th b.length b k:=⟨_,rfl⟩
 obtain ⟨fin,hfin⟩:∃ x,x = fsq m b.length b k:=⟨_,rfl⟩
 rw [← hX0,← hfin] at e1
 rw [← hX0] at w1 hxl hxs
 clear hfr hsq
 apply aj.seq (fr':=[(0,.ro c (.pb b) 1),(1,.int .u8 (k:Nat)),(2,.int .i64 (m:Nat)),(4,.ro c4 (.pi .i64 cuts) 5),(11,.sl 0 0 X0.length 0),(12,.int .u8 (fin:Nat)),(13,.int .i64 0)]) (H':=[some ob1])
 ·unfold BO
  generalize X0.length = N at *
  (refine ⟨0,?_⟩;simp [-getElem?_pos,go_sem,eqV,ah,e1,ak])
 have e2:=Yt (m:=m) (H:=[some ob1]) hm (by omega)
 apply aj.seq (fr':=[(0,.ro c (.pb b) 1),(1,.int .u8 (k:Nat)),(2,.int .i64 (m:Nat)),(4,.ro c4 (.pi .i64 cuts) 5),(11,.sl 0 0 X0.length 0),(12,.int .u8 (fin:Nat)),(13,.int .i64 0),(14,.ptr 1 0 0 0),(15,.int .i64 0)]) (H':=[some ob1,some (eH m 0 (.ro 0 .pn 0) 0)])
 ·generalize X0.length = N at *
  generalize eH m 0 (.ro 0 .pn 0) 0 = bx at *
  (refine ⟨0,?_⟩;simp [-getElem?_pos,go_sem,eqV,ah,e2,ak])
 have hV0:QV m 0 [some ob1,some (eH m 0 (.ro 0 .pn 0) 0)] 1 none 0 [] 0:=⟨⟨_,0,.inl rfl,rfl,rfl,rfl,0,.inl rfl,rfl⟩,fun a g h=>by cases h⟩
 have k00:([some ob1,some (eH m 0 (.ro 0 .pn 0) 0)]:AM.Heap)[0]? = some (some ob1):=rfl
 have k01:∃ ob,([some ob1,some (eH m 0 (.ro 0 .pn 0) 0)]:AM.Heap)[1]? = some (some ob)∧ob.g = 0:=⟨_,rfl,rfl⟩
 generalize [some ob1,some (eH m 0 (.ro 0 .pn 0) 0)] = E0 at *
 obtain ⟨E1,oa1,e3,hV1,hK1⟩:=Yr (k:=k) hV0 (by omega)
 apply aj.assoc
 apply aj.seq (piece (afx c c4 b cuts hm hm2 hb hxl k00 w1.g k01 e3) _ rfl)
 apply aj.seq (fr':=[(0,.ro c (.pb b) 1),(2,.int .i64 (m:Nat)),(4,.ro c4 (.pi .i64 cuts) 5),(11,.sl 0 0 X0.length 0),(12,.int .u8 (fin:Nat)),(14,.ptr 1 0 0 0),(92,.bool false)]) (H':=E1)
 ·exact Run.cond (d:=false) (by simp [aJ,ay]) ⟨0,rfl⟩
 have k10:E1[0]? = some (some ob1):=by rw [hK1.rest 0 (dR k00) (by omega) (fun a g h=>by cases h)];exact k00
 have hV2:QV m 0 (E1 ++ [iU]) 1 oa1 k [] 0:=hV1.cat
 have k20:(E1 ++ [iU])[0]? = some (some ob1):=G8 k10
 have k2D:(E1 ++ [iU])[E1.length]? = some iU:=auh
 obtain ⟨⟨_,_,_,z1,_⟩,_⟩:=id hV1
 have hE1:=dR z1
 have DR:∀ a g,oa1 = some (a,g)→a < E1.length∧a ≠ 0:=by
  intro a g ha
  refine ⟨?_,?_⟩
  ·obtain ⟨⟨_,_,_,_,hs⟩,_⟩:=id hV1
   rw [ha] at hs
   obtain ⟨_,_,_,_,_,h4,_⟩:=hs
   exact dR h4
  ·have:=hK1.new a g rfl ha
   have:=dR k00
   omega
 apply aj.seq (fr':=[(0,.ro c (.pb b) 1),(2,.int .i64 (m:Nat)),(4,.ro c4 (.pi .i64 cuts) 5),(11,.sl 0 0 X0.length 0),(12,.int .u8 (fin:Nat)),(14,.ptr 1 0 0 0),(16,.sl E1.length 0 0 0)]) (H':=E1 ++ [iU])
 ·generalize X0.length = N at *
  (refine ⟨0,?_⟩;simp [-getElem?_pos,go_sem,eqV,ah,ak,rowOf,emY,iU])
 have hl2:(E1 ++ [iU]).length = E1.length + 1:=by simp
 generalize hD:E1.length = D at *
 generalize E1 ++ [iU] = E2 at *
 obtain ⟨obC,l,hl,hwC,e4⟩:=Tf (t:=5) (c1:=c4) (cuts:=cuts) k20 w1 (by omega) (by omega)
 obtain ⟨chs,abO⟩:∃ x,x = chk X0 cuts:=⟨_,rfl⟩
 have hfl:chs.flatten = X0:=by rw [abO];exact Lr _ _
 have hcl:chs.length≤3001:=by rw [abO];have:=JH X0 cuts;omega
 rw [← abO] at e4 hl
 obtain ⟨C,hC⟩:∃ x,x = E2.length:=⟨_,rfl⟩
 rw [← hC] at e4
 have hV3:QV m 0 (AM.upd E2 0 none ++ [some obC]) 1 oa1 k [] 0:=(hV2.other (by omega) (fun a g h=>auf (DR a g h).2)).cat
 have k3D:(AM.upd E2 0 none ++ [some obC])[D]? = some iU:=G8 (by unfold AM.upd;exact qO k2D (by omega))
 have k3C:(AM.upd E2 0 none ++ [some obC])[C]? = some (some obC):=by
  have:(AM.upd E2 0 none).length = C:=by rw [hC];simp [AM.upd]
  rw [← this]
  exact auh
 generalize AM.upd E2 0 none ++ [some obC] = E3 at *
 apply aj.seq (fr':=BP c b m fin 1 [(16,.sl D 0 0 0),(17,.sl C 0 chs.length 0)]) (H':=E3)
 ·unfold BP
  generalize X0.length = N at *
  generalize chs.length = M at *
  (refine ⟨0,?_⟩;simp [-getElem?_pos,go_sem,eqV,ah,e4,ak])
 apply aj.assoc
 apply aj.seq (fr':=nO c b m fin 1 D 0 0 C chs.length 0 []) (H':=E3)
 ·unfold nO BP
  generalize chs.length = M at *
  (refine ⟨0,?_⟩;simp [-getElem?_pos,go_sem,eqV,ah])
 have hI0:SbI m th fin b chs E3 1 D C 0 0 [] b:=⟨⟨oa1,k,[],0,hV3,⟨by rw [auY,at6,auY,hfl,hX0],hfin.symm,hk,hb⟩,.inl (by simp),by simp,fun a g h=>⟨by have:=(DR a g h).1;omega,by have:=(DR a g h).1;omega⟩⟩,⟨_,k3D,⟨rfl,rfl,rfl,rfl,rfl⟩⟩,⟨obC,l,k3C,hl,hwC⟩,by omega,by omega,by omega,rfl⟩
 apply aj.andThen (P:=fun fr E=>∃ g acc p,fr = nO c b m fin 1 D acc.length g C chs.length chs.length [(99,.bool false)]∧SbI m th fin b chs E 1 D C g chs.length acc p)
 ·refine aj.block (P:=fun fr E=>∃ g acc p,fr = nO c b m fin 1 D acc.length g C chs.length chs.length [(99,.bool false)]∧SbI m th fin b chs E 1 D C g chs.length acc p) ?_
  refine aj.kQ (fun q fr E=>∃ i g acc p,q = chs.length - i∧i≤chs.length∧fr = nO c b m fin 1 D acc.length g C chs.length i []∧SbI m th fin b chs E 1 D C g i acc p) ?_ (k:=chs.length) ⟨0,0,[],b,rfl,auL _,rfl,hI0⟩
  rintro q fr E ⟨i,g,acc,p,rfl,hi,rfl,hI⟩
  obtain ⟨att,l',hC',hl',aoA⟩:=hI.ch
  have r12:=abJ (c:=c) (b:=b) (m:=m) (fin:=fin) (r:=1) (D:=D) (chs:=chs) (N:=acc.length) (g:=g) (i:=i) hC' aoA.g
  by_cases hin:i < chs.length
  ·rw [decide_eq_true hin] at r12
   apply aj.assoc
   apply aj.seq (piece r12 _ rfl)
   apply aj.seq (fr':=nO c b m fin 1 D acc.length g C chs.length i [(99,.bool true)]) (H':=E)
   ·exact Run.cond (d:=true) (by simp [nO,BP,aJ,ay]) ⟨0,rfl⟩
   obtain ⟨g',acc',p',E',hI',hr⟩:=Zn hm hm2 hb hI hin (by omega)
   exact aj.of (piece hr _ rfl) (.inl ⟨rfl,chs.length - (i + 1),by omega,i + 1,g',acc',p',rfl,by omega,rfl,hI'⟩)
  ·rw [decide_eq_false hin] at r12
   obtain rfl:i = chs.length:=by omega
   exact aj.of (o:=⟨.exit 0,nO c b m fin 1 D acc.length g C chs.length chs.length [(99,.bool false)],E⟩) (Run.bI (Run.seq (piece r12 _ rfl) (Run.cond (d:=false) (by simp [nO,BP,aJ,ay]) ⟨0,rfl⟩)) (by simp)) (.inr ⟨by simp,rfl,g,acc,p,rfl,hI⟩)
 rintro fr E ⟨g,acc,p,rfl,hI⟩
 obtain ⟨oa,nx,L,off,hV,hS,hN,_,hoa⟩:=hI.q
 rw [List.drop_length] at hS
 obtain ⟨hp,hr,hnx⟩:=hN.done hm hS
 have hbp:=hI.bp
 rw [hp,at1] at hbp
 have hlo:L.length - off = 0:=by
  have:=congrArg List.length hr
  simpa using this
 obtain ⟨obD,hD',hwD⟩:=hI.d
 have eS:=Lp (H:=E) (a:=.sl D 0 acc.length g) (a2:=.ro c (.pb b) 1) (Byt.whole hD' hwD) (Byt.ro (.inl rfl) hc)
 rw [show (acc == b) = true by rw [hbp];simp] at eS
 obtain ⟨E4,oa4,e5,hV5,_⟩:=KF hV (by omega)
 rw [hlo] at e5
 obtain ⟨E6,oa6,e6,_,_⟩:=Ux hV5 (by omega)
 rw [hnx] at e6
 refine aj.of (o:=⟨.ret,[(10,.bool true)],E6⟩) ⟨0,?_⟩ ⟨rfl,rfl⟩
 unfold nO BP
 generalize acc.length = N at *
 generalize chs.length = M at *
 simp only [Int.natCast_zero] at e5
 simp [-getElem?_pos,go_sem,eqV,ah,eS,e5,e6]
end
end Go.Proofs.Ytbodincpjijdiaa
