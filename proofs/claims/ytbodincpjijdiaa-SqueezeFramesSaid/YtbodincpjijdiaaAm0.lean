/- The abstract machine, part 0: a deterministic evaluator for the program's code and the proof that what it tells is so. Conditions: none beyond the theorems' own. -/
import Derived.Laws.StructEq
import Derived.WalkKit
import GoSem.Core.Program
import GoSem.Core.Region
import GoSem.Core.View
import GoSem.Dispatch
set_option linter.unusedSimpArgs false
set_option linter.unusedVariables false
set_option maxRecDepth 100000
set_option maxHeartbeats 8000000
namespace Go.AM
set_option linter.defProp false
def Pe{p:Nat->Prop}(h:p 0):Exists p:=⟨0,h⟩
def axH:=@Option.some.injEq
def axI:=@List.getElem?_eq_getElem
def axJ:=@Prod.mk.injEq
def axK:=@List.getElem?_eq_some_iff
def axL:=@List.getElem?_append_left
def axM:=@Option.map_some
def axN:=@Option.some.inj
def axO:=@Nat.le_refl
def axP:=@List.getElem?_map
def axQ:=@List.getD_eq_getElem?_getD
def axR:=@List.length_append
def axS:=@List.getElem?_append_right
def axT:=@List.mem_of_getElem?
def axU:=@List.getElem?_set_ne
def axV:=@List.mem_append
def axW:=@List.length_drop
def axX:=@List.getElem?_cons_succ
def axY:=@List.length_cons
def axZ:=@Bool.false_eq_true
def ax0:=@List.getElem?_eq_none
def ax1:=@List.append_nil
def ax2:=@List.mem_cons
def ax3:=@List.length_nil
def ax4:=@Bool.and_eq_true
def ax5:=@List.all_eq_true
def ax6:=@Ne.symm
def ax7:=@Option.map_eq_some_iff
def ax8:=@List.nil_append
def ax9:=@List.map_cons
def aya:=@List.mem_cons_of_mem
def ayb:=@List.mem_singleton
def ayc:=@List.length_take
def ayd:=@List.mem_map
def aye:=@List.map_nil
def ayf:=@List.getElem?_cons_zero
def ayg:=@Nat.zero_add
def ayh:=@List.mem_range
def ayi:=@Nat.mul_le_mul_right
def ayj:=@List.cons_append
def ayk:=@List.eq_nil_of_length_eq_zero
def ayl:=@List.getElem?_concat_length
def aym:=@List.take_of_length_le
def ayn:=@Option.isSome_iff_exists
def ayo:=@Nat.pow_le_pow_right
def ayp:=@Array.getD_eq_getD_getElem?
def ayq:=@List.append_assoc
def ayr:=@Array.getElem?_toList
def ays:=@List.mem_cons_self
def ayt:=@List.filter_nil
def ayu:=@List.nodup_iff_pairwise_ne
def ayv:=@Option.getD_some
def ayw:=@Nat.lt_of_lt_of_le
def ayx:=@List.getElem?_set_self
def ayy:=@List.map_append
def ayz:=@List.drop_eq_getElem_cons
def ayA:=@Int.toNat_natCast
def ayB:=@List.length_map
def ayC:=@List.map_congr_left
def ayD:=@List.getElem?_take
def ayE:=@List.idxOf_lt_length_of_mem
def ayF:=@Nat.zero_le
def ayG:=@Nat.min_eq_left
def ayH:=@Int.fdiv_eq_ediv_of_nonneg
def ayI:=@Nat.add_mul
def ayJ:=@List.getElem?_range
def ayK:=@List.not_mem_nil
def ayL:=@List.ext_getElem?
def ayM:=@List.take_length
def ayN:=@Nat.mod_eq_of_lt
def ayO:=@Nat.le_trans
def ayP:=@Array.getElem?_modify
def ayQ:=@Nat.mul_one
def ayR:=@Int.tdiv_eq_ediv_of_nonneg
def ayS:=@Nat.mul_comm
def ayT:=@List.getElem?_drop
def ayU:=@UInt8.toNat_ofNat'
def ayV:=@Bool.or_eq_true
def ayW:=@List.mem_append_left
def ayX:=@List.mem_flatMap
def ayY:=@Option.bind_some
def ayZ:=@List.drop_zero
def ay0:=@Nat.add_zero
def ay1:=@List.map_map
def ay2:=@List.mem_append_right
def ay3:=@List.cons.injEq
def ay4:=@List.range_zero
def ay5:=@List.mem_filter
def ay6:=@List.flatMap_eq_nil_iff
def ay7:=@Array.mem_toList_iff
def ay8:=@Array.getElem?_eq_some_iff
def ay9:=@Int.tmod_eq_emod_of_nonneg
def aza:=@List.append_eq_nil_iff
def azb:=@Bool.false_and
def azc:=@List.drop_drop
def azd:=@List.size_toArray
def aze:=@List.filter_eq_self
def azf:=@Array.getElem?_eq_getElem
def azg:=@List.all_cons
def azh:=@Bool.true_and
def azi:=@List.filter_cons_of_pos
def azj:=@Int.emod_eq_of_lt
def azk:=@List.getElem?_set
def azl:=@List.nodup_cons
def azm:=@List.drop_of_length_le
def azn:=@List.getElem_inj
def azo:=@List.filter_cons
def azp:=@List.length_singleton
def azq:=@List.take_append_drop
def azr:=@List.mem_iff_getElem
def azs:=@Nat.succ_mul
def azt:=@List.getElem?_take_of_lt
def azu:=@List.eq_nil_iff_forall_not_mem
def azv:=@List.flatMap_cons
def azw:=@List.drop_append_of_le_length
def azx:=@List.take_append_of_le_length
def azy:=@Nat.div_eq_of_lt
def azz:=@Bool.true_eq_false
def azA:=@List.count_cons
def azB:=@List.contains_iff_mem
def azC:=@Nat.add_assoc
def azD:=@List.pairwise_map
def azE:=@List.take_add_one
def azF:=@List.nodup_append
def azG:=@List.isEmpty_iff
def azH:=@Nat.add_comm
def azI:=@Nat.sub_self
def azJ:=@Array.all_eq_true_iff_forall_mem
def azK:=@List.flatMap_nil
def azL:=@Nat.sub_zero
def azM:=@Array.length_toList
def azN:=@Array.getElem?_setIfInBounds_ne
def azO:=@List.getElem_idxOf
def azP:=@Array.eq_empty_of_size_eq_zero
def azQ:=@List.foldl_cons
def azR:=@Int.cast_ofNat_Int
def azS:=@Nat.mod_lt
def azT:=@Array.getElem?_push_lt
def azU:=@Int.pow_pos
def azV:=@List.length_range
def azW:=@Bool.not_eq_true'
def azX:=@Array.size_append
def azY:=@BitVec.toNat_and
def azZ:=@List.range'_succ
def az0:=@List.nodup_range
def az1:=@Nat.min_eq_right
def az2:=@Array.mem_append
def az3:=@Bool.not_true
def az4:=@List.getD_cons_succ
def az5:=@Nat.div_le_self
def az6:=@List.length_set
def az7:=@BitVec.toNat_or
def az8:=@BitVec.toNat_ofInt
def az9:=@Nat.and_one_is_mod
def aAa:=@Option.isSome_some
def aAb:=@Nat.pow_succ
def aAc:=@List.count_append
def aAd:=@Nat.or_lt_two_pow
def aAe:=@Bool.and_true
def aAf:=@List.all_nil
def aAg:=@Int.pow_succ
inductive AV where
 | top
 | bool (b:Bool)
 | int (k:IntKind) (n:Int)
 | str (s:List UInt8)
 | gZ
 | ptr (o i f g:Nat)
 | jl (p:AV) (i f t:Nat)
 | sl (o off len g:Nat)
 | ro (c:Nat) (p:AV) (t:Nat)
 | agg (p:AV)
 | tup (l:List AV)
 | fn (f:Nat) (l:List AV)
 | jS
 | map (o g:Nat)
 | iL
 | pn
 | pb (l:List UInt8)
 | pi (k:IntKind) (l:List Int)
 | pc (l:List AV)
 | pr (e:Nat) (l:List AV)
 | pm (l:List AV)
 deriving Inhabited
structure Obj where
 p:AV
 g:Nat
 cap:Option Nat
 z:Nat
 row:Bool
 ids:Bool
 tg:Nat
 deriving Inhabited
abbrev Frame:=List (Nat×AV)
abbrev Heap:=List (Option Obj)
structure Ctx where
 P:Program
 G:Nat->Option AV
 rw:Nat->Nat->Bool
 keep:Nat->Nat->Option (List Nat)
 norm:Nat->Nat->Bool
 dr:Nat->Nat->Bool
 dy:Nat->Nat->Bool
def box(p:AV):Obj:=⟨p,0,none,1,false,true,0⟩
def rowOf(p:AV)(cap:Option Nat)(z:Nat):Obj:=⟨p,0,cap,z,true,false,0⟩
def aB:Frame->Nat->AV
 | [],_=>.top
 | (j,v)::r,i=>if j=i then v else aB r i
def live(H:Heap)(o g:Nat):Option Obj :=
 match H[o]? with
 | some (some ob)=>if ob.g=g then some ob else none
 | _=>none
def upd(H:Heap)(o:Nat)(x:Option Obj):Heap:=H.set o x
-- payloads
def ah:AV->Nat
 | .pb l=>l.length
 | .pi _ l=>l.length
 | .pc l=>l.length
 | .pr _ l=>l.length
 | _=>0
def aS:AV->Nat
 | .pr e _=>e
 | _=>1
def qP(b:UInt8):AV:=.int .u8 b.toNat
def KL:AV->Nat->Nat->Option AV
 | .pb l,i,0=>(l[i]?).map qP
 | .pi k l,i,0=>(l[i]?).map (.int k)
 | .pc l,i,f=>l[i+f]?
 | .pr _ l,i,f=>match l[i]? with|some (.pc r)=>r[f]? | _=>none
 | _,_,_=>none
def scalar:AV->Bool
 | .bool _ | .int _ _ | .str _ | .gZ | .ptr .. | .sl .. | .ro .. | .jS | .map .. | .iL=>true
 | _=>false
def UQ:AV->Nat->Nat->AV->Option AV
 | .pb l,i,0,.int .u8 x=>if i<l.length/\0<=x/\x<256 then some (.pb (l.set i (UInt8.ofNat x.toNat)))else none
 | .pi k l,i,0,.int k' x=>if k=k'/\i<l.length then some (.pi k (l.set i x))else none
 | .pc l,i,f,v=>if scalar v=true/\i+f<l.length then some (.pc (l.set (i+f) v))else none
 | .pr e l,i,f,v=>match l[i]? with
  | some (.pc r)=>if scalar v=true/\f<r.length then some (.pr e (l.set i (.pc (r.set f v))))else none
  | _=>none
 | _,_,_,_=>none
def gq:AV->Nat->Nat->Option AV
 | .pb l,lo,n=>if lo+n<=l.length then some (.pb ((l.drop lo).take n))else none
 | .pi k l,lo,n=>if lo+n<=l.length then some (.pi k ((l.drop lo).take n))else none
 | .pc l,lo,n=>if lo+n<=l.length then some (.pc ((l.drop lo).take n))else none
 | .pr e l,lo,n=>if lo+n<=l.length then some (.pr e ((l.drop lo).take n))else none
 | .pn,0,0=>some .pn
 | _,_,_=>none
def l9:AV->AV->Option AV
 | .pb a,.pb b=>some (.pb (a++b))
 | .pi k a,.pi k' b=>if k=k' then some (.pi k (a++b))else none
 | .pc a,.pc b=>some (.pc (a++b))
 | .pr e a,.pr e' b=>if e=e' then some (.pr e (a++b))else none
 | a,.pn=>some a
 | .pn,b=>some b
 | _,_=>none
def uH(k:IntKind):List AV->Option (List Int)
 | []=>some []
 | .int k' n::r=>if k=k' then(uH k r).map (n::·)else none
 | _=>none
def jJ:List AV->Option (List UInt8)
 | []=>some []
 | .int .u8 n::r=>if 0<=n/\n<256 then(jJ r).map (UInt8.ofNat n.toNat::·)else none
 | _=>none
def scalars:List AV->Bool
 | []=>true
 | v::r=>scalar v&&scalars r
def sG:AV->Option (List AV)
 | .pc r=>some r
 | .pi k r=>some (r.map (.int k))
 | .pb r=>some (r.map qP)
 | _=>none
def uG(e:Nat):List AV->Option (List AV)
 | []=>some []
 | .agg p::t=>match sG p with
  | some r=>if r.length=e/\scalars r=true then(uG e t).map (.pc r::·)else none
  | none=>none
 | _=>none
def chunks(e:Nat):Nat->List AV->List AV
 | 0,_=>[]
 | n+1,l=>.pc (l.take e)::chunks e n (l.drop e)
def cellsOf:AV->List AV
 | .pb l=>l.map qP
 | .pi k l=>l.map (.int k)
 | .pc l=>l
 | .pr _ l=>l.flatMap fun | .pc r=>r|_=>[]
 | _=>[]
-- types
def und(C:Ctx)(t:TypeId):TypeDesc:=(C.P.underlying t).getD .invalid
def sizeT(C:Ctx)(t:TypeId):Nat:=((C.P.info? t).map (·.size)).getD 0
def bH(C:Ctx)(t:TypeId):Nat:=((C.P.info? t).map (·.bytes)).getD 0
def bI(C:Ctx)(t:TypeId):Bool :=
 match und C t with
 | .struct _ | .array _ _=>true
 | _=>false
def okT(C:Ctx)(t:TypeId):Bool:=(C.P.underlying t).isSome
def dh(C:Ctx)(e:TypeId):AV :=
 match und C e with
 | .int .u8=>.pb []
 | .int k=>.pi k []
 | .struct _ | .array _ _=>.pr (sizeT C e) []
 | _=>.pc []
def mkRow(C:Ctx)(e:TypeId)(l:List AV):Option AV :=
 match und C e with
 | .int .u8=>(jJ l).map .pb
 | .int k=>(uH k l).map (.pi k)
 | .struct _ | .array _ _=>(uG (sizeT C e) l).map (.pr (sizeT C e))
 | _=>if scalars l=true then some (.pc l)else none
def nV(C:Ctx)(t:TypeId)(l:List AV):Option AV :=
 match und C t with
 | .array n e=>match und C e with
  | .int .u8=>(jJ l).map .pb
  | .int k=>(uH k l).map (.pi k)
  | .struct _ | .array _ _=>if l.length=n*sizeT C e/\0<sizeT C e then some (.pr (sizeT C e) (chunks (sizeT C e) n l))else none
  | _=>some (.pc l)
 | _=>some (.pc l)
def kD:Value->AV
 | .bool b=>.bool b
 | .int k n=>.int k n
 | .string s=>.str s.data.toList
 | .pointer none=>.gZ
 | .slice none 0 0=>.ro 0 .pn 0
 | .map none=>.iL
 | .nilFunc=>.jS
 | .tuple ⟨[]⟩=>.tup []
 | _=>.top
def Gi(C:Ctx)(t:TypeId):Value->AV
 | .agg cs=>if scalars (cs.toList.map kD)=true then(match nV C t (cs.toList.map kD)with|some p=>.agg p|none=>.top)else .top
 | v=>kD v
def bD(C:Ctx)(t:TypeId):AV :=
 match(C.P.info? t).bind (·.zero)with
 | some v=>Gi C t v
 | none=>.top
-- reading
def retag(t:Nat):AV->AV
 | .ro c p _=>.ro c p t
 | v=>v
def uF(H:Heap):AV->Option AV
 | .ro _ p _=>some p
 | .sl o off len g=>match live H o g with
  | some ob=>gq ob.p off len
  | none=>none
 | _=>none
mutual
def ids:AV->List Nat
 | .ptr o _ _ _=>[o]
 | .sl o _ _ _=>[o]
 | .map o _=>[o]
 | .agg p=>ids p
 | .tup l=>aC l
 | .fn _ l=>aC l
 | .pc l=>aC l
 | .pr _ l=>aC l
 | .pm l=>aC l
 | _=>[]
def aC:List AV->List Nat
 | []=>[]
 | a::r=>ids a++aC r
end
mutual
def tags:AV->List Nat
 | .ro _ _ t=>[t]
 | .jl _ _ _ t=>[t]
 | .agg p=>tags p
 | .tup l=>aW l
 | .fn _ l=>aW l
 | .pc l=>aW l
 | .pr _ l=>aW l
 | .pm l=>aW l
 | _=>[]
def aW:List AV->List Nat
 | []=>[]
 | a::r=>tags a++aW r
end
mutual
def ren(ρ:Nat->Nat->Option (Nat×Nat))(τ:Nat->Nat):AV->AV
 | .ptr o i f g=>match ρ o g with|some (o',g')=>.ptr o' i f g' | none=>.top
 | .sl o off len g=>match ρ o g with|some (o',g')=>.sl o' off len g' | none=>.top
 | .map o g=>match ρ o g with|some (o',g')=>.map o' g' | none=>.top
 | .ro c p t=>.ro c p (τ t)
 | .jl p i f t=>.jl p i f (τ t)
 | .agg p=>.agg (ren ρ τ p)
 | .tup l=>.tup (bU ρ τ l)
 | .fn f l=>.fn f (bU ρ τ l)
 | .pc l=>.pc (bU ρ τ l)
 | .pr e l=>.pr e (bU ρ τ l)
 | .pm l=>.pm (bU ρ τ l)
 | v=>v
def bU(ρ:Nat->Nat->Option (Nat×Nat))(τ:Nat->Nat):List AV->List AV
 | []=>[]
 | a::r=>ren ρ τ a::bU ρ τ r
end
def dJ(a b:Nat):Option Nat:=if a=0 then some b else if b=0\/a=b then some a else none
def bY:List Nat->Option Nat
 | []=>some 0
 | t::r=>(bY r).bind (dJ t)
def nX(H:Heap):AV->Option (AV×Heap)
 | .sl o off len g=>match live H o g with
  | some ob=>if ob.ids=true then none else
   match gq ob.p off len with
   | some p=>some (.ro (if ob.z=0/\ah ob.p=0 then 0 else 2) p ob.tg,upd H o none)
   | none=>none
  | none=>none
 | v=>some (v,H)
def rF(H:Heap):List AV->Option (List AV×Heap)
 | []=>some ([],H)
 | a::r=>match nX H a with
  | some (a',H')=>match rF H' r with
   | some (r',H'')=>some (a'::r',H'')
   | none=>none
  | none=>none
def rE(H:Heap):AV->Option (AV×Heap)
 | .agg (.pc l)=>match rF H l with
  | some (l',H')=>some (.agg (.pc l'),H')
  | none=>none
 | v=>nX H v
def lU(H:Heap):List AV->Option (List AV×Heap)
 | []=>some ([],H)
 | a::r=>match rE H a with
  | some (a',H')=>match lU H' r with
   | some (r',H'')=>some (a'::r',H'')
   | none=>none
  | none=>none
mutual
def jg:AV->AV->Bool
 | .top,.top=>true
 | .bool a,.bool b=>a==b
 | .int k a,.int k' b=>decide (k=k')&&decide (a=b)
 | .str a,.str b=>decide (a=b)
 | .gZ,.gZ=>true
 | .jS,.jS=>true
 | .iL,.iL=>true
 | .ro c p t,.ro c' p' t'=>decide (c=c')&&decide (t=t')&&jg p p'
 | .agg p,.agg q=>jg p q
 | .sl o a b g,.sl o' a' b' g'=>decide (o=o')&&decide (a=a')&&decide (b=b')&&decide (g=g')
 | .ptr o a b g,.ptr o' a' b' g'=>decide (o=o')&&decide (a=a')&&decide (b=b')&&decide (g=g')
 | .tup l,.tup m=>eqL l m
 | .pn,.pn=>true
 | .pb a,.pb b=>decide (a=b)
 | .pi k a,.pi k' b=>decide (k=k')&&decide (a=b)
 | .pc l,.pc m=>eqL l m
 | .pr e l,.pr e' m=>decide (e=e')&&eqL l m
 | .jl p a b g,.jl p' a' b' g'=>decide (a=a')&&decide (b=b')&&decide (g=g')&&jg p p'
 | .fn f l,.fn f' m=>decide (f=f')&&eqL l m
 | .map o g,.map o' g'=>decide (o=o')&&decide (g=g')
 | .pm l,.pm m=>eqL l m
 | _,_=>false
def eqL:List AV->List AV->Bool
 | [],[]=>true
 | a::l,b::m=>jg a b&&eqL l m
 | _,_=>false
end
mutual
def yH:(a b:AV)->jg a b=true->a=b
 | .top,b,h=>by cases b<;>simp[jg]at h;rfl
 | .bool x,b,h=>by cases b<;>simp[jg]at h;rw[h]
 | .int k x,b,h=>by cases b<;>simp[jg]at h;rw[h.1,h.2]
 | .str x,b,h=>by cases b<;>simp[jg]at h;rw[h]
 | .gZ,b,h=>by cases b<;>simp[jg]at h;rfl
 | .jS,b,h=>by cases b<;>simp[jg]at h;rfl
 | .iL,b,h=>by cases b<;>simp[jg]at h;rfl
 | .ro c p t,b,h=>by
  cases b<;>simp[jg]at h;rw[h.1.1,h.1.2,yH p _ h.2]
 | .agg p,b,h=>by
  cases b<;>simp[jg]at h;rw[yH p _ h]
 | .tup l,b,h=>by
  cases b<;>simp[jg]at h;rw[zM l _ h]
 | .pn,b,h=>by cases b<;>simp[jg]at h;rfl
 | .pb x,b,h=>by cases b<;>simp[jg]at h;rw[h]
 | .pi k x,b,h=>by cases b<;>simp[jg]at h;rw[h.1,h.2]
 | .pc l,b,h=>by
  cases b<;>simp[jg]at h;rw[zM l _ h]
 | .pr e l,b,h=>by
  cases b<;>simp[jg]at h;rw[h.1,zM l _ h.2]
 | .ptr o a c g,b,h=>by cases b<;>simp[jg]at h;rw[h.1.1.1,h.1.1.2,h.1.2,h.2]
 | .jl p a c g,b,h=>by
  cases b<;>simp[jg]at h;rw[h.1.1.1,h.1.1.2,h.1.2,yH p _ h.2]
 | .sl o a c g,b,h=>by cases b<;>simp[jg]at h;rw[h.1.1.1,h.1.1.2,h.1.2,h.2]
 | .fn f l,b,h=>by
  cases b<;>simp[jg]at h;rw[h.1,zM l _ h.2]
 | .map o g,b,h=>by cases b<;>simp[jg]at h;rw[h.1,h.2]
 | .pm l,b,h=>by
  cases b<;>simp[jg]at h;rw[zM l _ h]
def zM:(l m:List AV)->eqL l m=true->l=m
 | [],m,h=>by cases m<;>simp[eqL]at h;rfl
 | a::l,m,h=>by
  cases m<;>simp[eqL]at h;rw[yH a _ h.1,zM l _ h.2]
end
def Qp:Option Obj->Option Obj->Bool
 | none,none=>true
 | some a,some b=>jg a.p b.p&&decide (a.g=b.g)&&decide (a.cap=b.cap)&&decide (a.z=b.z)&&decide (a.row=b.row)&&decide (a.ids=b.ids)&&decide (a.tg=b.tg)
 | _,_=>false
def abf:∀ {a b:Option Obj},Qp a b=true->a=b
 | none,none,_=>rfl
 | none,some _,h=>by simp[Qp]at h
 | some _,none,h=>by simp[Qp]at h
 | some ⟨p,g,c,z,r,i,t⟩,some ⟨p',g',c',z',r',i',t'⟩,h=>by
  simp[Qp]at h;obtain⟨⟨⟨⟨⟨⟨h1,h2⟩,h3⟩,h4⟩,h5⟩,h6⟩,h7⟩:=h;rw[yH _ _ h1,h2,h3,h4,h5,h6,h7]
def eqH:Heap->Heap->Bool
 | [],[]=>true
 | a::l,b::m=>Qp a b&&eqH l m
 | _,_=>false
def zK:∀ {a b:Heap},eqH a b=true->a=b
 | [],[],_=>rfl
 | [],_::_,h=>by simp[eqH]at h
 | _::_,[],h=>by simp[eqH]at h
 | a::l,b::m,h=>by
  simp[eqH]at h;rw[abf h.1,zK h.2]
mutual
def vg:(a:AV)->jg a a=true
 | .top=>rfl
 | .bool x=>by simp[jg]
 | .int k x=>by simp[jg]
 | .str x=>by simp[jg]
 | .gZ=>rfl
 | .jS=>rfl
 | .iL=>rfl
 | .ro c p t=>by simp[jg,vg p]
 | .agg p=>by simp[jg,vg p]
 | .tup l=>by simp[jg,vw l]
 | .pn=>rfl
 | .pb x=>by simp[jg]
 | .pi k x=>by simp[jg]
 | .pc l=>by simp[jg,vw l]
 | .pr e l=>by simp[jg,vw l]
 | .ptr o a c g=>by simp[jg]
 | .jl p a c g=>by simp[jg,vg p]
 | .sl o a c g=>by simp[jg]
 | .fn f l=>by simp[jg,vw l]
 | .map o g=>by simp[jg]
 | .pm l=>by simp[jg,vw l]
def vw:(l:List AV)->eqL l l=true
 | []=>rfl
 | a::l=>by simp[eqL,vg a,vw l]
end
def U5:(a:Option Obj)->Qp a a=true
 | none=>rfl
 | some a=>by simp[Qp,vg]
def lN:(H:Heap)->eqH H H=true
 | []=>rfl
 | a::l=>by simp[eqH,U5,lN l]
def Tt{a b:Heap}:eqH a b=true ↔ a=b:=⟨zK,fun h=>h ▸ lN a⟩
def Nk(a b:Heap)(x:Option Obj):eqH (a++[x]) (b++[x])=eqH a b:=by
 rw[Bool.eq_iff_iff,Tt,Tt];exact List.append_left_inj [x]
def dA:Nat:=999999
def aJ(C:Ctx)(fr:Frame):Operand->AV
 | .tmp t=>aB fr t
 | .const v=>kD v
 | .global g=>match C.G g with|some p=>.jl p 0 0 dA|none=>.top
 | .func f=>.fn f []
def gu(C:Ctx)(fr:Frame)(t:TypeId):Operand->AV
 | .const v=>Gi C t v
 | x=>aJ C fr x
-- scalars
def bits(k:IntKind)(n:Int):BitVec k.bits:=BitVec.ofInt k.bits n
def arith(op:BinOp)(k:IntKind)(a b:Int):Option AV :=
 match op with
 | .add=>some (.int k (k.wrap (a+b)))
 | .sub=>some (.int k (k.wrap (a-b)))
 | .mul=>some (.int k (k.wrap (a*b)))
 | .quo=>if b=0 then none else some (.int k (k.wrap (a.tdiv b)))
 | .rem=>if b=0 then none else some (.int k (a.tmod b))
 | .and=>some (.int k (k.wrap (bits k a&&& bits k b).toNat))
 | .or=>some (.int k (k.wrap (bits k a ||| bits k b).toNat))
 | .xor=>some (.int k (k.wrap (bits k a ^^^ bits k b).toNat))
 | .andNot=>some (.int k (k.wrap (bits k a&&& ~~~(bits k b)).toNat))
 | .eql=>some (.bool (a==b))
 | .neq=>some (.bool (a != b))
 | .lss=>some (.bool (a<b))
 | .leq=>some (.bool (a<=b))
 | .gtr=>some (.bool (a>b))
 | .geq=>some (.bool (a>=b))
 | _=>none
def KJ(op:BinOp)(k:IntKind)(a b:Int):Option AV :=
 if b<0 then none else
 match op with
 | .shl=>some (.int k (k.wrap (a*2 ^ (min b.toNat k.bits))))
 | .shr=>some (.int k (a.fdiv (2 ^ (min b.toNat k.bits))))
 | _=>none
def bytesLess:List UInt8->List UInt8->Bool
 | _,[]=>false
 | [],_::_=>true
 | a::x,b::y=>a<b || (a==b&&bytesLess x y)
def Tf(op:BinOp)(x y:List UInt8):Option AV :=
 match op with
 | .add=>if x.length+y.length<=9223372036854775807 then some (.str (x++y))else none
 | .eql=>some (.bool (x==y))
 | .neq=>some (.bool (!(x==y)))
 | .lss=>some (.bool (bytesLess x y))
 | .leq=>some (.bool (bytesLess x y || x==y))
 | .gtr=>some (.bool (!(bytesLess x y || x==y)))
 | .geq=>some (.bool (!bytesLess x y))
 | _=>none
def kL(C:Ctx)(t:TypeId):Bool :=
 match und C t with
 | .bool | .int _ | .string=>true
 | _=>false
def xH (C:Ctx) (eq:TypeId->List AV->List AV->Option Bool):List Field->List AV->List AV->Option Bool
 | [],_,_=>some true
 | f :: r, a, b => if f.name != "_" && decide (f.offset + sizeT C f.type ≤ a.length) && decide (f.offset + sizeT C f.type ≤ b.length) then
   match eq f.type ((a.drop f.offset).take (sizeT C f.type)) ((b.drop f.offset).take (sizeT C f.type)),xH C eq r a b with
   | some x,some y=>some (x&&y)
   | _,_=>none
  else none
def uI(C:Ctx):Nat->TypeId->List AV->List AV->Option Bool
 | 0,_,_,_=>none
 | n+1,t,a,b=>match und C t with
  | .bool=>match a,b with
   | [.bool x],[.bool y]=>some (x==y)
   | _,_=>none
  | .int _=>match a,b with
   | [.int k x],[.int k' y]=>if k=k' then some (x==y)else none
   | _,_=>none
  | .string=>match a,b with
   | [.str x],[.str y]=>some (x==y)
   | _,_=>none
  | .struct fs=>if C.P.stoodInHeld t then none else xH C (uI C n) fs.toList a b
  | _=>none
def Jj(C:Ctx)(t:TypeId):Bool :=
 match und C t with
 | .struct _=>true
 | _=>false
def Qk(C:Ctx):Nat->TypeId->Bool
 | 0,_=>false
 | n+1,t=>match und C t with
  | .bool | .int _ | .string=>true
  | .struct fs=>fs.toList.all fun f=>Qk C n f.type
  | .array _ e=>Qk C n e
  | _=>false
def isNil(C:Ctx)(H:Heap)(t:TypeId)(x:AV):Option Bool :=
 match und C t,x with
 | .pointer _,.gZ=>some true
 | .pointer _,.ptr o _ _ g=>match live H o g with|some _=>some false|none=>none
 | .slice _,.ro c _ _=>some (c==0)
 | .slice _,.sl o _ _ g=>match live H o g with|some ob=>some (ob.z==0&&ah ob.p==0)|none=>none
 | .map _ _,.iL=>some true
 | .map _ _,.map o g=>match live H o g with|some _=>some false|none=>none
 | .func _ _ _,.jS=>some true
 | .func _ _ _,.fn _ _=>some false
 | _,_=>none
def jW(C:Ctx)(t:TypeId)(x:Operand):Bool :=
 match und C t,x with
 | .pointer _,.const (.pointer none)=>true
 | .slice _,.const (.slice none 0 0)=>true
 | .map _ _,.const (.map none)=>true
 | .func _ _ _,.const .nilFunc=>true
 | _,_=>false
def eqV(C:Ctx)(H:Heap)(t:TypeId)(x y:AV)(xo yo:Operand):Option Bool :=
 match x,y with
 | .bool a,.bool b=>if und C t matches .bool then some (a==b)else none
 | .agg (.pc a),.agg (.pc b)=>if Jj C t&&!C.P.eqGuardType C.P.depth t then uI C 6 t a b else none
 | _,_=>if jW C t yo then isNil C H t x else if jW C t xo then isNil C H t y else none
def Iq(C:Ctx)(H:Heap)(op:BinOp)(t:TypeId)(x y:AV)(xo yo:Operand):Option AV :=
 match x,y with
 | .int k a,.int k' b=>
  match op with
  | .shl | .shr=>KJ op k a b
  | _=>if k=k' then arith op k a b else none
 | .str a,.str b=>Tf op a b
 | _,_=>match op with
  | .eql=>(eqV C H t x y xo yo).map .bool
  | .neq=>(eqV C H t x y xo yo).map fun b=>.bool (!b)
  | _=>none
def unV(op:UnOp)(x:AV):Option AV :=
 match op,x with
 | .neg,.int k n=>arith .sub k 0 n
 | .xor,.int k n=>arith .xor k (if k.signed then -1 else k.max) n
 | .not,.bool b=>some (.bool !b)
 | _,_=>none
def KR(C:Ctx)(t:TypeId):Bool :=
 match und C t with
 | .string=>true
 | _=>false
def gI(C:Ctx)(e:TypeId):Bool :=
 match und C e with
 | .int .u8=>true
 | _=>false
def wI(C:Ctx)(H:Heap)(s d:TypeId)(x:AV):Option (AV×Heap) :=
 if okT C s=false then none else
 match und C d,x with
 | .int k,.int _ n=>some (.int k (k.wrap n),H)
 | .string,.str b=>some (.str b,H)
 | .string,_=>match und C s with
  | .slice e=>if gI C e then match uF H x with
   | some (.pb l)=>some (.str l,H)
   | some .pn=>some (.str [],H)
   | _=>none
   else none
  | _=>none
 | .slice e,.str b=>if gI C e then some (.ro 2 (.pb b) 0,H)else none
 | .slice e,.ro 1 p 0=>if s=d/\gI C e=true/\ah p≠0 then some (.ro 1 p 0,H)else none
 | _,_=>none
-- memory
def cu(C:Ctx)(t:TypeId):Bool :=
 match und C t with
 | .array _ _=>true
 | _=>false
def Ir(C:Ctx)(t:TypeId)(p:AV)(i f:Nat):Option AV :=
 let n:=sizeT C t
 if n=0 then none else
 match p with
 | .pr _ l=>if cu C t=true/\i=0/\f=0/\ah p*aS p=n then some p else
  match l[i]? with
  | some (.pc r)=>if cu C t=false/\f=0/\r.length=n then some (.pc r)
   else if((r.drop f).take n).length=n then nV C t ((r.drop f).take n)else none
  | _=>none
 | .pc l=>if i=0/\f=0/\l.length=n then nV C t l
  else if((l.drop (i+f)).take n).length=n then nV C t ((l.drop (i+f)).take n)else none
 | .pb l=>if i=0/\f=0/\l.length=n then some p else none
 | .pi _ l=>if i=0/\f=0/\l.length=n then some p else none
 | _=>none
def nZ(t:Nat):List AV->List AV
 | []=>[]
 | v::r=>retag t v::nZ t r
def xI(t:Nat):List AV->List AV
 | []=>[]
 | .pc r::l=>.pc (nZ t r)::xI t l
 | a::l=>a::xI t l
def xE(t:Nat):AV->AV
 | .pc l=>.pc (nZ t l)
 | .pr e l=>.pr e (xI t l)
 | p=>p
def wH(C:Ctx)(H:Heap)(t:TypeId)(a:AV):Option AV :=
 if okT C t=false then none else
 match a with
 | .ptr o i f g=>match live H o g with
  | some ob=>
   if ob.ids then(if bI C t then(Ir C t ob.p i f).map .agg else KL ob.p i f)
   else if bI C t then(Ir C t ob.p i f).map fun q=>.agg (xE ob.tg q)else(KL ob.p i f).map (retag ob.tg)
  | none=>none
 | .jl p i f tg=>if bI C t then(Ir C t p i f).map fun q=>.agg (xE tg q)else(KL p i f).map (retag tg)
 | _=>none
def splice(l:List AV)(i:Nat)(c:List AV):List AV:=l.take i++c++l.drop (i+c.length)
def jD:AV->Option (List AV)
 | .pb l=>some (l.map qP)
 | .pi k l=>some (l.map (.int k))
 | .pc l=>some l
 | _=>none
def MV(p:AV)(i f:Nat)(q:AV):Option AV :=
 match p,q with
 | .pb l,.pb m=>if i=0/\f=0/\l.length=m.length then some q else none
 | .pi k l,.pi k' m=>if k=k'/\i=0/\f=0/\l.length=m.length then some q else none
 | .pr e l,.pr e' m=>if e=e'/\i=0/\f=0/\l.length=m.length then some q else none
 | .pr e l,q=>match jD q,l[i]? with
  | some c,some (.pc r)=>if f+c.length<=r.length/\scalars c=true then some (.pr e (l.set i (.pc (splice r f c))))else none
  | _,_=>none
 | .pc l,q=>match jD q with
  | some c=>if i+f+c.length<=l.length/\scalars c=true then some (.pc (splice l (i+f) c))else none
  | none=>none
 | _,_=>none
def aV(p:AV):Nat:=ah p*aS p
def AU(C:Ctx)(ob:Obj)(t:TypeId)(i f:Nat)(v:AV):Option AV :=
 match v with
 | .agg q=>if aV q=sizeT C t/\bI C t=true/\sizeT C t≠0 then MV ob.p i f q else none
 | v=>if bI C t=false/\okT C t=true/\sizeT C t=1/\scalar v=true then UQ ob.p i f v else none
def zG(C:Ctx)(H:Heap)(t:TypeId)(a v:AV):Option Heap :=
 match a with
 | .ptr o i f g=>match live H o g with
  | none=>none
  | some ob=>
   if ob.ids then(AU C ob t i f v).map fun p=>upd H o (some { ob with p:=p })
   else match rE H v with
    | none=>none
    | some (v,H)=>match live H o g with
     | none=>none
     | some ob=>
      if(ids v).isEmpty=true/\ob.ids=false then
       match bY (tags v)with
       | none=>none
       | some tv=>match dJ ob.tg tv with
        | none=>none
        | some tg=>(AU C ob t i f v).map fun p=>upd H o (some { ob with p:=p,tg:=tg })
      else none
 | _=>none
def tZ:AV->Bool
 | .pb _=>false
 | .pi _ _=>false
 | .pn=>false
 | _=>true
def jv(H:Heap)(p:AV):AV×Heap:=(.ptr H.length 0 0 0,H++[some ⟨p,0,some (ah p),1,false,tZ p,0⟩])
def tY(v:AV):Option AV :=
 match v with
 | .agg p=>some p
 | v=>if scalar v then some (.pc [v])else none
def fieldsOf(C:Ctx)(t:TypeId):List Field :=
 match und C t with
 | .struct fs=>fs.toList
 | _=>[]
def AL(p:AV)(o i f g d:Nat):AV :=
 match p with
 | .pr _ _=>.ptr o i (f+d) g
 | _=>.ptr o (i+d) f g
def AO(p:AV)(i f t d:Nat):AV :=
 match p with
 | .pr _ _=>.jl p i (f+d) t
 | _=>.jl p (i+d) f t
def bF(C:Ctx)(H:Heap)(s:TypeId)(x:AV)(n:Nat):Option AV :=
 match(fieldsOf C s)[n]? with
 | none=>none
 | some fd=>if sizeT C fd.type=0 then none else
  match x with
  | .ptr o i f g=>match live H o g with|some ob=>some (AL ob.p o i f g fd.offset)|none=>none
  | .jl p i f t=>some (AO p i f t fd.offset)
  | _=>none
def mM(C:Ctx)(H:Heap)(t:TypeId)(x ix:AV):Option AV :=
 match ix with
 | .int _ n=>
  match und C t,x with
  | .array len e,.ptr o i f g=>match live H o g with
   | some ob=>if 0<=n/\n<len/\0<sizeT C e then
    match ob.p with
    | .pr es _=>if f=0/\es=sizeT C e then some (.ptr o (i + n.toNat) 0 g)else some (.ptr o i (f + n.toNat * sizeT C e) g)
    | _=>some (.ptr o (i + n.toNat * sizeT C e) f g)
    else none
   | none=>none
  | .array len e,.jl p i f tg=>if 0<=n/\n<len/\0<sizeT C e then
   match p with
   | .pr es _=>if f=0/\es=sizeT C e then some (.jl p (i + n.toNat) 0 tg)else some (.jl p i (f + n.toNat * sizeT C e) tg)
   | _=>some (.jl p (i + n.toNat * sizeT C e) f tg)
   else none
  | .slice e,.sl o off len g=>match live H o g with
   | some ob=>if 0<=n/\n<len/\aS ob.p=sizeT C e then some (.ptr o (off+n.toNat) 0 g)else none
   | none=>none
  | .slice e,.ro _ p tg=>if 0<=n/\n<ah p/\aS p=sizeT C e then some (.jl p n.toNat 0 tg)else none
  | _,_=>none
 | _=>none
def bound(y d:Nat):Option AV->Option Nat
 | none=>some d
 | some (.int _ n)=>if 0<=n/\n<=y then some n.toNat else none
 | _=>none
def gY(C:Ctx)(H:Heap)(t:TypeId)(x:AV)(lo hi:Option AV):Option AV :=
 match x with
 | .str s=>if KR C t=true then
  match bound s.length s.length hi with
  | some h=>match bound h 0 lo with
   | some l=>some (.str ((s.drop l).take (h-l)))
   | none=>none
  | none=>none
  else none
 | .ro c p tg=>match und C t with
  | .slice e=>if(aS p=sizeT C e\/ah p=0)/\0<sizeT C e then
   match bound (ah p) (ah p) hi with
   | some h=>match bound h 0 lo with
    | some l=>(gq p l (h-l)).map fun q=>.ro (if c=0 then 0 else if hi.isNone then c else 2) q tg
    | none=>none
   | none=>none
   else none
  | _=>none
 | .sl o off len g=>match und C t,live H o g with
  | .slice e,some ob=>if aS ob.p=sizeT C e/\0<sizeT C e then
   match bound (ah ob.p-off) len hi with
   | some h=>match bound h 0 lo with
    | some l=>some (.sl o (off+l) (h-l) g)
    | none=>none
   | none=>none
   else none
  | _,_=>none
 | .ptr o 0 0 g=>match und C t,live H o g with
  | .array n e,some ob=>if aS ob.p=sizeT C e/\0<sizeT C e/\ah ob.p=n/\ob.row=false/\ob.z≠0 then
   match bound n n hi with
   | some h=>match bound h 0 lo with
    | some l=>some (.sl o l (h-l) g)
    | none=>none
   | none=>none
   else none
  | _,_=>none
 | _=>none
def eF:AV->List AV
 | .agg q=>cellsOf q
 | v=>[v]
def kF(C:Ctx)(e:TypeId)(n:Nat):Option AV :=
 let z:=bD C e
 let zl:=eF z
 if zl.length=sizeT C e/\scalars zl=true/\(aC zl).isEmpty=true/\(aW zl).all (·==0)=true then
  match und C e,zl with
  | .int .u8,[.int .u8 0]=>some (.pb (List.replicate n 0))
  | .int k,[.int k' m]=>if k=k' then some (.pi k (List.replicate n m))else none
  | .int _,_=>none
  | .struct _,_ | .array _ _,_=>some (.pr (sizeT C e) (List.replicate n (.pc zl)))
  | _,[a]=>some (.pc (List.replicate n a))
  | _,_=>none
 else none
def fP(C:Ctx)(H:Heap)(t:TypeId)(l c:AV):Option (AV×Heap) :=
 match und C t,l,c with
 | .slice e,.int .i64 l,.int .i64 c=>
  if 0<=l/\l<=c/\c<=9223372036854775807/\(bH C e:Int)*c<=140737488355328/\0<sizeT C e then
   (kF C e l.toNat).map fun p=>(.sl H.length 0 l.toNat 0,H++[some (rowOf p (some c.toNat) 1)])
  else none
 | _,_,_=>none
def ng:List AV->List (Nat×Nat×AV)->Option (List AV)
 | c,[]=>some c
 | c,(off,size,v)::r=>
  if(eF v).length=size/\off+size<=c.length/\scalars (eF v)=true then ng (splice c off (eF v)) r else none
def vT(C:Ctx)(fs:List Field):List (Nat×AV)->Option (List (Nat×Nat×AV))
 | []=>some []
 | (i,v)::r=>match fs[i]? with
  | some f=>(vT C fs r).map ((f.offset,sizeT C f.type,v)::·)
  | none=>none
def known(C:Ctx)(t:TypeId):Bool:=(C.P.info? t).isSome
def lH(C:Ctx)(t:TypeId)(parts:List (Nat×AV)):Option AV :=
 match bD C t with
 | .agg z=>if scalars (cellsOf z)=true then match und C t with
  | .struct fs=>if fs.toList.all (fun f=>known C f.type)=true then
   ((vT C fs.toList parts).bind (ng (cellsOf z))).bind fun c=>(nV C t c).map .agg
   else none
  | .array _ e=>if known C e=true then
   (ng (cellsOf z) (parts.map fun(i,v)=>(i*sizeT C e,sizeT C e,v))).bind fun c=>(nV C t c).map .agg
   else none
  | _=>none
  else none
 | _=>none
def iY(es:Nat):List AV->List (Nat×AV)->Option (List AV)
 | l,[]=>some l
 | l,(i,v)::r=>if i<l.length/\(eF v).length=es/\scalars (eF v)=true then iY es (l.set i v) r else none
def qN(C:Ctx)(e:TypeId)(l:List AV):Option AV :=
 match mkRow C e l,bY (aW l)with
 | some p,some tg=>some (.ro 1 p tg)
 | _,_=>none
def bT(C:Ctx)(H:Heap)(t:TypeId)(n:Nat)(parts:List (Nat×AV)):Option (AV×Heap) :=
 match und C t with
 | .slice e=>if n*sizeT C e<=16777216/\0<sizeT C e/\(eF (bD C e)).length=sizeT C e/\scalars (eF (bD C e))=true then
  match iY (sizeT C e) (List.replicate n (bD C e)) parts with
  | none=>none
  | some l=>
   if(aC l).isEmpty then(qN C e l).map fun v=>(v,H)
   else if Qk C 6 e then none
   else match lU H l with
   | none=>none
   | some (l,H)=>
    if(aC l).isEmpty then(qN C e l).map fun v=>(v,H)
    else(mkRow C e l).map fun p=>(.sl H.length 0 n 0,H++[some ⟨p,0,some n,1,true,true,0⟩])
  else none
 | _=>none
def fO(C:Ctx)(t:TypeId)(x:AV)(n:Nat):Option AV :=
 match x,(fieldsOf C t)[n]? with
 | .agg (.pc l),some fd=>
  if bI C fd.type then
   if((l.drop fd.offset).take (sizeT C fd.type)).length=sizeT C fd.type then(nV C fd.type ((l.drop fd.offset).take (sizeT C fd.type))).map .agg else none
  else if okT C fd.type then l[fd.offset]? else none
 | _,_=>none
def Qq(C:Ctx)(t:TypeId)(x ix:AV):Option AV :=
 match ix with
 | .int _ n=>match x with
  | .str s=>if KR C t=true then(if 0<=n then(s[n.toNat]?).map qP else none)else none
  | .agg p=>match und C t with
   | .array len e=>if 0<=n/\n<len/\aS p=sizeT C e then
    (if bI C e then(match p with | .pr _ l=>(l[n.toNat]?).map .agg|_=>none)else if okT C e then KL p n.toNat 0 else none)else none
   | _=>none
  | _=>none
 | _=>none
-- maps
def oM:AV->AV->Option Bool
 | .int k a,.int k' b=>if k=k' then some (a==b)else none
 | .str a,.str b=>some (a==b)
 | .bool a,.bool b=>some (a==b)
 | .agg (.pb a),.agg (.pb b)=>if a.length=b.length then some (a==b)else none
 | _,_=>none
def qO(k:AV):List AV->Nat->Option (Option (Nat×AV))
 | [],_=>some none
 | .pc [k',v]::r,i=>match oM k k' with
  | some true=>some (some (i,v))
  | some false=>qO k r (i+1)
  | none=>none
 | _,_=>none
def Fh(C:Ctx)(t:TypeId)(k:AV):Bool :=
 match und C t with
 | .map kt _=>match und C kt,k with
  | .int k1,.int k2 _=>decide (k1=k2)
  | .string,.str _=>true
  | .bool,.bool _=>true
  | .array n e,.agg (.pb l)=>gI C e&&decide (l.length=n)&&decide (sizeT C e=1)
  | _,_=>false
 | _=>false
def oO(C:Ctx)(t:TypeId):TypeId :=
 match und C t with
 | .map _ e=>e
 | _=>0
def oP:AV->Bool
 | .tup _=>false
 | _=>true
def aef:AV->Bool
 | .top=>false
 | _=>true
def vU(C:Ctx)(t:TypeId)(k:AV):Bool:=Fh C t k&&(aef (bD C (oO C t))&&oP (bD C (oO C t)))
def lY(C:Ctx)(H:Heap)(t:TypeId)(x k:AV)(ok:Bool):Option AV :=
 if vU C t k=false then none else
 let ans (v:AV) (b:Bool):AV:=if ok then .tup [v,.bool b]else v
 match x with
 | .iL=>some (ans (bD C (oO C t)) false)
 | .map o g=>match live H o g with
  | some ob=>match ob.p with
   | .pm l=>match qO k l 0 with
    | some (some (_,v))=>some (ans v true)
    | some none=>some (ans (bD C (oO C t)) false)
    | none=>none
   | _=>none
  | none=>none
 | _=>none
def vV(C:Ctx)(H:Heap)(t:TypeId)(x k v:AV):Option Heap :=
 if(Fh C t k&&oP v)=false then none else
 match x with
 | .map o g=>match live H o g with
  | some ob=>match ob.p with
   | .pm l=>match qO k l 0 with
    | some (some (i,_))=>some (upd H o (some { ob with p:=.pm (l.set i (.pc [k,v])) }))
    | some none=>some (upd H o (some { ob with p:=.pm (l++[.pc [k,v]]) }))
    | none=>none
   | _=>none
  | none=>none
 | _=>none
def uJ(C:Ctx)(H:Heap)(t:TypeId)(x k:AV):Option (AV×Heap) :=
 if vU C t k=false then none else
 match x with
 | .map o g=>match live H o g with
  | some ob=>match ob.p with
   | .pm l=>match qO k l 0 with
    | some (some (i,v))=>some (.tup [v,.int .i64 i],H)
    | some none=>let z:=bD C (oO C t)
     some (.tup [z,.int .i64 l.length],upd H o (some { ob with p:=.pm (l++[.pc [k,z]]) }))
    | none=>none
   | _=>none
  | none=>none
 | _=>none
def iD(H:Heap)(x s v:AV):Option Heap :=
 if oP v=false then none else
 match x,s with
 | .map o g,.int .i64 n=>match live H o g with
  | some ob=>match ob.p with
   | .pm l=>if 0<=n then match l[n.toNat]? with
    | some (.pc [k,_])=>some (upd H o (some { ob with p:=.pm (l.set n.toNat (.pc [k,v])) }))
    | _=>none
    else none
   | _=>none
  | none=>none
 | _,_=>none
-- builtins
def lenV(C:Ctx)(H:Heap)(t:TypeId)(x:AV):Option Int :=
 match und C t,x with
 | .string,.str s=>some s.length
 | .array n _,_=>some n
 | .slice _,.ro _ p _=>some (ah p)
 | .slice _,.sl o _ len g=>match live H o g with|some _=>some len|none=>none
 | .map _ _,.iL=>some 0
 | .map _ _,.map o g=>match live H o g with
  | some ob=>match ob.p with | .pm l=>some l.length|_=>none
  | none=>none
 | _,_=>none
def KT(C:Ctx)(t:TypeId):Bool :=
 match und C t with
 | .map _ _=>true
 | _=>false
def Nl(C:Ctx)(H:Heap)(t:TypeId)(x:AV):Option Int :=
 match und C t,x with
 | .slice _,.ro 0 _ _=>some 0
 | .slice _,.ro 1 p _=>some (ah p)
 | .slice _,.sl o off _ g=>match live H o g with
  | some ob=>match ob.cap with|some c=>some ((c:Int)-off)|none=>none
  | none=>none
 | _,_=>none
def kH(p:AV)(t:Nat):Nat :=
 match p with
 | .pc _ | .pr _ _=>t
 | _=>0
def jq:AV->Bool
 | .pn | .pb _ | .pi _ _ | .pc _=>true
 | .pr e _=>e != 0
 | _=>false
def gJ(H:Heap):AV->Option (AV×Nat)
 | .str s=>some (.pb s,0)
 | .ro _ p t=>if jq p then some (p,kH p t)else none
 | .sl o off len g=>match live H o g with
  | some ob=>if ob.ids then none else match gq ob.p off len with
   | some p=>if jq p then some (p,kH p ob.tg)else none
   | none=>none
  | none=>none
 | _=>none
def dQ(C:Ctx)(e:TypeId)(n:Nat):Bool:=decide (n*bH C e<=140737488355328/\n<=4611686018427387904)
def bM(C:Ctx)(e:TypeId):Bool :=
 match(C.P.info? e).bind (·.zero)with
 | some z=>z.cells.size==sizeT C e
 | none=>false
def bZ(C:Ctx)(t:TypeId):Bool :=
 match und C t with
 | .int _=>true
 | _=>false
def bG(C:Ctx)(H:Heap)(t:TypeId)(s x:AV):Option (AV×Heap) :=
 match und C t with
 | .slice e=>
  if sizeT C e=0\/bM C e=false then none else
  match gJ H x with
  | none=>none
  | some (ys,tx)=>
   match s with
   | .ro c p tg=>
    if c<=1/\jq p=true/\dQ C e (ah p+ah ys)=true then
     if ah p=0 then
      match l9 (dh C e) ys with
      | some q=>if aS q=sizeT C e then some (.sl H.length 0 (ah ys) 0,H++[some ⟨q,0,none,c,true,false,tx⟩])else none
      | none=>none
     else if ah ys=0 then some (s,H)
     else if aS p=sizeT C e/\c=1 then
      match l9 p ys,dJ (kH p tg) tx with
      | some q,some tg'=>if aS q=sizeT C e then some (.sl H.length 0 (ah p+ah ys) 0,H++[some ⟨q,0,none,1,true,false,tg'⟩])else none
      | _,_=>none
     else none
    else none
   | .sl o off len g=>match live H o g with
    | none=>none
    | some ob=>
     if ob.row=true/\ob.ids=false/\off+len=ah ob.p/\aS ob.p=sizeT C e/\dQ C e (len+ah ys)=true then
      match gq ob.p off len with
      | none=>none
      | some p0=>match l9 p0 ys,dJ ob.tg tx with
       | some q,some tg'=>if aS q≠sizeT C e then none else
        let cap':=match ob.cap with|some c=>if off+len+ah ys<=c then some (c-off)else none|none=>none
        some (.sl o 0 (len+ah ys) (g+1),upd H o (some { ob with p:=q,g:=g+1,cap:=cap',z:=(if ah ob.p=0 then ob.z else 1),tg:=tg' }))
       | _,_=>none
     else none
   | _=>none
 | _=>none
def kP(isMax:Bool):AV->List AV->Option AV
 | x,[]=>some x
 | .int k a,.int k' b::r=>if k=k' then kP isMax (.int k (if isMax then(if b>a then b else a)else(if b<a then b else a))) r else none
 | _,_=>none
def copyV(C:Ctx)(H:Heap)(t:TypeId)(s x:AV):Option (AV×Heap) :=
 match und C t with
 | .slice e=>match s,x with
  | .sl o off len g,.ro _ (.pb l) _=>match live H o g with
   | some ob=>match ob.p with
    | .pb m=>if ob.ids=false/\sizeT C e=1/\okT C e=true/\l.length<=len/\0<len/\off+len<=m.length then
     some (.int .i64 l.length,upd H o (some { ob with p:=.pb (m.take off++l++m.drop (off+l.length)) }))
     else none
    | _=>none
   | none=>none
  | _,_=>none
 | _=>none
def kR(C:Ctx)(H:Heap)(b:Builtin)(ts:List TypeId)(args:List AV):Option (AV×Heap) :=
 match b,ts,args with
 | .len,t::_,x::_=>(lenV C H t x).map fun n=>(.int .i64 n,H)
 | .cap,t::_,x::_=>(Nl C H t x).map fun n=>(.int .i64 n,H)
 | .append,t::u::_,[s,x]=>if okT C u=true/\bZ C u=false then bG C H t s x else none
 | .copy,t::_,[s,x]=>copyV C H t s x
 | .max,_,x::r=>(kP true x r).map fun v=>(v,H)
 | .min,_,x::r=>(kP false x r).map fun v=>(v,H)
 | _,_,_=>none
abbrev Cf:=Nat->List AV->Heap->Option (AV×Heap)
def fA(C:Ctx)(fr:Frame):List Operand->List TypeId->List AV
 | [],_=>[]
 | x::r,ts=>(match ts with|t::_=>gu C fr t x | []=>aJ C fr x)::fA C fr r ts.tail
def aI(C:Ctx)(f:Nat):List TypeId:=((C.P.funcs[f]?).map (·.params.toList)).getD []
def iJ(C:Ctx)(fr:Frame)(t:TypeId):List (Nat×Operand)->List (Nat×AV)
 | []=>[]
 | (i,x)::r=>(i,gu C fr t x)::iJ C fr t r
def abg(C:Ctx)(t:TypeId):TypeId :=
 match und C t with
 | .slice e=>e
 | .array _ e=>e
 | _=>0
def ak(C:Ctx)(H:Heap)(t:TypeId)(v:AV):AV×Heap :=
 match v,und C t with
 | .ro 0 .pn 0,.slice e=>(.sl H.length 0 0 0,H++[some (rowOf (dh C e) none 0)])
 | _,_=>(v,H)
def bodied (C : Ctx) (f : Nat) : Bool := ((C.P.funcs[f]?).map fun fn => fn.body.isSome && fn.name != "runtime.NumGoroutine").getD false
def uX(C:Ctx)(cf:Cf)(fr:Frame)(H:Heap)(c:Call):Option (AV×Heap) :=
 match c.callee with
 | .builtin b=>kR C H b c.argTypes.toList (fA C fr c.args.toList c.argTypes.toList)
 | .value x=>match aJ C fr x with
  | .fn f caps=>if bodied C f then cf f (fA C fr c.args.toList (aI C f)++caps) H else none
  | _=>none
 | .invoke _ _=>none
def Dk:Option AV->Bool
 | none=>true
 | some (.int _ _)=>true
 | _=>false
def uK(H:Heap):AV×Heap:=(.map H.length 0,H++[some ⟨.pm [],0,none,1,false,true,0⟩])
def step(C:Ctx)(cf:Cf)(fr:Frame)(H:Heap)(o:Oper):Option (AV×Heap) :=
 match o.op with
 | .move x=>some (gu C fr o.type x,H)
 | .assign x=>some (ak C H o.type (gu C fr o.type x))
 | .pick c a b=>match aJ C fr c with
  | .bool d=>some (if d then gu C fr o.type a else gu C fr o.type b,H)
  | _=>none
 | .alloc t=>(tY (bD C t)).map (jv H)
 | .box t x=>(tY (gu C fr t x)).bind fun p=>if aV p=sizeT C t then some (jv H p)else none
 | .build t parts=>(lH C t (iJ C fr 0 parts.toList)).map fun v=>(v,H)
 | .buildSlice t n parts=>bT C H t n (iJ C fr (abg C t) parts.toList)
 | .load t a=>(wH C H t (aJ C fr a)).map fun v=>(v,H)
 | .store t a x=>(zG C H t (aJ C fr a) (gu C fr t x)).map fun H=>(.top,H)
 | .nilCheck x=>match aJ C fr x with
  | .ptr o i f g=>match live H o g with|some _=>some (.ptr o i f g,H)|none=>none
  | .jl p i f t=>some (.jl p i f t,H)
  | _=>none
 | .binOp op t x y _=>(Iq C H op t (gu C fr t x) (gu C fr t y) x y).map fun v=>(v,H)
 | .unOp op _ x=>(unV op (aJ C fr x)).map fun v=>(v,H)
 | .convert s d x=>wI C H s d (gu C fr s x)
 | .makeFunc (.func f) first caps=>if first.size=0/\scalars (caps.toList.map (aJ C fr))=true then some (.fn f (caps.toList.map (aJ C fr)),H)else none
 | .makeMap t r=>if KT C t=true/\Dk (r.map (aJ C fr))=true then some (uK H)else none
 | .insert t m k v | .mapUpdate t m k v=>(vV C H t (aJ C fr m) (aJ C fr k) (gu C fr (oO C t) v)).map fun H=>(.top,H)
 | .makeSlice t l c=>fP C H t (aJ C fr l) (aJ C fr c)
 | .slice t x lo hi mx=>if mx.isNone then(gY C H t (gu C fr t x) (lo.map (aJ C fr)) (hi.map (aJ C fr))).map fun v=>(v,H)else none
 | .fieldAddr s x n=>(bF C H s (aJ C fr x) n).map fun v=>(v,H)
 | .field t x n=>(fO C t (gu C fr t x) n).map fun v=>(v,H)
 | .indexAddr t x ix=>(mM C H t (aJ C fr x) (aJ C fr ix)).map fun v=>(v,H)
 | .index t x ix=>(Qq C t (gu C fr t x) (aJ C fr ix)).map fun v=>(v,H)
 | .lookup t x k ok=>(lY C H t (aJ C fr x) (aJ C fr k) ok).map fun v=>(v,H)
 | .mapEntry t m k=>uJ C H t (aJ C fr m) (aJ C fr k)
 | .entryStore _ m s v=>(iD H (aJ C fr m) (aJ C fr s) (gu C fr o.type v)).map fun H=>(.top,H)
 | .extract t i=>match aJ C fr t with
  | .tup l=>(l[i]?).map fun v=>(v,H)
  | _=>none
 | .call c=>uX C cf fr H c
 | _=>none
-- regions
def jU(fr:Frame)(d:Option Nat)(v:AV):Frame :=
 match d with
 | some d=>(d,v)::fr
 | none=>fr
def lq(ops:Array Oper)(fr:Frame)(o:Oper):Option Bool :=
 match o.guard with
 | none=>some true
 | some (j,want)=>match(ops[j]?).bind (·.dst)with
  | some d=>match aB fr d with
   | .bool b=>some (b==want)
   | .tup []=>some false
   | _=>none
  | none=>none
def AQ(nt:Nat):Option Nat->Bool
 | some d=>decide (d<nt)
 | none=>true
def mG(C:Ctx)(cf:Cf)(nt:Nat)(ops:Array Oper):List Oper->Frame->Heap->Option (Frame×Heap)
 | [],fr,H=>some (fr,H)
 | o::r,fr,H=>if AQ nt o.dst then match lq ops fr o with
  | some true=>match step C cf fr H o with
   | some (v,H')=>mG C cf nt ops r (jU fr o.dst v) H'
   | none=>none
  | some false=>mG C cf nt ops r (jU fr o.dst (.tup [])) H
  | none=>none
  else none
-- a region that draws its order
def looks(ops:Array Oper)(o:Oper):List Nat :=
 (o.op.operands.toList.filterMap fun | .tmp t=>some t|_=>none)++
 (match o.guard with
 | some (g,_)=>((ops[g]?).bind (·.dst)).toList
 | none=>[])
def nS(C:Ctx)(o:Oper):Bool :=
 match o.op with
 | .move _ | .pick .. | .build .. | .unOp .. | .field .. | .index .. | .extract .. | .makeFunc ..=>true
 | .binOp _ t _ _ _=>kL C t
 | .convert _ d _=>match und C d with | .int _=>true|_=>false
 | .assign _=>match und C o.type with | .slice _=>false|_=>true
 | .call c=>match c.callee with
  | .builtin .max | .builtin .min=>true
  | _=>false
 | _=>false
def jY(C:Ctx)(o:Oper):Bool :=
 match o.op with
 | .load .. | .nilCheck _ | .binOp .. | .convert .. | .slice .. | .fieldAddr .. | .indexAddr .. | .lookup ..=>true
 | .buildSlice t _ _=>match und C t with | .slice e=>Qk C 6 e|_=>false
 | .call c=>match c.callee with
  | .builtin .len | .builtin .cap=>true
  | _=>false
 | _=>nS C o
def Fj(i:Nat)(o:Oper):Bool:=o.after.toList.all fun e=>!Region.binds .any e||decide (e.on<i)
def lV:Nat->List Oper->Bool
 | _,[]=>true
 | i,o::r=>Fj i o&&lV (i+1) r
def oh(ops:Array Oper)(x y:Oper):Bool :=
 (match x.dst with
 | some d=>!(looks ops y).contains d&&y.dst != some d
 | none=>true)&&
 (match y.dst with
 | some d=>!(looks ops x).contains d
 | none=>true)
def Qr(C:Ctx)(ops:Array Oper)(x y:Oper):Bool:=oh ops x y&&(nS C x||nS C y||(jY C x&&jY C y))
def Qs(C:Ctx)(ops:Array Oper):Bool :=
 let b:=Region.before ops
 lV 0 ops.toList&&(List.range ops.size).all fun j=>(List.range j).all fun i=>
  (b.getD j 0).testBit i||(match ops[i]?,ops[j]? with|some x,some y=>Qr C ops x y|_,_=>false)
def yK(ops:Array Oper):Bool :=
 let b:=Region.before ops
 lV 0 ops.toList&&(List.range ops.size).all fun j=>(List.range j).all fun i=>
  (b.getD j 0).testBit i||(match ops[i]?,ops[j]? with|some x,some y=>oh ops x y|_,_=>false)
def jL(C:Ctx)(f:Nat):Code->Bool
 | .region id ops draw=>!draw || (if C.dy f id then yK ops else(!C.dr f id || Qs C ops))
 | .seq a b=>jL C f a&&jL C f b
 | .cond _ a b=>jL C f a&&jL C f b
 | .block _ c=>jL C f c
 | .loop c=>jL C f c
 | _=>true
def disjoint:List Nat->List Nat->Bool
 | [],_=>true
 | a::r,l=>!l.contains a&&disjoint r l
def reach(H:Heap):Nat->List Nat->List Nat->List Nat
 | 0,_,acc=>acc
 | _,[],acc=>acc
 | n+1,o::r,acc=>
  if acc.contains o then reach H n r acc else
  match H[o]? with
  | some (some ob)=>reach H n ((if ob.ids then ids ob.p else[])++r) (acc++[o])
  | _=>reach H n r acc
def aA:Nat:=100000
def dF(l:List Nat)(fr:Frame):Frame:=l.map fun i=>(i,aB fr i)
-- norm: what cannot be reached goes,the rest is named anew
def idxOf(l:List Nat)(o:Nat)(i:Nat):Option Nat :=
 match l with
 | []=>none
 | a::r=>if a=o then some i else idxOf r o (i+1)
def aQ(ρ:Nat->Nat->Option (Nat×Nat))(τ:Nat->Nat)(g:Nat)(ob:Obj):Obj :=
 { ob with g:=g,p:=ren ρ τ ob.p,tg:=τ ob.tg }
def Qu:Frame->List Nat
 | []=>[]
 | (_,v)::r=>ids v++Qu r
def YT(ρ:Nat->Nat->Option (Nat×Nat))(τ:Nat->Nat):Frame->Frame
 | []=>[]
 | (i,v)::r=>(i,ren ρ τ v)::YT ρ τ r
def KU(m:Nat)(fr:Frame)(H:Heap):Frame×Heap :=
 let K:=reach H aA (List.range m++Qu fr) []
 let old:=(List.range m)
 let new:=K.filter fun o=>m<=o
 let ρ:Nat->Nat->Option (Nat×Nat):=fun o g=>
  match live H o g with
  | some _=>if o<m then some (o,g)else(idxOf new o m).map fun k=>(k,0)
  | none=>none
 let at' (o:Nat) (g:Nat->Nat):Option Obj:=match H[o]? with|some (some ob)=>some (aQ ρ id (g ob.g) ob)|_=>none
 (YT ρ id fr,old.map (fun o=>at' o id)++new.map (fun o=>at' o (fun _=>0)))
-- a call
structure fB where
 objs:List Nat
 tags:List Nat
def dS(H:Heap)(t:Nat):AV->Option (AV×fB)
 | .sl o off len g=>match live H o g with
  | some ob=>if ob.ids then none else
   (gq ob.p off len).map fun p=>(.ro (if ob.z=0/\ah ob.p=0 then 0 else 2) p t,⟨[o],[ob.tg]⟩)
  | none=>none
 | .ro c p t'=>some (.ro c p t,⟨[],[t']⟩)
 | .jl p i f t'=>some (.jl p i f t,⟨[],[t']⟩)
 | v=>if(tags v).isEmpty=true then some (v,⟨[],[]⟩)else none
def iC(H:Heap)(t:Nat):List AV->Option (List AV×fB)
 | []=>some ([],⟨[],[]⟩)
 | a::r=>match dS H t a,iC H t r with
  | some (a',x),some (r',y)=>some (a'::r',⟨x.objs++y.objs,x.tags++y.tags⟩)
  | _,_=>none
def dY(H:Heap)(t:Nat):AV->Option (AV×fB)
 | .agg (.pc l)=>(iC H t l).map fun(l',x)=>(.agg (.pc l'),x)
 | .fn f l=>(iC H t l).map fun(l',x)=>(.fn f l',x)
 | v=>dS H t v
def aH(C:Ctx)(f:Nat)(H:Heap):Nat->List AV->Option (List AV×List fB)
 | _,[]=>some ([],[])
 | i,a::r=>
  match(match C.rw f i,a with|true,.sl ..=>some (a,(⟨[],[]⟩:fB))|_,_=>dY H (i+1) a),aH C f H (i+1) r with
  | some (a',x),some (r',y)=>some (a'::r',x::y)
  | _,_=>none
-- what a drawing region's operations look at,and turn
inductive Mark where
 | none
 | look (l:List Nat)
 | touch (t:List Nat) (n:Nat)
 | stay (t c:List Nat) (e:Bool)
 | push (n:Nat)
def jr(C:Ctx)(fr:Frame)(o:Oper):List AV:=o.op.operands.toList.map (aJ C fr)
def gK(C:Ctx)(f:Nat)(args:List AV)(H:Heap):List Nat :=
 match aH C f H 0 args with
 | some (as,aN)=>reach H aA (aC as) []++aN.flatMap (·.objs)
 | none=>[]
def nT(H:Heap)(o:Nat):List Nat:=match H[o]? with|some (some ob)=>ids ob.p|_=>[]
def dM(C:Ctx)(f:Nat)(args:List AV)(H:Heap):List Nat :=
 aC args++match aH C f H 0 args with
 | some (as,aN)=>aC as++(reach H aA (aC as) []++(aN.flatMap (·.objs)++(reach H aA (aC as) []).flatMap (nT H)))
 | none=>[]
def iP(C:Ctx)(fr:Frame)(o:Oper):Option (Nat×List AV) :=
 match o.op with
 | .call c=>match c.callee with
  | .value x=>match aJ C fr x with
   | .fn f caps=>some (f,fA C fr c.args.toList (aI C f)++caps)
   | _=>none
  | _=>none
 | _=>none
def touched(C:Ctx)(fr:Frame)(H:Heap)(o:Oper):List Nat :=
 match iP C fr o with
 | some (f,args)=>gK C f args H
 | none=>aC (jr C fr o)
def mentioned(C:Ctx)(fr:Frame)(H:Heap)(o:Oper):List Nat :=
 match iP C fr o with
 | some (f,args)=>dM C f args H
 | none=>[]
def pushes(C:Ctx)(fr:Frame)(o:Oper):Bool :=
 match o.op with
 | .alloc _ | .box .. | .makeSlice .. | .makeMap ..=>true
 | .assign x=>(match gu C fr o.type x,und C o.type with
  | .ro 0 .pn 0,.slice _=>true
  | _,_=>false)
 | _=>false
def kK(o:Oper):Bool:=match o.op with | .assign _=>true|_=>false
def dw(C:Ctx)(ops:Array Oper)(fr:Frame)(H H':Heap)(o:Oper):Mark :=
 match lq ops fr o with
 | some true=>
  if nS C o then .none
  else if jY C o then .look (aC (jr C fr o))
  else if pushes C fr o then .push H.length
  else if kK o then .none
  else if(iP C fr o).isSome&&H'.length==H.length then .stay (touched C fr H o) (mentioned C fr H o) (eqH H H')
  else .touch (touched C fr H o) H.length
 | _=>.none
def oZ(l t:List Nat)(n:Nat):Bool:=disjoint l t&&l.all fun o=>decide (o<n)
def bear:Mark->Mark->Bool
 | .none,_=>true
 | _,.none=>true
 | .look _,.look _=>true
 | .look l,.touch t n=>oZ l t n
 | .touch t n,.look l=>oZ l t n
 | .look l,.stay t _ e=>disjoint l t || e
 | .stay t _ e,.look l=>disjoint l t || e
 | .stay _ _ e,.stay _ _ e'=>e&&e'
 | .look l,.push n=>!l.contains n
 | .push n,.look l=>!l.contains n
 | .push n,.stay _ c _=>!c.contains n
 | .stay _ c _,.push n=>!c.contains n
 | _,_=>false
def yJ(b:Array Nat)(ms:List Mark):Bool :=
 (List.range ms.length).all fun j=>(List.range j).all fun i=>
  (b.getD j 0).testBit i||(match ms[i]?,ms[j]? with|some x,some y=>bear x y|_,_=>false)
def KW(o:Oper):Bool :=
 match o.op,o.guard with
 | .makeSlice _ (.const (.int .i64 _)) (.const (.int .i64 _)),none=>o.dst.isSome
 | _,_=>false
def Qv(ops:Array Oper):Bool :=
 (match ops[0]?,ops[1]? with
 | some x,some y=>KW x&&(KW y&&decide (x.dst≠y.dst))
 | _,_=>false)&&(List.range ops.size).all fun j=>decide (j<2) || ((Region.before ops).getD j 0).testBit 0
def Gt(b:Array Nat)(ms:List Mark):Bool :=
 (List.range ms.length).all fun j=>(List.range j).all fun i=>
  decide (i<1)||((b.getD j 0).testBit i||(match ms[i]?,ms[j]? with|some x,some y=>bear x y|_,_=>false))
def out1(C:Ctx)(cf:Cf)(nt:Nat)(ops:Array Oper)(o:Oper)(fr:Frame)(H:Heap):Option (AV×Heap) :=
 if AQ nt o.dst then match lq ops fr o with
  | some true=>step C cf fr H o
  | some false=>some (.tup [],H)
  | none=>none
 else none
def jX(C:Ctx)(cf:Cf)(nt:Nat)(ops:Array Oper):List Oper->Frame->Heap->Option (Frame×Heap×List Mark)
 | [],fr,H=>some (fr,H,[])
 | o::r,fr,H=>match out1 C cf nt ops o fr H with
  | some (v,H')=>match jX C cf nt ops r (jU fr o.dst v) H' with
   | some (fr',H'',ms)=>some (fr',H'',dw C ops fr H H' o::ms)
   | none=>none
  | none=>none
-- code
inductive Ex where
 | normal
 | exit (id:Nat)
 | ret
 deriving Inhabited,DecidableEq
structure Out where
 ex:Ex
 fr:Frame
 H:Heap
def jk(C:Ctx)(f m id:Nat)(fr:Frame)(H:Heap):Out :=
 let fr:=match C.keep f id with|some l=>dF l fr|none=>fr
 if C.norm f id then let r:=KU m fr H;⟨.normal,r.1,r.2⟩else⟨.normal,fr,H⟩
def fF(C:Ctx)(f:Nat):Nat:=((C.P.funcs[f]?).map (·.ntmps)).getD 0
def qG(body:Frame->Heap->Option Out):Nat->Frame->Heap->Option Out
 | 0,_,_=>none
 | n+1,fr,H=>match body fr H with
  | some ⟨.normal,fr',H'⟩=>qG body n fr' H'
  | r=>r
def exec(C:Ctx)(cf:Cf)(f m n:Nat):Code->Frame->Heap->Option Out
 | .skip,fr,H=>some ⟨.normal,fr,H⟩
 | .region id ops draw,fr,H=>
  if draw&&C.dy f id then
   match jX C cf (fF C f) ops ops.toList fr H with
   | some (fr',H',ms)=>if yJ (Region.before ops) ms || (Qv ops&&Gt (Region.before ops) ms)then some (jk C f m id fr' H')else none
   | none=>none
  else if draw&&!C.dr f id then none else
  match mG C cf (fF C f) ops ops.toList fr H with
  | some (fr',H')=>some (jk C f m id fr' H')
  | none=>none
 | .seq a b,fr,H=>match exec C cf f m n a fr H with
  | some ⟨.normal,fr',H'⟩=>exec C cf f m n b fr' H'
  | r=>r
 | .cond c a b,fr,H=>match aJ C fr c with
  | .bool d=>if d then exec C cf f m n a fr H else exec C cf f m n b fr H
  | _=>none
 | .block id c,fr,H=>match exec C cf f m n c fr H with
  | some ⟨.exit id',fr',H'⟩=>if id'=id then some ⟨.normal,fr',H'⟩else some ⟨.exit id',fr',H'⟩
  | r=>r
 | .loop c,fr,H=>qG (exec C cf f m n c) n fr H
 | .exit id,fr,H=>some ⟨.exit id,fr,H⟩
 | .ret,fr,H=>some ⟨.ret,fr,H⟩
 | _,_,_=>none
-- a call's results
def coerce(C:Ctx):List AV->List TypeId->List AV
 | [],_=>[]
 | a::r,ts=>
  (match a,ts with
  | .ro c .pn t,ty::_=>(match und C ty with | .slice e=>.ro c (dh C e) t|_=>a)
  | _,_=>a)::coerce C r ts.tail
def numbered:Nat->List AV->Frame
 | _,[]=>[]
 | i,a::r=>(i,a)::numbered (i+1) r
def aT(C:Ctx)(fr:Frame)(H:Heap):List ResultVar->Option (List AV)
 | []=>some []
 | .tmp t::r=>(aT C fr H r).map (aB fr t::·)
 | .cell a t::r=>match wH C H t (aB fr a),aT C fr H r with
  | some v,some l=>some (v::l)
  | _,_=>none
def dB:List AV->Bool
 | []=>true
 | .tup _::_=>false
 | _::r=>dB r
def aG:List AV->AV
 | [v]=>v
 | l=>if dB l then .tup l else .top
def lX(C:Ctx)(cf:Cf)(n f:Nat)(args:List AV)(H:Heap):Option (AV×Heap) :=
 match C.P.funcs[f]? with
 | none=>none
 | some fn=>match fn.body with
  | none=>none
  | some c=>match exec C cf f H.length n c (numbered 0 args) H with
   | some ⟨.normal,fr,H'⟩|some ⟨.ret,fr,H'⟩=>(aT C fr H' fn.results.toList).map fun l=>(aG l,H')
   | _=>none
def dn(ob:Obj):List Nat:=if ob.ids then tags ob.p else ob.tg::(match ob.p with | .pm l=>aW l|_=>[])
def au:List (Option Obj)->List Nat
 | []=>[]
 | some ob::r=>dn ob++au r
 | none::r=>au r
def lu(ob:Obj):List Nat:=if !ob.ids&&(tags ob.p).isEmpty then[]else dn ob
def dD:List (Option Obj)->List Nat
 | []=>[]
 | some ob::r=>lu ob++dD r
 | none::r=>dD r
def Gu:AV->List Nat
 | .ro _ p t=>if ah p=0 then[]else[t]
 | a=>tags a
def uf:AV->List Nat
 | .tup l=>l.flatMap Gu
 | a=>Gu a
def dP(aN:List fB)(t:Nat):Option Nat :=
 if t=0 then some 0 else
 match aN[t-1]? with
 | some x=>bY x.tags
 | none=>none
def bW(aN:List fB)(t:Nat):Nat:=(dP aN t).getD 0
def dN(aN:List fB)(t:Nat):List Nat :=
 if t=0 then[]else match aN[t-1]? with|some x=>x.objs|none=>[]
def aP(H:Heap)(o:Nat):Option Obj:=(H[o]?).getD none
def dK(H:Heap)(π:List Nat)(k g:Nat):Nat :=
 (match π[k]? with|some o=>(match aP H o with|some ob=>ob.g|none=>0)|none=>0)+(if g=0 then 0 else 1)
def aY(H:Heap)(π new:List Nat)(H1:Heap)(o g:Nat):Option (Nat×Nat) :=
 match live H1 o g with
 | some _=>if o<π.length then(π[o]?).map fun o'=>(o',dK H π o g)else(idxOf new o H.length).map fun k=>(k,0)
 | none=>none
def bP(ρ:Nat->Nat->Option (Nat×Nat))(τ:Nat->Nat)(H:Heap)(π:List Nat)(H1:Heap):Nat->List Nat->Heap->Heap
 | _,[],B=>B
 | k,o::r,B=>bP ρ τ H π H1 (k+1) r (upd B o ((aP H1 k).map fun ob=>aQ ρ τ (dK H π k ob.g) ob))
def strike:List Nat->Heap->Heap
 | [],B=>B
 | o::r,B=>strike r (upd B o none)
def wrap(H:Heap)(π:List Nat)(aN:List fB)(v:AV)(H1:Heap):Option (AV×Heap) :=
 let K:=reach H1 aA (List.range π.length++ids v) []
 let new:=K.filter fun o=>π.length<=o
 let ρ:=aY H π new H1
 let used:=tags v++au ((List.range π.length).map (aP H1))++au (new.map (aP H1))
 let bind:=uf v++dD ((List.range π.length).map (aP H1))++dD (new.map (aP H1))
 if used.all fun t=>(dP aN t).isSome then
  some (ren ρ (bW aN) v,
   strike ((used.flatMap (dN aN)).filter fun o=>(bind.flatMap (dN aN)).contains o) (bP ρ (bW aN) H π H1 0 π H)++new.map fun o=>(aP H1 o).map (aQ ρ (bW aN) 0))
 else none
def bV(H:Heap)(π:List Nat)(o g:Nat):Option (Nat×Nat) :=
 match live H o g with
 | some _=>(idxOf π o 0).map fun k=>(k,0)
 | none=>none
def ku(C:Ctx)(body:Nat->List AV->Heap->Option (AV×Heap))(f:Nat)(args:List AV)(H:Heap):Option (AV×Heap) :=
 match aH C f H 0 args with
 | none=>none
 | some (as,aN)=>
  let π:=reach H aA (aC as) []
  let other:fB:=⟨[],au (π.map (aP H))⟩
  let n:=as.length
  if(aN.all fun x=>disjoint x.objs π)&&decide (n+1<dA)then
   match body f (coerce C (bU (bV H π) (fun t=>t) as) (aI C f)) (π.map fun o=>(aP H o).map (aQ (bV H π) (fun _=>n+1) 0))with
   | none=>none
   | some (v,H1)=>wrap H π (aN++[other]) v H1
  else none
def lT(C:Ctx):Nat->Cf
 | 0,_,_,_=>none
 | n+1,f,args,H=>ku C (lX C (lT C n) n) f args H
structure Pl where
 blk:Nat
 base:Nat
 cap:Nat
 deriving Inhabited
structure Kx where
 μ:Nat->Pl
 H:Heap
 w:World
def AX(c n:Nat)(ad:Option Addr)(cap:Nat):Prop :=
 n<=cap/\(c=0->ad=none/\cap=0)/\(c≠0->ad.isSome=true)/\(c=1->cap=n)
def rowLen:AV->Option Nat
 | .pc l=>some l.length
 | _=>none
mutual
def RV(w:World)(N:Nat->Prop):AV->Value->Prop
 | .top,_=>True
 | .bool b,v=>v=.bool b
 | .int k n,v=>v=.int k n
 | .str s,v=>v=.string ⟨⟨s⟩⟩
 | .gZ,v=>v=.pointer none
 | .jS,v=>v=.nilFunc
 | .iL,v=>v=.map none
 | .ro c p _,v=>∃ ad cap,v=.slice ad (ah p) cap/\AX c (ah p) ad cap /\
  ∀ a,ad=some a->ah p≠0->a.spot=none/\N a.block/\RP w N p (fun j=>w.cell? ⟨a.block,a.off+j,none⟩)
 | _,_=>False
def RP(w:World)(N:Nat->Prop):AV->(Nat->Option Value)->Prop
 | .pn,_=>True
 | .pb l,r=>∀ j b,l[j]?=some b->r j=some (.int .u8 b.toNat)
 | .pi k l,r=>∀ j n,l[j]?=some n->r j=some (.int k n)
 | .pc l,r=>RC w N l r 0
 | .pr e l,r=>0<e/\RR w N e l r 0
 | _,_=>False
def RC(w:World)(N:Nat->Prop):List AV->(Nat->Option Value)->Nat->Prop
 | [],_,_=>True
 | a::t,r,i=>(∃ v,r i=some v/\v.oneCell'=true/\RV w N a v)/\RC w N t r (i+1)
def RR(w:World)(N:Nat->Prop)(e:Nat):List AV->(Nat->Option Value)->Nat->Prop
 | [],_,_=>True
 | a::t,r,i=>(rowLen a=some e/\RP w N a (fun j=>r (i*e+j)))/\RR w N e t r (i+1)
end
def aeg(w:World)(N:Nat->Prop)(l:List AV)(r:Nat->Option Value)(i:Nat) :
 RC w N l r i ↔ ∀ j a,l[j]?=some a->∃ v,r (i+j)=some v/\v.oneCell'=true/\RV w N a v:=by
 induction l generalizing i with
 | nil=>simp[RC]
 | cons a t ih=>
  simp only[RC,ih];constructor
  .rintro ⟨h1,h2⟩ j b hb;cases j with
   | zero=>simp at hb;subst hb;simpa using h1
   | succ j=>simp at hb;have:=h2 j b hb;rwa [show i+1+j=i+(j+1)by omega]at this
  .intro h;refine⟨by simpa using h 0 a rfl,fun j b hb=>?_⟩;have:=h (j+1) b (by simpa using hb)
   rwa [show i+(j+1)=i+1+j by omega]at this
def aeh(w:World)(N:Nat->Prop)(e:Nat)(l:List AV)(r:Nat->Option Value)(i:Nat) :
 RR w N e l r i ↔ ∀ j a,l[j]?=some a->rowLen a=some e/\RP w N a (fun k=>r ((i+j)*e+k)):=by
 induction l generalizing i with
 | nil=>simp[RR]
 | cons a t ih=>
  simp only[RR,ih];constructor
  .rintro ⟨h1,h2⟩ j b hb;cases j with
   | zero=>simp at hb;subst hb;simpa using h1
   | succ j=>simp at hb;have:=h2 j b hb;rwa [show i+1+j=i+(j+1)by omega]at this
  .intro h;refine⟨by simpa using h 0 a rfl,fun j b hb=>?_⟩;have:=h (j+1) b (by simpa using hb)
   rwa [show i+(j+1)=i+1+j by omega]at this
def SY{w:World}{N:Nat->Prop}{l:List AV}{r:Nat->Option Value} :
 RP w N (.pc l) r ↔ ∀ j a,l[j]?=some a->∃ v,r j=some v/\v.oneCell'=true/\RV w N a v:=by
 rw[RP,aeg];simp
def aii{w:World}{N:Nat->Prop}{e:Nat}{l:List AV}{r:Nat->Option Value} :
 RP w N (.pr e l) r ↔ 0<e/\∀ j a,l[j]?=some a->rowLen a=some e/\RP w N a (fun k=>r (j*e+k)):=by
 rw[RP,aeh];simp
mutual
def ql{w w':World}{N N':Nat->Prop}(h:∀ b,N b->N' b/\∀ off v,w.cell? ⟨b,off,none⟩=some v->w'.cell? ⟨b,off,none⟩=some v) :
 (a:AV)->(v:Value)->RV w N a v->RV w' N' a v
 | .top,_,_=>trivial
 | .bool b,v,hv=>by simpa[RV]using hv
 | .int k n,v,hv=>by simpa[RV]using hv
 | .str s,v,hv=>by simpa[RV]using hv
 | .gZ,v,hv=>by simpa[RV]using hv
 | .jS,v,hv=>by simpa[RV]using hv
 | .iL,v,hv=>by simpa[RV]using hv
 | .ro c p t,v,hv=>by
  rw[RV]at hv ⊢;obtain⟨ad,cap,hv,hs,hr⟩:=hv;refine⟨ad,cap,hv,hs,fun a ha hn=>?_⟩;obtain⟨h1,h2,h3⟩:=hr a ha hn;exact⟨h1,(h _ h2).1,jM h p _ _ (fun j u hu=>(h _ h2).2 _ _ hu) h3⟩
 | .ptr ..,v,hv=>by simp[RV]at hv
 | .jl ..,v,hv=>by simp[RV]at hv
 | .sl ..,v,hv=>by simp[RV]at hv
 | .agg ..,v,hv=>by simp[RV]at hv
 | .tup ..,v,hv=>by simp[RV]at hv
 | .fn ..,v,hv=>by simp[RV]at hv
 | .map ..,v,hv=>by simp[RV]at hv
 | .pn,v,hv=>by simp[RV]at hv
 | .pb ..,v,hv=>by simp[RV]at hv
 | .pi ..,v,hv=>by simp[RV]at hv
 | .pc ..,v,hv=>by simp[RV]at hv
 | .pr ..,v,hv=>by simp[RV]at hv
 | .pm ..,v,hv=>by simp[RV]at hv
def jM{w w':World}{N N':Nat->Prop}(h:∀ b,N b->N' b/\∀ off v,w.cell? ⟨b,off,none⟩=some v->w'.cell? ⟨b,off,none⟩=some v) :
 (p:AV)->(r r':Nat->Option Value)->(∀ j u,r j=some u->r' j=some u)->RP w N p r->RP w' N' p r'
 | .pn,_,_,_,_=>trivial
 | .pb l,r,r',hr,hp=>by
  rw[RP]at hp ⊢;exact fun j b hb=>hr _ _ (hp j b hb)
 | .pi k l,r,r',hr,hp=>by
  rw[RP]at hp ⊢;exact fun j b hb=>hr _ _ (hp j b hb)
 | .pc l,r,r',hr,hp=>by
  rw[RP]at hp ⊢;exact Tv h l r r' 0 hr hp
 | .pr e l,r,r',hr,hp=>by
  rw[RP]at hp ⊢;exact⟨hp.1,Tz h e l r r' 0 hr hp.2⟩
 | .top,r,r',_,hp=>by simp[RP]at hp
 | .bool ..,r,r',_,hp=>by simp[RP]at hp
 | .int ..,r,r',_,hp=>by simp[RP]at hp
 | .str ..,r,r',_,hp=>by simp[RP]at hp
 | .gZ,r,r',_,hp=>by simp[RP]at hp
 | .ptr ..,r,r',_,hp=>by simp[RP]at hp
 | .jl ..,r,r',_,hp=>by simp[RP]at hp
 | .sl ..,r,r',_,hp=>by simp[RP]at hp
 | .ro ..,r,r',_,hp=>by simp[RP]at hp
 | .agg ..,r,r',_,hp=>by simp[RP]at hp
 | .tup ..,r,r',_,hp=>by simp[RP]at hp
 | .fn ..,r,r',_,hp=>by simp[RP]at hp
 | .jS,r,r',_,hp=>by simp[RP]at hp
 | .map ..,r,r',_,hp=>by simp[RP]at hp
 | .iL,r,r',_,hp=>by simp[RP]at hp
 | .pm ..,r,r',_,hp=>by simp[RP]at hp
def Tv{w w':World}{N N':Nat->Prop}(h:∀ b,N b->N' b/\∀ off v,w.cell? ⟨b,off,none⟩=some v->w'.cell? ⟨b,off,none⟩=some v) :
 (l:List AV)->(r r':Nat->Option Value)->(i:Nat)->(∀ j u,r j=some u->r' j=some u)->RC w N l r i->RC w' N' l r' i
 | [],_,_,_,_,_=>trivial
 | a::t,r,r',i,hr,hp=>by
  rw[RC]at hp ⊢;obtain⟨⟨v,h1,h2,h3⟩,h4⟩:=hp;exact⟨⟨v,hr _ _ h1,h2,ql h a v h3⟩,Tv h t r r' (i+1) hr h4⟩
def Tz{w w':World}{N N':Nat->Prop}(h:∀ b,N b->N' b/\∀ off v,w.cell? ⟨b,off,none⟩=some v->w'.cell? ⟨b,off,none⟩=some v) :
 (e:Nat)->(l:List AV)->(r r':Nat->Option Value)->(i:Nat)->(∀ j u,r j=some u->r' j=some u)->RR w N e l r i->RR w' N' e l r' i
 | _,[],_,_,_,_,_=>trivial
 | e,a::t,r,r',i,hr,hp=>by
  rw[RR]at hp ⊢;obtain⟨⟨h1,h2⟩,h4⟩:=hp;exact⟨⟨h1,jM h a _ _ (fun j u hu=>hr _ _ hu) h2⟩,Tz h e t r r' (i+1) hr h4⟩
end
def GP(S:AV->Value->Prop):AV->(Nat->Option Value)->Prop
 | .pn,_=>True
 | .pb l,r=>∀ j b,l[j]?=some b->r j=some (.int .u8 b.toNat)
 | .pi k l,r=>∀ j n,l[j]?=some n->r j=some (.int k n)
 | .pc l,r=>∀ j a,l[j]?=some a->∃ v,r j=some v/\v.oneCell'=true/\S a v
 | .pr e l,r=>0<e/\∀ j a,l[j]?=some a->∃ cs,a=.pc cs/\cs.length=e /\
  ∀ k b,cs[k]?=some b->∃ v,r (j*e+k)=some v/\v.oneCell'=true/\S b v
 | _,_=>False
def jE{w:World}{N:Nat->Prop}{p:AV}{r:Nat->Option Value}:RP w N p r ↔ GP (RV w N) p r:=by
 cases p<;>try (simp[RP,GP];done)
 case pc l=>rw[SY,GP]
 case pr e l=>
  rw[aii,GP];refine and_congr_right fun _=>forall_congr' fun j=>forall_congr' fun a=>?_;constructor
  .intro h ha;obtain⟨h1,h2⟩:=h ha;cases a<;>simp[rowLen]at h1
   case pc cs=>exact⟨cs,rfl,h1,SY.1 h2⟩
  .intro h ha;obtain⟨cs,rfl,h1,h2⟩:=h ha;exact⟨by simp[rowLen,h1],SY.2 h2⟩
def ig:AV->Bool
 | .pm _=>true
 | _=>false
def Real(ob:Obj)(m:Pl):Prop:=ig ob.p=true\/m.cap≠0
def Own(K:Kx)(b:Nat):Prop:=∃ o ob,K.H[o]?=some (some ob)/\Real ob (K.μ o)/\(K.μ o).blk=b
def NT(K:Kx)(T:Nat->Nat->Prop)(t:Nat):Nat->Prop:=fun b=>T t b/\¬ Own K b/\b<K.w.heap.size
def EK(m:Pl)(ob:Obj)(off len:Nat)(v:Value):Prop :=
 ig ob.p=false/\∃ ad cap,v=.slice ad len cap/\off+cap=m.cap/\off+len<=ah ob.p /\
  (cap≠0->ad=some ⟨m.blk,m.base+off*aS ob.p,none⟩)/\(m.cap=0->ob.z=0->ad=none)/\(m.cap≠0\/ob.z≠0->ad.isSome=true)
def aU(K:Kx)(T:Nat->Nat->Prop):AV->Value->Prop
 | .ptr o i f g,v=>o<K.H.length/\v.oneCell'=true/\∀ ob,K.H[o]?=some (some ob)->g<=ob.g /\
  (ob.g=g->ig ob.p=false/\v=.pointer (some ⟨(K.μ o).blk,(K.μ o).base+i*aS ob.p+f,none⟩))
 | .sl o off len g,v=>o<K.H.length/\v.oneCell'=true/\∀ ob,K.H[o]?=some (some ob)->g<=ob.g/\(ob.g=g->EK (K.μ o) ob off len v)
 | .map o g,v=>o<K.H.length/\v.oneCell'=true/\∀ ob,K.H[o]?=some (some ob)->g<=ob.g/\(ob.g=g->ig ob.p=true/\v=.map (some (K.μ o).blk))
 | .ro c p t,v=>RV K.w (NT K T t) (.ro c p t) v
 | a,v=>RV K.w (fun _=>False) a v
def iZ(K:Kx)(T:Nat->Nat->Prop)(p:AV)(r:Nat->Option Value):Prop:=GP (aU K T) p r
def aK(K:Kx)(T:Nat->Nat->Prop):AV->Value->Prop
 | .agg p,v=>∃ cs:Array Value,v=.agg cs/\cs.size=aV p/\iZ K T p (fun j=>cs[j]?)
 | .fn f l,v=>∃ vs:Array Value,v=.func (.func f) #[] vs/\vs.size=l.length/\∀ (j:Nat) (a:AV),l[j]?=some a->∃ u,vs[j]?=some u/\aU K T a u
 | .jl p i f t,v=>∃ b off,v=.pointer (some ⟨b,off+i*aS p+f,none⟩)/\ah p≠0/\NT K T t b /\
  RP K.w (NT K T t) p (fun j=>K.w.cell? ⟨b,off+j,none⟩)
 | a,v=>aU K T a v
def aF(K:Kx)(T:Nat->Nat->Prop):AV->Value->Prop
 | .tup l,v=>∃ vs:Array Value,v=.tuple vs/\vs.size=l.length/\∀ (j:Nat) (a:AV),l[j]?=some a->∃ u,vs[j]?=some u/\aK K T a u
 | a,v=>aK K T a v
def nJ:AV->Value->Prop
 | .int k n,v=>v=.int k n
 | .str s,v=>v=.string ⟨⟨s⟩⟩
 | .bool b,v=>v=.bool b
 | .agg (.pb l),v=>∃ cs:Array Value,v=.agg cs/\cs=(l.map fun b=>Value.int .u8 b.toNat).toArray
 | _,_=>False
def aij(K:Kx)(T:Nat->Nat->Prop)(l:List AV)(o:Option Go.Obj):Prop :=
 ∃ (es:Array MapEntry) (clock:Nat),o=some (.map es clock)/\es.size=l.length/\clock=l.length /\
  ∀ (i:Nat) (a:AV),l[i]?=some a->∃ (k v:AV) (e:MapEntry),a=.pc [k,v]/\es[i]?=some e/\e.born=i/\nJ k e.key/\aK K T v e.val
def vW(m:Pl)(ob:Obj):Prop :=
 ah ob.p<=m.cap/\(∀ c,ob.cap=some c->c=m.cap)/\(ob.row=false->m.cap=ah ob.p)/\(ob.z=0->m.cap=0\/ah ob.p≠0)
def fZ(K:Kx)(T:Nat->Nat->Prop)(ob:Obj)(r:Nat->Option Value):Prop :=
 if ob.ids=true then iZ K T ob.p r else RP K.w (NT K T ob.tg) ob.p r
def Bd(K:Kx)(T:Nat->Nat->Prop)(m:Pl)(ob:Obj):Prop :=
 m.cap≠0->∃ cur E,K.w.heap[m.blk]?=some (.cells cur E (0,0))/\m.base+m.cap*aS ob.p<=cur.size/\0<aS ob.p /\
  fZ K T ob (fun j=>cur[m.base+j]?)
def gB(K:Kx)(T:Nat->Nat->Prop)(o:Nat)(ob:Obj):Prop :=
 match ob.p with
 | .pm l=>aij K T l K.w.heap[(K.μ o).blk]?
 | _=>vW (K.μ o) ob/\Bd K T (K.μ o) ob
structure Inv (C:Ctx) (K:Kx) (T:Nat->Nat->Prop):Prop where
 obj:∀ o ob,K.H[o]?=some (some ob)->gB K T o ob
 inj:∀ o o' ob ob',K.H[o]?=some (some ob)->K.H[o']?=some (some ob')->Real ob (K.μ o)->Real ob' (K.μ o')->(K.μ o).blk=(K.μ o').blk->o=o'
 own:∀ b,Own K b->b<K.w.heap.size/\T 0 b
 new:∀ b,K.w.heap.size<=b->T 0 b
 mono:∀ t b,T 0 b->T t b
 glob:∀ g p,C.G g=some p->ah p≠0/\NT K T dA g/\RP K.w (NT K T dA) p (fun j=>K.w.cell? ⟨g,j,none⟩)
def Same(a b:Obj):Prop:=aS b.p=aS a.p/\ah b.p=ah a.p/\b.z=a.z/\ig b.p=ig a.p
structure Evo (T:Nat->Nat->Prop) (m:Nat) (K K':Kx):Prop where
 lo:m<=K.H.length
 len:m<=K'.H.length
 size:K.w.heap.size<=K'.w.heap.size
 os:K'.w.os=K.w.os
 tape:K'.w.tape=K.w.tape
 output:K'.w.output=K.w.output
 obj:∀ o,o<m->∀ ob',K'.H[o]?=some (some ob')->∃ ob,K.H[o]?=some (some ob)/\ob.g<=ob'.g/\(ob'.g=ob.g->K'.μ o=K.μ o/\Same ob ob')
 own:∀ b,b<K.w.heap.size->Own K' b->Own K b
 cells:∀ b,b<K.w.heap.size->¬ Own K b->∀ off,K'.w.cell? ⟨b,off,none⟩=K.w.cell? ⟨b,off,none⟩
 exact:∀ b,b<K.w.heap.size->¬ Own K b->¬ T 0 b->K'.w.heap[b]?=K.w.heap[b]?
def Same.refl(a:Obj):Same a a:=⟨rfl,rfl,rfl,rfl⟩
def Same.trans{a b c:Obj}(h:Same a b)(k:Same b c):Same a c :=
 ⟨k.1.trans h.1,k.2.1.trans h.2.1,k.2.2.1.trans h.2.2.1,k.2.2.2.trans h.2.2.2⟩
def Evo.refl(T:Nat->Nat->Prop)(K:Kx){m:Nat}(hm:m<=K.H.length):Evo T m K K :=
 ⟨hm,hm,axO _,rfl,rfl,rfl,fun _ _ ob' h=>⟨ob',h,axO _,fun _=>⟨rfl,Same.refl _⟩⟩,fun _ _ h=>h,fun _ _ _ _=>rfl,fun _ _ _ _=>rfl⟩
def Evo.trans{T:Nat->Nat->Prop}{m m':Nat}{A B D:Kx}(h:Evo T m A B)(k:Evo T m' B D)(hm:m<=m'):Evo T m A D where
 lo:=h.lo
 len:=ayO hm k.len
 size:=ayO h.size k.size
 os:=k.os.trans h.os
 tape:=k.tape.trans h.tape
 output:=k.output.trans h.output
 obj:=by
  intro o ho ob' hb';obtain⟨ob1,h1,g1,s1⟩:=k.obj o (ayw ho hm) ob' hb';obtain⟨ob,h2,g2,s2⟩:=h.obj o ho ob1 h1;refine⟨ob,h2,ayO g2 g1,fun e=>?_⟩;have e1:ob'.g=ob1.g:=by omega
  have e2:ob1.g=ob.g:=by omega
  exact⟨(s1 e1).1.trans (s2 e2).1,(s2 e2).2.trans (s1 e1).2⟩
 own:=fun b hb ho=>h.own b hb (k.own b (ayw hb h.size) ho)
 cells:=fun b hb ho off=>(k.cells b (ayw hb h.size) (fun x=>ho (h.own b hb x)) off).trans (h.cells b hb ho off)
 exact:=fun b hb ho ht=>(k.exact b (ayw hb h.size) (fun x=>ho (h.own b hb x)) ht).trans (h.exact b hb ho ht)
def block_lt_of_cell{w:World}{b off:Nat}{v:Value}(h:w.cell? ⟨b,off,none⟩=some v):b<w.heap.size:=by
 rcases Nat.lt_or_ge b w.heap.size with h' | h'
 .exact h'
 .simp [World.cell?,Array.getElem?_eq_none h']at h
def NT.evo{T:Nat->Nat->Prop}{m:Nat}{K K':Kx}(h:Evo T m K K'){t b:Nat}(hb:NT K T t b) :
 NT K' T t b/\∀ off v,K.w.cell? ⟨b,off,none⟩=some v->K'.w.cell? ⟨b,off,none⟩=some v :=
 ⟨⟨hb.1,fun ho=>hb.2.1 (h.own b hb.2.2 ho),ayw hb.2.2 h.size⟩,fun off v hv=>by rw[h.cells b hb.2.2 hb.2.1 off];exact hv⟩
def abh{w w':World}{a:AV}{v:Value}(h:RV w (fun _=>False) a v):RV w' (fun _=>False) a v :=
 ql (fun _ h=>h.elim) a v h
def aU.evo{T:Nat->Nat->Prop}{m:Nat}{K K':Kx}(h:Evo T m K K')(hm:K.H.length<=m){a:AV}{v:Value}(hv:aU K T a v):aU K' T a v:=by
 have hlen:m=K.H.length:=Nat.le_antisymm h.lo hm;subst hlen;cases a<;>simp only[aU]at hv ⊢<;>try exact abh hv
 case ptr o i f g=>
  refine⟨ayw hv.1 h.len,hv.2.1,fun ob' hb'=>?_⟩;obtain⟨ob,hb,hg,hs⟩:=h.obj o hv.1 ob' hb';obtain⟨h1,h2⟩:=hv.2.2 ob hb;refine⟨by omega,fun e=>?_⟩;have e':ob'.g=ob.g:=by omega
  obtain⟨hμ,hS⟩:=hs e';have:=h2 (by omega);rw[hμ,hS.1,hS.2.2.2];exact this
 case sl o off len g=>
  refine⟨ayw hv.1 h.len,hv.2.1,fun ob' hb'=>?_⟩;obtain⟨ob,hb,hg,hs⟩:=h.obj o hv.1 ob' hb';obtain⟨h1,h2⟩:=hv.2.2 ob hb;refine⟨by omega,fun e=>?_⟩;have e':ob'.g=ob.g:=by omega
  obtain⟨hμ,hS⟩:=hs e';have:=h2 (by omega);unfold EK at this ⊢;rw[hμ,hS.1,hS.2.1,hS.2.2.1,hS.2.2.2];exact this
 case map o g=>
  refine⟨ayw hv.1 h.len,hv.2.1,fun ob' hb'=>?_⟩;obtain⟨ob,hb,hg,hs⟩:=h.obj o hv.1 ob' hb';obtain⟨h1,h2⟩:=hv.2.2 ob hb;refine⟨by omega,fun e=>?_⟩;have e':ob'.g=ob.g:=by omega
  obtain⟨hμ,hS⟩:=hs e';have:=h2 (by omega);rw[hμ,hS.2.2.2];exact this
 case ro c p t=>exact ql (fun b hb=>NT.evo h hb) _ _ hv
def GP.imp{S S':AV->Value->Prop}(h:∀ a v,S a v->S' a v){p:AV}{r r':Nat->Option Value}(hr:∀ j u,r j=some u->r' j=some u)(hp:GP S p r):GP S' p r':=by
 cases p<;>simp only[GP]at hp ⊢<;>try exact hp
 case pb l=>exact fun j a ha=>hr _ _ (hp j a ha)
 case pi l=>exact fun j a ha=>hr _ _ (hp j a ha)
 case pc l=>exact fun j a ha=>let ⟨v,h1,h2,h3⟩:=hp j a ha;⟨v,hr _ _ h1,h2,h _ _ h3⟩
 case pr e l=>
  refine⟨hp.1,fun j a ha=>?_⟩;obtain⟨cs,h1,h2,h3⟩:=hp.2 j a ha;exact⟨cs,h1,h2,fun k b hb=>let ⟨v,h4,h5,h6⟩:=h3 k b hb;⟨v,hr _ _ h4,h5,h _ _ h6⟩⟩
def iZ.imp{K K':Kx}{T T':Nat->Nat->Prop}(h:∀ a v,aU K T a v->aU K' T' a v){p:AV}{r:Nat->Option Value}(hp:iZ K T p r):iZ K' T' p r :=
 GP.imp h (fun _ _ h=>h) hp
def aK.imp{K K':Kx}{T T':Nat->Nat->Prop}(h:∀ a v,aU K T a v->aU K' T' a v)
 (hn:∀ t b,NT K T t b->NT K' T' t b/\∀ off v,K.w.cell? ⟨b,off,none⟩=some v->K'.w.cell? ⟨b,off,none⟩=some v)
 {a:AV}{v:Value}(hv:aK K T a v):aK K' T' a v:=by
 cases a<;>simp only[aK]at hv ⊢<;>try exact h _ _ hv
 case agg p=>obtain⟨cs,h1,h2,h3⟩:=hv;exact⟨cs,h1,h2,iZ.imp h h3⟩
 case fn f l=>obtain⟨vs,h1,h2,h3⟩:=hv;exact⟨vs,h1,h2,fun j a ha=>let ⟨u,h4,h5⟩:=h3 j a ha;⟨u,h4,h _ _ h5⟩⟩
 case jl p i f t=>
  obtain⟨b,off,h1,h2,h3,h4⟩:=hv;exact⟨b,off,h1,h2,(hn _ _ h3).1,jM (fun b hb=>hn _ _ hb) p _ _ (fun j u hu=>(hn _ _ h3).2 _ _ hu) h4⟩
def aF.imp{K K':Kx}{T T':Nat->Nat->Prop}(h:∀ a v,aK K T a v->aK K' T' a v){a:AV}{v:Value}(hv:aF K T a v):aF K' T' a v:=by
 cases a<;>simp only[aF]at hv ⊢<;>try exact h _ _ hv
 case tup l=>obtain⟨vs,h1,h2,h3⟩:=hv;exact⟨vs,h1,h2,fun j a ha=>let ⟨u,h4,h5⟩:=h3 j a ha;⟨u,h4,h _ _ h5⟩⟩
def aK.evo{T:Nat->Nat->Prop}{m:Nat}{K K':Kx}(h:Evo T m K K')(hm:K.H.length<=m){a:AV}{v:Value}(hv:aK K T a v):aK K' T a v :=
 aK.imp (fun _ _=>aU.evo h hm) (fun _ _ hb=>NT.evo h hb) hv
def aF.evo{T:Nat->Nat->Prop}{m:Nat}{K K':Kx}(h:Evo T m K K')(hm:K.H.length<=m){a:AV}{v:Value}(hv:aF K T a v):aF K' T a v :=
 aF.imp (fun _ _=>aK.evo h hm) hv
def rD(K:Kx)(T:Nat->Nat->Prop)(fr:Frame)(tmps:Array Value):Prop:=∀ i,aF K T (aB fr i) (tmps.getD i undef)
def rD.evo{T:Nat->Nat->Prop}{m:Nat}{K K':Kx}(h:Evo T m K K')(hm:K.H.length<=m){fr:Frame}{tmps:Array Value}(hf:rD K T fr tmps):rD K' T fr tmps :=
 fun i=>aF.evo h hm (hf i)
def aF.top(K:Kx)(T:Nat->Nat->Prop)(v:Value):aF K T .top v:=by simp[aF,aK,aU,RV]
def rD.put{K:Kx}{T:Nat->Nat->Prop}{fr:Frame}{a:Act}(hf:rD K T fr a.tmps){d:Option Nat}{x:AV}{v:Value}(hv:aF K T x v)
 (hd:∀ i,d=some i->i<a.tmps.size):rD K T (jU fr d x) (a.put d v).tmps:=by
 cases d with
 | none=>exact hf
 | some d=>
  intro i;have hlt:=hd d rfl;simp only[jU,aB,Act.put];by_cases e:d=i
  .subst e;simp[hlt];exact hv
  .simp only[e,if_false];have:=hf i;simp only[ayp]at this ⊢;rw[azN e];exact this
def Res(C:Ctx)(T:Nat->Nat->Prop)(K:Kx)(x:AV)(H':Heap):Result Next->Prop
 | .ok (.value v) w'=>∃ μ',Inv C ⟨μ',H',w'⟩ T/\Evo T K.H.length K ⟨μ',H',w'⟩/\aF ⟨μ',H',w'⟩ T x v
 | .ok .skip w'=>∃ μ',Inv C ⟨μ',H',w'⟩ T/\Evo T K.H.length K ⟨μ',H',w'⟩/\aF ⟨μ',H',w'⟩ T x undef
 | _=>False
def Res.same{C:Ctx}{T:Nat->Nat->Prop}{K:Kx}{x:AV}{v:Value}{r:Result Next}(hI:Inv C K T)(hr:r=.ok (.value v) K.w)(hv:aF K T x v) :
 Res C T K x K.H r:=by
 subst hr;exact⟨K.μ,hI,Evo.refl T K (axO _),hv⟩
def aU.YU{K:Kx}{T:Nat->Nat->Prop}{a:AV}{v:Value}(hs:scalar a=true)(h:aF K T a v):aU K T a v:=by
 cases a<;>simp_all [scalar,aF,aK]
def aU.cell{K:Kx}{T:Nat->Nat->Prop}{a:AV}{v:Value}(hs:scalar a=true)(h:aU K T a v):v.oneCell'=true:=by
 cases a<;>simp only[scalar,axZ]at hs<;>simp only[aU,RV]at h
 case bool b=>subst h;rfl
 case int=>subst h;rfl
 case str=>subst h;rfl
 case gZ=>subst h;rfl
 case jS=>subst h;rfl
 case iL=>subst h;rfl
 case ro=>obtain⟨ad,cap,rfl,_⟩:=h;rfl
 case ptr=>exact h.2.1
 case sl=>exact h.2.1
 case map=>exact h.2.1
def cZ{H:Heap}{o g:Nat}{ob:Obj}:live H o g=some ob ↔ H[o]?=some (some ob)/\ob.g=g:=by
 unfold live;split
 .rename_i ob' h;split
  .rename_i hg;simp[h];rintro rfl;exact hg
  .rename_i hg;simp[h];rintro rfl h2;exact hg h2
 .rename_i h;simp;intro h2;exact absurd h2 (h ob)
def TA{K:Kx}{T:Nat->Nat->Prop}{a:AV}{v:Value}(h:RV K.w (fun _=>False) a v):aU K T a v:=by
 cases a<;>simp only[aU]<;>first|exact h|(simp[RV]at h;done)|skip
 case ro c p t=>
  rw[RV]at h ⊢;obtain⟨ad,cap,h1,h2,h3⟩:=h;exact⟨ad,cap,h1,h2,fun a ha hn=>(h3 a ha hn).2.1.elim⟩
def KX{K:Kx}{T:Nat->Nat->Prop}{a:AV}{v:Value}(h:RV K.w (fun _=>False) a v):aF K T a v:=by
 have hs:aU K T a v:=TA h;cases a<;>simp only[aF,aK]<;>first|exact hs|(simp[RV]at h;done)
def Np{w:World}(v:Value)(hs:scalar (kD v)=true):RV w (fun _=>False) (kD v) v:=by
 unfold kD at hs ⊢;split<;>simp_all [RV,scalar,AX,ah]
def Qw(v:Value)(hs:scalar (kD v)=true):v.oneCell'=true:=by
 unfold kD at hs;split at hs<;>simp_all [scalar,Value.oneCell']
def Nq{K:Kx}{T:Nat->Nat->Prop}(v:Value):aF K T (kD v) v:=by
 by_cases hs:scalar (kD v)=true
 .exact KX (Np v hs)
 .unfold kD at hs ⊢;split<;>simp_all [scalar,aF.top];simp[aF]
def vX:∀ {l:List AV} {bs:List UInt8},jJ l=some bs->bs.length=l.length/\∀ (j:Nat) (b:UInt8),bs[j]?=some b->l[j]?=some (.int .u8 b.toNat)
 | [],bs,h=>by simp[jJ]at h;subst h;simp
 | a::t,bs,h=>by
  unfold jJ at h;split at h
  .rename_i h1;simp at h1
  .rename_i n r heq;simp at heq;obtain⟨rfl,rfl⟩:=heq;split at h
   .rename_i hn;cases hr:jJ t with
    | none=>rw[hr]at h;cases h
    | some bs'=>
     rw[hr]at h;simp at h;subst h;obtain⟨h1,h2⟩:=vX hr;refine⟨by simp[h1],fun j b hb=>?_⟩;cases j with
     | zero=>
      simp at hb ⊢;subst hb;have:(UInt8.ofNat n.toNat).toNat=n.toNat:=by simp;omega
      rw[this];omega
     | succ j=>simpa using h2 j b (by simpa using hb)
   .cases h
  .cases h
def xJ{k:IntKind}:∀ {l:List AV} {ns:List Int},uH k l=some ns->ns.length=l.length/\∀ (j:Nat) (n:Int),ns[j]?=some n->l[j]?=some (.int k n)
 | [],bs,h=>by simp[uH]at h;subst h;simp
 | a::t,bs,h=>by
  unfold uH at h;split at h
  .rename_i h1;simp at h1
  .rename_i k' n r heq;simp at heq;obtain⟨rfl,rfl⟩:=heq;split at h
   .rename_i hk;subst hk;cases hr:uH k t with
    | none=>rw[hr]at h;cases h
    | some bs'=>
     rw[hr]at h;simp at h;subst h;obtain⟨h1,h2⟩:=xJ hr;refine⟨by simp[h1],fun j b hb=>?_⟩;cases j with
     | zero=>simpa using hb
     | succ j=>simpa using h2 j b (by simpa using hb)
   .cases h
  .cases h
def qo(e:Nat):∀ (n:Nat) (l:List AV),(chunks e n l).length=n
 | 0,_=>rfl
 | n+1,l=>by simp[chunks,qo e n]
def Gv(e:Nat):∀ (n:Nat) (l:List AV) (j:Nat),j<n->(chunks e n l)[j]?=some (.pc ((l.drop (j*e)).take e))
 | 0,_,j,h=>by omega
 | n+1,l,0,_=>by simp[chunks]
 | n+1,l,j+1,h=>by
  simp only[chunks,axX];rw[Gv e n _ j (by omega),azc];congr 4;rw[azs,azH]
def sH(K:Kx)(T:Nat->Nat->Prop)(l:List AV)(r:Nat->Option Value):Prop :=
 ∀ (j:Nat) (a:AV),l[j]?=some a->∃ v,r j=some v/\v.oneCell'=true/\aU K T a v
def sH.int{K:Kx}{T:Nat->Nat->Prop}{l:List AV}{r:Nat->Option Value}(h:sH K T l r){j:Nat}{k:IntKind}{n:Int}(hj:l[j]?=some (.int k n)):r j=some (.int k n):=by
 obtain⟨v,h1,_,h2⟩:=h j _ hj;simp only[aU,RV]at h2;rw[h1,h2]
def sH.sub{K:Kx}{T:Nat->Nat->Prop}{l:List AV}{r:Nat->Option Value}(h:sH K T l r)(d n:Nat):sH K T ((l.drop d).take n) (fun j=>r (d+j)):=by
 intro j a ha;rw[ayD]at ha;split at ha
 .rw [ayT]at ha;exact h _ a ha
 .cases ha
def Gw{K:Kx}{T:Nat->Nat->Prop}{l:List AV}{r:Nat->Option Value}(h:sH K T l r){e n:Nat}(he:0<e)(hl:l.length=n*e) :
 iZ K T (.pr e (chunks e n l)) r:=by
 refine⟨he,fun j a ha=>?_⟩;have hj:j<n:=by
  have:=(axK.1 ha).1
  rwa [qo]at this
 rw[Gv e n l j hj]at ha;simp at ha;subst ha;have hle:j*e+e<=n*e:=by rw[<- azs];exact ayi _ hj
 refine⟨_,rfl,?_,fun k b hb=>sH.sub h _ _ k b hb⟩;rw[ayc,axW];omega
def yL{C:Ctx}{K:Kx}{T:Nat->Nat->Prop}{t:TypeId}{l:List AV}{r:Nat->Option Value}{p:AV}(h:sH K T l r)(hp:nV C t l=some p) :
 iZ K T p r/\aV p=l.length:=by
 unfold nV at hp;split at hp
 .rename_i n e _;split at hp
  .cases hb:jJ l with
   | none=>rw[hb]at hp;cases hp
   | some bs=>
    rw[hb]at hp;simp at hp;subst hp;obtain⟨h1,h2⟩:=vX hb;refine⟨fun j b hj=>sH.int h (h2 j b hj),by simp[aV,ah,aS,h1]⟩
  .rename_i k _ _;cases hb:uH k l with
   | none=>rw[hb]at hp;cases hp
   | some bs=>
    rw[hb]at hp;simp at hp;subst hp;obtain⟨h1,h2⟩:=xJ hb;refine⟨fun j b hj=>sH.int h (h2 j b hj),by simp[aV,ah,aS,h1]⟩
  .split at hp
   .rename_i hc;simp at hp;subst hp;exact⟨Gw h hc.2 hc.1,by simp[aV,ah,aS,qo,hc.1]⟩
   .cases hp
  .split at hp
   .rename_i hc;simp at hp;subst hp;exact⟨Gw h hc.2 hc.1,by simp[aV,ah,aS,qo,hc.1]⟩
   .cases hp
  .simp at hp;subst hp;exact⟨h,by simp[aV,ah,aS]⟩
 .simp at hp;subst hp;exact⟨h,by simp[aV,ah,aS]⟩
def D9:∀ {l:List AV},scalars l=true ↔ ∀ (j:Nat) (a:AV),l[j]?=some a->scalar a=true
 | []=>by simp[scalars]
 | a::r=>by
  simp only[scalars,ax4,D9 (l:=r)];constructor
  .rintro ⟨h1,h2⟩ j b hb;cases j with
   | zero=>simp at hb;subst hb;exact h1
   | succ j=>exact h2 j b (by simpa using hb)
  .exact fun h=>⟨h 0 a rfl,fun j b hb=>h (j+1) b (by simpa using hb)⟩
def TB{C:Ctx}{K:Kx}{T:Nat->Nat->Prop}(t:TypeId)(v:Value):aF K T (Gi C t v) v:=by
 unfold Gi;split
 .rename_i cs;split
  .rename_i hs;split
   .rename_i p hp;have hc:sH K T (cs.toList.map kD) (fun j=>cs[j]?):=by intro j a ha;simp only[axP,ayr,ax7]at ha;obtain⟨v,hv,rfl⟩:=ha;have hsc:=D9.1 hs j (kD v) (by simp[hv]);exact⟨v,hv,Qw v hsc,TA (Np v hsc)⟩
    obtain⟨h1,h2⟩:=yL hc hp;simp only[aF,aK];exact⟨cs,rfl,by simp[h2],h1⟩
   .exact aF.top _ _ _
  .exact aF.top _ _ _
 .exact Nq v
def yE{C:Ctx}{K:Kx}{T:Nat->Nat->Prop}(hI:Inv C K T){fr:Frame}{a:Act}(hf:rD K T fr a.tmps)(x:Operand):aF K T (aJ C fr x) (a.eval x):=by
 cases x with
 | tmp t=>exact hf t
 | const v=>exact Nq v
 | global g=>
  simp only[aJ,Act.eval];split
  .rename_i p hp;obtain⟨h1,h2,h3⟩:=hI.glob g p hp;simp only[aF,aK];exact⟨g,0,by simp,h1,h2,by simpa using h3⟩
  .exact aF.top _ _ _
 | func f=>simp[aJ,Act.eval,aF,aK]
def KY{C:Ctx}{K:Kx}{T:Nat->Nat->Prop}(hI:Inv C K T){fr:Frame}{a:Act}(hf:rD K T fr a.tmps)(t:TypeId)(x:Operand):aF K T (gu C fr t x) (a.eval x):=by
 unfold gu;split
 .exact TB t _
 .exact yE hI hf _
def aF.int{K:Kx}{T:Nat->Nat->Prop}{k:IntKind}{n:Int}{v:Value}(h:aF K T (.int k n) v):v=.int k n:=by simpa[aF,aK,aU,RV]using h
def aF.bool{K:Kx}{T:Nat->Nat->Prop}{b:Bool}{v:Value}(h:aF K T (.bool b) v):v=.bool b:=by simpa[aF,aK,aU,RV]using h
def aF.str{K:Kx}{T:Nat->Nat->Prop}{s:List UInt8}{v:Value}(h:aF K T (.str s) v):v=.string ⟨⟨s⟩⟩:=by simpa[aF,aK,aU,RV]using h
def Bf{P:Program}{w:World}(op:BinOp)(t:TypeId)(x y:Operand)(a b:Value)
 (h1:a≠.nilIface)(h2:∀ cs,a≠.agg cs):(eqGuard op t x y a b).run P w=.ok () w:=by
 unfold eqGuard;cases a<;>first|exact absurd rfl h1|exact absurd rfl (h2 _)|(cases op<;>simp)
theorem Gx {P:Program} {w:World} {op:BinOp} {k:IntKind} {a b:Int} {r:AV} (h:arith op k a b = some r) (t:TypeId) :
    ∃ v,(binOp op t (.int k a) (.int k b)).run P w = .ok v w∧RV w (fun _=>False) r v:=by
  unfold arith at h
  cases op <;> simp only [axH,reduceCtorEq] at h <;>
    first
    | (subst h;exact ⟨_,by simp [binOp,Op.intArith,Op.intBits,Op.intCmp];rfl,by simp [RV,bits]⟩)
    | (subst h;exact ⟨_,by simp [binOp,Op.intArith,Op.intBits,Op.intCmp],by simp [RV,bits]⟩)
    | (split at h
       · cases h
       · rename_i hb
         simp only [axH] at h
         subst h
         exact ⟨_,by simp [binOp,Op.intDiv,hb];rfl,by simp [RV]⟩)
    | skip
def Nr{P:Program}{w:World}{op:BinOp}{k k':IntKind}{a b:Int}{r:AV}(h:KJ op k a b=some r)(t:TypeId) :
 ∃ v,(binOp op t (.int k a) (.int k' b)).run P w=.ok v w/\RV w (fun _=>False) r v:=by
 unfold KJ at h;split at h
 .cases h
 .rename_i hb;have hb':¬ b<0:=hb;cases op<;>simp only[axH,reduceCtorEq]at h<;>subst h<;>
   exact⟨_,by simp only[binOp,Op.shift,if_neg hb',Sem.run_pure];rfl,by simp[RV]⟩
def toList_mk(s:List UInt8):(⟨⟨s⟩⟩:ByteArray).toList=s:=by
 rw[ByteArray.toList_eq]
def bytesLess_eq:∀ (a b:List UInt8),bytesLess a b=Op.bytesLess a b
 | a,[]=>by cases a<;>rfl
 | [],_::_=>rfl
 | a::x,b::y=>by simp[bytesLess,Op.bytesLess,bytesLess_eq x y]
def YV{P:Program}{w:World}{op:BinOp}{a b:List UInt8}{r:AV}(h:Tf op a b=some r)(t:TypeId) :
 ∃ v,(binOp op t (.string ⟨⟨a⟩⟩) (.string ⟨⟨b⟩⟩)).run P w=.ok v w/\RV w (fun _=>False) r v:=by
 unfold Tf at h;cases op<;>simp only[axH,reduceCtorEq]at h
 case add=>
  split at h
  .rename_i hl;simp only[axH]at h;subst h;refine⟨_,?_,by simp only[RV];rfl⟩;have hm:¬ (((⟨⟨a⟩⟩:ByteArray).size+(⟨⟨b⟩⟩:ByteArray).size:Nat):Int)>IntKind.i64.max:=by
    have:IntKind.i64.max=9223372036854775807:=by decide
    rw[this];show ¬ ((a.length+b.length:Nat):Int)>_;omega
   simp only[binOp,Op.stringOp,if_neg hm,Sem.run_pure];congr 2
  .cases h
 all_goals
  subst h;refine⟨_,?_,by simp only[RV];rfl⟩;simp only[binOp,Op.stringOp,Sem.run_pure,toList_mk,bytesLess_eq]
def bf{C:Ctx}{t:TypeId}{d:TypeDesc}(h:und C t=d)(hd:d≠.invalid):C.P.underlying t=some d:=by
 unfold und at h;cases hu:C.P.underlying t with
 | none=>rw[hu]at h;exact absurd h.symm hd
 | some d'=>rw[hu]at h;simp at h;rw[h]
def bg{P:Program}{w:World}{t:TypeId}{d:TypeDesc}(h:P.underlying t=some d):(underlying t).run P w=.ok d w:=by
 simp[underlying,h]
def Bg(op:BinOp)(b:Bool):Value:=.bool (if op=.eql then b else !b)
def iE{P:Program}{w:World}{t:TypeId}{v u:Value}{b:Bool}{op:BinOp}(hop:op=.eql\/op=.neq)
 (hs:(∃ a,v=.pointer a/\∃ c,u=.pointer c)\/(∃ a l c,v=.slice a l c)\/(∃ r,v=.map r)\/(∃ f x y,v=.func f x y)\/v=.nilFunc\/(∃ x,v=.bool x))
 (h:(Op.equal t v u).run P w=.ok b w):(binOp op t v u).run P w=.ok (Bg op b) w:=by
 rcases hop with rfl|rfl<;>rcases hs with⟨_,rfl,_,rfl⟩|⟨_,_,_,rfl⟩|⟨_,rfl⟩|⟨_,_,_,rfl⟩|rfl|⟨_,rfl⟩<;>simp[binOp,h,Bg]
def iO{P:Program}{w:World}{t:TypeId}{x y:Value}{b:Bool}(h:∀ d,(Op.equalIn (d+1) t x y).run P w=.ok b w):(Op.equal t x y).run P w=.ok b w:=h 9999
def Ns{C:Ctx}{K:Kx}{T:Nat->Nat->Prop}{t:TypeId}{x:AV}{v:Value}{b:Bool}(h:isNil C K.H t x=some b)(hv:aF K T x v)(hI:Inv C K T)(yo:Operand)(a:Act)
 (hy:jW C t yo=true):∀ op,op=.eql\/op=.neq ->
  (binOp op t v (a.eval yo)).run C.P K.w=.ok (Bg op b) K.w/\(binOp op t (a.eval yo) v).run C.P K.w=.ok (Bg op b) K.w /\
  v≠.nilIface/\(∀ cs,v≠.agg cs)/\a.eval yo≠.nilIface/\(∀ cs,a.eval yo≠.agg cs):=by
 intro op hop;unfold isNil at h;split at h
 .rename_i e hu;have hu':=bf hu (by simp);have ey:a.eval yo=.pointer none:=by unfold jW at hy;rw[hu]at hy;revert hy;split<;>simp_all [Act.eval]
  simp only[axH]at h;subst h;have ev:v=.pointer none:=by simpa[aF,aK,aU,RV]using hv
  subst ev;rw[ey];have hr:(Op.equal t (.pointer none) (.pointer none)).run C.P K.w=.ok true K.w:=by exact iO fun d=>by simp[Op.equalIn,bg hu']
  exact⟨iE hop (.inl ⟨_,rfl,_,rfl⟩) hr,iE hop (.inl ⟨_,rfl,_,rfl⟩) hr,by simp,by simp,by simp,by simp⟩
 .rename_i e o i f g hu;have hu':=bf hu (by simp);have ey:a.eval yo=.pointer none:=by unfold jW at hy;rw[hu]at hy;revert hy;split<;>simp_all [Act.eval]
  split at h
  .rename_i ob hob;simp only[axH]at h;subst h;obtain⟨h1,h2⟩:=cZ.1 hob;simp only[aF,aK,aU]at hv;obtain⟨_,ev⟩:=(hv.2.2 ob h1).2 h2;subst ev;rw[ey];have hr:∀ a,(Op.equal t (.pointer (some a)) (.pointer none)).run C.P K.w=.ok false K.w:=by intro a;exact iO fun d=>by simp[Op.equalIn,bg hu']
   have hr':∀ a,(Op.equal t (.pointer none) (.pointer (some a))).run C.P K.w=.ok false K.w:=by intro a;exact iO fun d=>by simp[Op.equalIn,bg hu']
   exact⟨iE hop (.inl ⟨_,rfl,_,rfl⟩) (hr _),iE hop (.inl ⟨_,rfl,_,rfl⟩) (hr' _),by simp,by simp,by simp,by simp⟩
  .cases h
 .rename_i e c p tg hu;have hu':=bf hu (by simp);have ey:a.eval yo=.slice none 0 0:=by unfold jW at hy;rw[hu]at hy;revert hy;split<;>simp_all [Act.eval]
  simp only[axH]at h;subst h;simp only[aF,aK,aU,RV]at hv;obtain⟨ad,cap,rfl,hs,_⟩:=hv;rw[ey];have hr:(Op.equal t (.slice ad (ah p) cap) (.slice none 0 0)).run C.P K.w=.ok (c==0) K.w:=by
   cases ad with
   | none=>
    have:c=0:=by
     rcases Nat.eq_zero_or_pos c with h|h
     .exact h
     .have:=hs.2.2.1 (by omega);simp at this
    exact iO fun d=>by simp[Op.equalIn,bg hu',this]
   | some ad=>
    have:c≠0:=by intro h0;have:=hs.2.1 h0;simp at this
    exact iO fun d=>by simp[Op.equalIn,bg hu',this]
  have hr':(Op.equal t (.slice none 0 0) (.slice ad (ah p) cap)).run C.P K.w=.ok (c==0) K.w:=by
   cases ad with
   | none=>
    have:c=0:=by
     rcases Nat.eq_zero_or_pos c with h|h
     .exact h
     .have:=hs.2.2.1 (by omega);simp at this
    exact iO fun d=>by simp[Op.equalIn,bg hu',this]
   | some ad=>
    have:c≠0:=by intro h0;have:=hs.2.1 h0;simp at this
    exact iO fun d=>by simp[Op.equalIn,bg hu',this]
  exact⟨iE hop (.inr (.inl ⟨_,_,_,rfl⟩)) hr,iE hop (.inr (.inl ⟨_,_,_,rfl⟩)) hr',by simp,by simp,by simp,by simp⟩
 .rename_i e o off len g hu;have hu':=bf hu (by simp);have ey:a.eval yo=.slice none 0 0:=by unfold jW at hy;rw[hu]at hy;revert hy;split<;>simp_all [Act.eval]
  split at h
  .rename_i ob hob;simp only[axH]at h;subst h;obtain⟨h1,h2⟩:=cZ.1 hob;simp only[aF,aK,aU]at hv;obtain⟨hpm,ad,cap,rfl,hc,hl,ha,hz,hn⟩:=(hv.2.2 ob h1).2 h2;have hO:=hI.obj o ob h1;have hsh:vW (K.μ o) ob:=by
    unfold gB at hO;split at hO
    .rename_i heq;rw[heq]at hpm;simp[ig]at hpm
    .exact hO.1
   have key:ad.isNone=(ob.z==0&&ah ob.p==0):=by
    by_cases hc0:(K.μ o).cap=0
    .have hpl:ah ob.p=0:=by have:=hsh.1;omega
     by_cases hz0:ob.z=0
     .rw [hz hc0 hz0];simp[hz0,hpl]
     .have:=hn (.inr hz0);cases ad<;>simp_all
    .have:=hn (.inl hc0);have hzz:=hsh.2.2.2;cases ad with
     | none=>simp at this
     | some ad=>
      by_cases hz0:ob.z=0
      .have:=hzz hz0;simp[hz0];omega
      .simp [hz0]
   rw[ey];have hr:(Op.equal t (.slice ad len cap) (.slice none 0 0)).run C.P K.w=.ok (ob.z==0&&ah ob.p==0) K.w:=by rw[<- key];cases ad<;>exact iO fun d=>by simp[Op.equalIn,bg hu']
   have hr':(Op.equal t (.slice none 0 0) (.slice ad len cap)).run C.P K.w=.ok (ob.z==0&&ah ob.p==0) K.w:=by rw[<- key];cases ad<;>exact iO fun d=>by simp[Op.equalIn,bg hu']
   exact⟨iE hop (.inr (.inl ⟨_,_,_,rfl⟩)) hr,iE hop (.inr (.inl ⟨_,_,_,rfl⟩)) hr',by simp,by simp,by simp,by simp⟩
  .cases h
 .rename_i hu;have hu':=bf hu (by simp);have ey:a.eval yo=.map none:=by unfold jW at hy;rw[hu]at hy;revert hy;split<;>simp_all [Act.eval]
  simp only[axH]at h;subst h;have ev:v=.map none:=by simpa[aF,aK,aU,RV]using hv
  subst ev;rw[ey];have hr:(Op.equal t (.map none) (.map none)).run C.P K.w=.ok true K.w:=by exact iO fun d=>by simp[Op.equalIn,bg hu']
  exact⟨iE hop (.inr (.inr (.inl ⟨_,rfl⟩))) hr,iE hop (.inr (.inr (.inl ⟨_,rfl⟩))) hr,by simp,by simp,by simp,by simp⟩
 .rename_i o g hu;have hu':=bf hu (by simp);have ey:a.eval yo=.map none:=by unfold jW at hy;rw[hu]at hy;revert hy;split<;>simp_all [Act.eval]
  split at h
  .rename_i ob hob;simp only[axH]at h;subst h;obtain⟨h1,h2⟩:=cZ.1 hob;simp only[aF,aK,aU]at hv;obtain⟨_,ev⟩:=(hv.2.2 ob h1).2 h2;subst ev;rw[ey];have hr:∀ r,(Op.equal t (.map (some r)) (.map none)).run C.P K.w=.ok false K.w:=by intro a;exact iO fun d=>by simp[Op.equalIn,bg hu']
   have hr':∀ r,(Op.equal t (.map none) (.map (some r))).run C.P K.w=.ok false K.w:=by intro a;exact iO fun d=>by simp[Op.equalIn,bg hu']
   exact⟨iE hop (.inr (.inr (.inl ⟨_,rfl⟩))) (hr _),iE hop (.inr (.inr (.inl ⟨_,rfl⟩))) (hr' _),by simp,by simp,by simp,by simp⟩
  .cases h
 .rename_i hu;have hu':=bf hu (by simp);have ey:a.eval yo=.nilFunc:=by unfold jW at hy;rw[hu]at hy;revert hy;split<;>simp_all [Act.eval]
  simp only[axH]at h;subst h;have ev:v=.nilFunc:=by simpa[aF,aK,aU,RV]using hv
  subst ev;rw[ey];have hr:(Op.equal t .nilFunc .nilFunc).run C.P K.w=.ok true K.w:=by exact iO fun d=>by simp[Op.equalIn,bg hu']
  exact⟨iE hop (.inr (.inr (.inr (.inr (.inl rfl))))) hr,iE hop (.inr (.inr (.inr (.inr (.inl rfl))))) hr,by simp,by simp,by simp,by simp⟩
 .rename_i hu;have hu':=bf hu (by simp);have ey:a.eval yo=.nilFunc:=by unfold jW at hy;rw[hu]at hy;revert hy;split<;>simp_all [Act.eval]
  simp only[axH]at h;subst h;simp only[aF,aK]at hv;obtain⟨vs,rfl,_⟩:=hv;rw[ey];have hr:∀ f,(Op.equal t (.func f #[] vs) .nilFunc).run C.P K.w=.ok false K.w:=by intro f;exact iO fun d=>by simp[Op.equalIn,bg hu']
  have hr':∀ f,(Op.equal t .nilFunc (.func f #[] vs)).run C.P K.w=.ok false K.w:=by intro f;exact iO fun d=>by simp[Op.equalIn,bg hu']
  exact⟨iE hop (.inr (.inr (.inr (.inl ⟨_,_,_,rfl⟩)))) (hr _),iE hop (.inr (.inr (.inr (.inr (.inl rfl))))) (hr' _),by simp,by simp,by simp,by simp⟩
 .cases h
def CellIs(a:List AV)(r:Nat->Option Value):Prop :=
 ∀ j,(∀ b,a[j]?=some (.bool b)->r j=some (.bool b))/\(∀ k n,a[j]?=some (.int k n)->r j=some (.int k n))/\∀ s,a[j]?=some (.str s)->r j=some (.string ⟨⟨s⟩⟩)
def CellIs.of{K:Kx}{T:Nat->Nat->Prop}{a:List AV}{r:Nat->Option Value}(h:sH K T a r):CellIs a r:=by
 intro j;refine⟨fun b hb=>?_,fun k n hb=>?_,fun s hb=>?_⟩<;>
 .obtain ⟨v,h1,_,h3⟩:=h j _ hb;simp only[aU,RV]at h3;rw[h1,h3]
def CellIs.sub{a:List AV}{r:Nat->Option Value}(h:CellIs a r)(o n:Nat):CellIs ((a.drop o).take n) (fun j=>r (o+j)):=by
 intro j;have hj:∀ x,((a.drop o).take n)[j]?=some x->a[o+j]?=some x:=by
  intro x hx;have hlt:j<n:=by have:=(axK.1 hx).1;simp at this;omega
  rwa [azt hlt,ayT]at hx
 exact⟨fun b hb=>(h (o+j)).1 b (hj _ hb),fun k n hb=>(h (o+j)).2.1 k n (hj _ hb),fun s hb=>(h (o+j)).2.2 s (hj _ hb)⟩
def Rep(C:Ctx)(t:TypeId)(a:List AV)(v:Value):Prop :=
 match und C t with
 | .struct _=>∃ xs:Array Value,v=.agg xs/\xs.size=a.length/\CellIs a (fun j=>xs[j]?)
 | _=>CellIs a (fun j=>if j=0 then some v else none)
def Nu{C:Ctx}{w:World}{t:TypeId}{a:List AV}{xs:Array Value}{o:Nat}(hsz:xs.size=a.length)(hc:CellIs a (fun j=>xs[j]?))(hlen:o+sizeT C t<=a.length)
 (hk:(∃ fs,und C t=.struct fs)\/((und C t=.bool\/(∃ k,und C t=.int k)\/und C t=.string)/\((a.drop o).take (sizeT C t)).length=1)) :
 ∃ v,(part t xs o).run C.P w=.ok v w/\Rep C t ((a.drop o).take (sizeT C t)) v:=by
 rcases hk with⟨fs,hu⟩|⟨hu,h1⟩
 .have hu':C.P.underlying t=some (.struct fs):=bf hu (by simp);obtain⟨ti,hti,hsize⟩:∃ ti,C.P.info? t=some ti/\sizeT C t=ti.size:=by
   have:(C.P.info? t).isSome:=by
    unfold Program.underlying at hu';cases hi:C.P.info? t with
    | none=>simp[hi]at hu'
    | some=>rfl
   obtain⟨ti,hti⟩:=ayn.1 this;exact⟨ti,hti,by simp[sizeT,hti]⟩
  refine⟨.agg (xs.extract o (o+sizeT C t)),?_,?_⟩
  .simp [part,isAgg,bg hu',sizeOf,typeInfo,hti,hsize,run_program]
  .unfold Rep;rw[hu];refine⟨_,rfl,?_,?_⟩
   .simp;omega
   .have:=CellIs.sub hc o (sizeT C t);intro j;obtain⟨q1,q2,q3⟩:=this j;have hj:∀ x,((a.drop o).take (sizeT C t))[j]?=some x->(xs.extract o (o+sizeT C t))[j]?=xs[o+j]?:=by
     intro x hx;have:=(axK.1 hx).1;simp at this;rw[Array.getElem?_extract];have h2:j<min (o+sizeT C t) xs.size-o:=by omega
     simp[h2]
    exact⟨fun b hb=>(hj _ hb).trans (q1 b hb),fun k n hb=>(hj _ hb).trans (q2 k n hb),fun s hb=>(hj _ hb).trans (q3 s hb)⟩
 .have hlt:o<xs.size:=by simp at h1;omega
  refine⟨xs[o],?_,?_⟩
  .have hg:xs[o]?=some xs[o]:=azf hlt;rcases hu with hu|⟨k,hu⟩|hu<;>
   .have hu':=bf hu (by simp);simp[part,isAgg,bg hu',hg]
  .have hrep:CellIs ((a.drop o).take (sizeT C t)) (fun j=>if j=0 then some xs[o]else none):=by
    have:=CellIs.sub hc o (sizeT C t);intro j;obtain⟨q1,q2,q3⟩:=this j;by_cases hj:j=0
    .subst hj;simp only[if_true];simp only[ay0,azf hlt]at q1 q2 q3;exact⟨q1,q2,q3⟩
    .have hn:((a.drop o).take (sizeT C t))[j]?=none:=ax0 (by omega);rw[hn];exact⟨fun _ h=>by simp at h,fun _ _ h=>by simp at h,fun _ h=>by simp at h⟩
   unfold Rep;rcases hu with hu|⟨k,hu⟩|hu<;>rw[hu]<;>exact hrep
def Ea{C:Ctx}{w:World}{n d:Nat}(ih:∀ (t:TypeId) (a b:List AV) (r:Bool),uI C n t a b=some r->∀ vx vy,Rep C t a vx->Rep C t b vy->(Op.equalIn d t vx vy).run C.P w=.ok r w) :
 ∀ (fs:List Field) (a b:List AV) (r:Bool),xH C (uI C n) fs a b=some r->∀ xs ys:Array Value,xs.size=a.length->ys.size=b.length ->
 CellIs a (fun j=>xs[j]?)->CellIs b (fun j=>ys[j]?)->(Op.eqFields d xs ys fs).run C.P w=.ok r w
 | [],a,b,r,h,xs,ys,hxs,hys,hcx,hcy=>by
  simp only[xH,axH]at h;subst h;simp[Op.eqFields]
 | f::fs,a,b,r,h,xs,ys,hxs,hys,hcx,hcy=>by
  simp only[xH]at h;split at h
  .rename_i hc;simp only[ax4,decide_eq_true_eq,bne_iff_ne,ne_eq]at hc;obtain⟨⟨hn,h1⟩,h2⟩:=hc;split at h
   .rename_i x y ex ey;simp only[axH]at h;have kind:∀ (a' b':List AV) (x:Bool),uI C n f.type a' b'=some x->((∃ fs,und C f.type=.struct fs)\/((und C f.type=.bool\/(∃ k,und C f.type=.int k)\/und C f.type=.string)/\a'.length=1))/\((∃ fs,und C f.type=.struct fs)\/((und C f.type=.bool\/(∃ k,und C f.type=.int k)\/und C f.type=.string)/\b'.length=1)):=by
     intro a' b' x e;cases n with
     | zero=>simp[uI]at e
     | succ n=>
      simp only[uI]at e;split at e
      .rename_i hu;split at e<;>first|cases e;done|exact⟨.inr ⟨.inl hu,rfl⟩,.inr ⟨.inl hu,rfl⟩⟩
      .rename_i k hu;split at e<;>first|cases e;done|exact⟨.inr ⟨.inr (.inl ⟨k,hu⟩),rfl⟩,.inr ⟨.inr (.inl ⟨k,hu⟩),rfl⟩⟩
      .rename_i hu;split at e<;>first|cases e;done|exact⟨.inr ⟨.inr (.inr hu),rfl⟩,.inr ⟨.inr (.inr hu),rfl⟩⟩
      .rename_i fs hu;exact⟨.inl ⟨fs,hu⟩,.inl ⟨fs,hu⟩⟩
      .cases e
    obtain⟨ka,kb⟩:=kind _ _ _ ex;obtain⟨vx,p1,q1⟩:=Nu (w:=w) hxs hcx h1 ka;obtain⟨vy,p2,q2⟩:=Nu (w:=w) hys hcy h2 kb;have e1:=ih f.type _ _ x ex vx vy q1 q2;simp only[Op.eqFields,ne_eq,hn,not_false_eq_true,if_true,Sem.run_bind,p1,p2,e1,Result.andThen_ok];cases x with
    | false=>simp at h ⊢;exact h
    | true=>
     simp at h ⊢;subst h;exact Ea ih fs a b y ey xs ys hxs hys hcx hcy
   .cases h
  .cases h
def Jk{C:Ctx}{w:World}:∀ (n:Nat) (t:TypeId) (a b:List AV) (r:Bool),uI C n t a b=some r->∀ d,n<=d->∀ vx vy,Rep C t a vx->Rep C t b vy->(Op.equalIn d t vx vy).run C.P w=.ok r w
 | 0,t,a,b,r,h,d,hd,vx,vy,hx,hy=>by simp[uI]at h
 | n+1,t,a,b,r,h,d,hd,vx,vy,hx,hy=>by
  obtain⟨d,rfl⟩:∃ i,d=i+1:=⟨d-1,by omega⟩;simp only[uI]at h;unfold Rep at hx hy;split at h
  .rename_i hu;rw[hu]at hx hy;split at h
   .rename_i x y;simp only[axH]at h;have e1:=(hx 0).1 x rfl;have e2:=(hy 0).1 y rfl;simp only[if_true,axH]at e1 e2;rw[e1,e2,<- h];exact run_equalIn_bool' w d t x y (bf hu (by simp))
   .cases h
  .rename_i k hu;rw[hu]at hx hy;split at h
   .rename_i k1 x k2 y;split at h
    .rename_i hk;subst hk;simp only[axH]at h;have e1:=(hx 0).2.1 _ x rfl;have e2:=(hy 0).2.1 _ y rfl;simp only[if_true,axH]at e1 e2;rw[e1,e2,<- h];exact run_equalIn_int w d t k1 k x y (bf hu (by simp))
    .cases h
   .cases h
  .rename_i hu;rw[hu]at hx hy;split at h
   .rename_i x y;simp only[axH]at h;have e1:=(hx 0).2.2 x rfl;have e2:=(hy 0).2.2 y rfl;simp only[if_true,axH]at e1 e2;rw[e1,e2,<- h,run_equalIn_string w d t _ _ (bf hu (by simp)),ByteArray.toList_eq,ByteArray.toList_eq]
   .cases h
  .rename_i fs hu;rw[hu]at hx hy;split at h
   .cases h
   .rename_i hst;obtain⟨xs,rfl,hxs,hcx⟩:=hx;obtain⟨ys,rfl,hys,hcy⟩:=hy;have hu':C.P.underlying t=some (.struct fs):=bf hu (by simp);have hfo:C.P.fieldsOf t=fs:=by simp[Program.fieldsOf,hu']
    rw[run_equalIn_struct w d t xs ys (by rw[hfo];exact hu') (by simpa using hst),hfo];exact Ea (fun t a b r h vx vy hx hy=>Jk n t a b r h d (by omega) vx vy hx hy) fs.toList a b r h xs ys hxs hys hcx hcy
  .cases h
def abj{C:Ctx}{K:Kx}{T:Nat->Nat->Prop}(hI:Inv C K T){op:BinOp}{t:TypeId}{x y r:AV}{xo yo:Operand}{a:Act}
 (hx:aF K T x (a.eval xo))(hy:aF K T y (a.eval yo))(h:Iq C K.H op t x y xo yo=some r) :
 ∃ v,(do eqGuard op t xo yo (a.eval xo) (a.eval yo);binOp op t (a.eval xo) (a.eval yo):Sem Value).run C.P K.w=.ok v K.w/\RV K.w (fun _=>False) r v:=by
 have hg:∀ (u v:Value),u≠.nilIface->(∀ cs,u≠.agg cs)->(eqGuard op t xo yo u v).run C.P K.w=.ok () K.w:=fun u v h1 h2=>Bf op t xo yo u v h1 h2;have fin:∀ {u v:Value} {b:Bool},(op=.eql\/op=.neq)->(eqGuard op t xo yo u v).run C.P K.w=.ok () K.w->(binOp op t u v).run C.P K.w=.ok (Bg op b) K.w ->
  ∃ z,(do eqGuard op t xo yo u v;binOp op t u v:Sem Value).run C.P K.w=.ok z K.w/\z=Bg op b:=by
  intro u v b _ h1 h2;exact⟨_,by rw[Sem.run_bind,h1];exact h2,rfl⟩
 have YW:∀ {b:Bool},(op=.eql\/op=.neq)->eqV C K.H t x y xo yo=some b ->
  ∃ z,(do eqGuard op t xo yo (a.eval xo) (a.eval yo);binOp op t (a.eval xo) (a.eval yo):Sem Value).run C.P K.w=.ok z K.w/\z=Bg op b:=by
  intro b hop he;unfold eqV at he;split at he
  .rename_i p q;have e1:=hx.bool;have e2:=hy.bool;split at he
   .rename_i hu;simp at he;subst he;rw[e1,e2];have hu':C.P.underlying t=some .bool:=bf (by assumption) (by simp);exact fin hop (hg _ _ (by simp) (by simp)) (iE hop (.inr (.inr (.inr (.inr (.inr ⟨_,rfl⟩))))) (iO fun d=>by simp[Op.equalIn,bg hu']))
   .simp at he
  .rename_i p q;split at he
   .rename_i hg';simp only[ax4,azW]at hg';simp only[aF,aK]at hx hy;obtain⟨xs,e1,n1,r1⟩:=hx;obtain⟨ys,e2,n2,r2⟩:=hy;rw[e1,e2];obtain⟨fs,hu⟩:∃ fs,und C t=.struct fs:=by
     have:=hg'.1;unfold Jj at this;split at this
     .rename_i fs hu;exact⟨fs,hu⟩
     .cases this
    have hrx:Rep C t p (.agg xs):=by unfold Rep;rw[hu];exact⟨xs,rfl,by simpa[aV,ah,aS]using n1,CellIs.of r1⟩
    have hry:Rep C t q (.agg ys):=by unfold Rep;rw[hu];exact⟨ys,rfl,by simpa[aV,ah,aS]using n2,CellIs.of r2⟩
    have heq:=Jk (w:=K.w) 6 t p q _ he 10000 (by omega) _ _ hrx hry;refine fin hop (run_eqGuard_agg K.w op t xo yo xs ys hg'.2) ?_;rcases hop with rfl|rfl
    .rw [run_eql_struct,heq];rfl
    .rw [run_neq_struct,heq];rfl
   .cases he
  .split at he
   .rename_i hn;obtain⟨h1,_,h3,h4,_,_⟩:=Ns he hx hI yo a hn op hop;exact fin hop (hg _ _ h3 h4) h1
   .split at he
    .rename_i hn;obtain⟨_,h1,_,_,h3,h4⟩:=Ns he hy hI xo a hn op hop;exact fin hop (hg _ _ h3 h4) h1
    .cases he
 unfold Iq at h;split at h
 .have e1:=hx.int;have e2:=hy.int;rw[e1,e2];rw[Sem.run_bind,hg _ _ (by simp) (by simp),Result.andThen_ok];split at h
  .exact Nr h t
  .exact Nr h t
  .split at h
   .rename_i hk;subst hk;exact Gx h t
   .cases h
 .rw [hx.str,hy.str];rw[Sem.run_bind,hg _ _ (by simp) (by simp),Result.andThen_ok];exact YV h t
 .split at h
  .cases he:eqV C K.H t x y xo yo with
   | none=>rw[he]at h;cases h
   | some b=>
    rw[he]at h;simp only[axM,axH]at h;subst h;obtain⟨z,h1,h2⟩:=YW (.inl rfl) he;exact⟨z,h1,by rw[h2];simp[RV,Bg]⟩
  .cases he:eqV C K.H t x y xo yo with
   | none=>rw[he]at h;cases h
   | some b=>
    rw[he]at h;simp only[axM,axH]at h;subst h;obtain⟨z,h1,h2⟩:=YW (.inr rfl) he;exact⟨z,h1,by rw[h2];simp[RV,Bg]⟩
  .cases h
def aei{P:Program}{K:Kx}{T:Nat->Nat->Prop}{op:UnOp}{x r:AV}{v:Value}(hx:aF K T x v)(h:unV op x=some r) :
 ∃ u,(Op.unary op v).run P K.w=.ok u K.w/\RV K.w (fun _=>False) r u:=by
 unfold unV at h;split at h
 .rw [hx.int];obtain⟨u,h1,h2⟩:=Gx (P:=P) (w:=K.w) h 0;refine⟨u,?_,h2⟩;simpa[binOp,Op.unary]using h1
 .rw [hx.int];obtain⟨u,h1,h2⟩:=Gx (P:=P) (w:=K.w) h 0;refine⟨u,?_,h2⟩;simpa[binOp,Op.unary]using h1
 .simp only[axH]at h;subst h;rw[hx.bool];exact⟨_,rfl,by simp[RV]⟩
 .cases h
section
variable {S:AV->Value->Prop}
def LP(S:AV->Value->Prop)(p:AV)(cs:List Value):Prop:=GP S p (fun j=>cs[j]?)/\cs.length=ah p*aS p
def GP.has{p:AV}{r:Nat->Option Value}(h:GP S p r):∀ j,j<ah p*aS p->∃ u,r j=some u/\u.oneCell'=true:=by
 intro j hj;cases p<;>simp only[GP,ah,aS]at h hj<;>try omega
 case pb l=>exact⟨_,h j l[j] (by simp at hj;simp[hj]),rfl⟩
 case pi k l=>exact⟨_,h j l[j] (by simp at hj;simp[hj]),rfl⟩
 case pc l=>
  obtain⟨v,h1,h2,_⟩:=h j l[j] (by simp at hj;simp[hj]);exact⟨v,h1,h2⟩
 case pr e l=>
  have hq:j/e<l.length:=Nat.div_lt_of_lt_mul (by rw[ayS];exact hj);obtain⟨cs,_,h2,h3⟩:=h.2 (j/e) l[j/e] (by simp[hq]);have hk:j%e<cs.length:=by rw[h2];exact azS _ h.1
  obtain⟨v,h4,h5,_⟩:=h3 (j%e) cs[j%e] (by simp[hk]);refine⟨v,?_,h5⟩
  rwa [show j/e*e+j%e=j by rw[ayS];exact Nat.div_add_mod j e]at h4
def GP.within{p:AV}{r r':Nat->Option Value}(h:GP S p r)(hr:∀ j u,j<ah p*aS p->r j=some u->r' j=some u):GP S p r':=by
 cases p<;>simp only[GP,ah,aS]at h hr ⊢
 case pb l=>exact fun j a ha=>hr _ _ (by have:=(axK.1 ha).1;omega) (h j a ha)
 case pi k l=>exact fun j a ha=>hr _ _ (by have:=(axK.1 ha).1;omega) (h j a ha)
 case pc l=>exact fun j a ha=>let ⟨v,h1,h2⟩:=h j a ha;⟨v,hr _ _ (by have:=(axK.1 ha).1;omega) h1,h2⟩
 case pr e l=>
  refine⟨h.1,fun j a ha=>?_⟩;obtain⟨cs,h1,h2,h3⟩:=h.2 j a ha;refine⟨cs,h1,h2,fun k b hb=>let ⟨v,h4,h5⟩:=h3 k b hb;⟨v,hr _ _ ?_ h4,h5⟩⟩;have hj:=(axK.1 ha).1;have hk:=(axK.1 hb).1;have:(j+1)*e<=l.length*e:=ayi _ hj;rw[azs]at this;omega
def GP.list{p:AV}{r:Nat->Option Value}(h:GP S p r) :
 ∃ cs,LP S p cs/\(∀ j u,cs[j]?=some u->r j=some u)/\∀ u∈cs,u.oneCell'=true:=by
 have hs:=GP.has h;refine⟨(List.range (ah p*aS p)).map fun j=>(r j).getD undef,⟨?_,by simp⟩,?_,?_⟩
 .refine GP.within (r:=r) h fun j u hj hu=>?_;simp[hj,hu]
 .intro j u hu;simp only[axP,ax7]at hu;obtain⟨i,hi,rfl⟩:=hu;obtain⟨hlt,rfl⟩:=axK.1 hi;simp at hlt;simp only[List.getElem_range];obtain⟨u,hu,_⟩:=hs j hlt;rw[hu];rfl
 .intro u hu;simp only[ayd,ayh]at hu;obtain⟨j,hj,rfl⟩:=hu;obtain⟨u,hu,h1⟩:=hs j hj;rw[hu];exact h1
def vY{α:Type}{l:List α}{lo n j:Nat}{a:α}(h:((l.drop lo).take n)[j]?=some a):l[lo+j]?=some a/\j<n:=by
 rw[ayD]at h;split at h
 .rw [ayT]at h;exact⟨h,by assumption⟩
 .cases h
def GP.sub{p q:AV}{r:Nat->Option Value}{lo n:Nat}(h:GP S p r)(hq:gq p lo n=some q) :
 GP S q (fun j=>r (lo*aS p+j))/\ah q=n/\aS q=aS p/\lo+n<=ah p:=by
 cases p<;>try (simp[gq]at hq;done)
 all_goals try simp only[gq]at hq
 case pb l=>
  split at hq
  .rename_i hl;simp only[axH]at hq;subst hq;simp only[GP,ah,aS]at h ⊢;exact⟨fun j b hb=>by rw[ayQ];exact h _ _ (vY hb).1,by simp;omega,trivial,hl⟩
  .cases hq
 case pi k l=>
  split at hq
  .rename_i hl;simp only[axH]at hq;subst hq;simp only[GP,ah,aS]at h ⊢;exact⟨fun j b hb=>by rw[ayQ];exact h _ _ (vY hb).1,by simp;omega,trivial,hl⟩
  .cases hq
 case pc l=>
  split at hq
  .rename_i hl;simp only[axH]at hq;subst hq;simp only[GP,ah,aS]at h ⊢;exact⟨fun j b hb=>by rw[ayQ];exact h _ _ (vY hb).1,by simp;omega,trivial,hl⟩
  .cases hq
 case pr e l=>
  split at hq
  .rename_i hl;simp only[axH]at hq;subst hq;simp only[GP,ah,aS]at h ⊢;refine⟨⟨h.1,fun j b hb=>?_⟩,by simp;omega,trivial,hl⟩;obtain⟨cs,h1,h2,h3⟩:=h.2 _ _ (vY hb).1;refine⟨cs,h1,h2,fun k c hc=>?_⟩;obtain⟨v,h4,h5⟩:=h3 k c hc;exact⟨v,by rw[<- h4,ayI,azC],h5⟩
  .cases hq
 case pn=>
  cases lo with
  | succ lo=>simp at hq
  | zero=>cases n with
   | succ n=>simp at hq
   | zero=>simp at hq;subst hq;simp[GP,ah,aS]
def ug{α:Type}{a b:List α}{j:Nat}{x:α}(h:(a++b)[j]?=some x):(j<a.length/\a[j]?=some x)\/(a.length<=j/\b[j-a.length]?=some x):=by
 rcases Nat.lt_or_ge j a.length with hj|hj
 .rw [axL hj]at h;exact .inl ⟨hj,h⟩
 .rw [axS hj]at h;exact .inr ⟨hj,h⟩
def LP.app{p q s:AV}{a b:List Value}(hp:LP S p a)(hq:LP S q b)(h:l9 p q=some s):LP S s (a++b)/\ah s=ah p+ah q:=by
 obtain⟨h1,l1⟩:=hp;obtain⟨h2,l2⟩:=hq;have left:∀ (j:Nat) (v:Value),a[j]?=some v->(a++b)[j]?=some v:=fun j v hv=>by
  rw[axL (axK.1 hv).1];exact hv
 have right:∀ (j:Nat) (v:Value),b[j]?=some v->(a++b)[a.length+j]?=some v:=fun j v hv=>by
  rw[axS (by omega),show a.length+j-a.length=j by omega];exact hv
 unfold l9 at h;split at h
 .simp only[axH]at h;subst h;simp only[ah,aS,GP,LP,ayQ]at *;refine⟨⟨fun j x hx=>?_,by simp[l1,l2]⟩,by simp⟩;rcases ug hx with⟨_,h⟩|⟨hj,h⟩
  .exact left _ _ (h1 _ _ h)
  .have:=right _ _ (h2 _ _ h);rwa [l1,show ∀ m:Nat,m<=j->m+(j-m)=j by omega]at this;exact hj
 .split at h
  .rename_i hk;subst hk;simp only[axH]at h;subst h;simp only[ah,aS,GP,LP,ayQ]at *;refine⟨⟨fun j x hx=>?_,by simp[l1,l2]⟩,by simp⟩;rcases ug hx with⟨_,h⟩|⟨hj,h⟩
   .exact left _ _ (h1 _ _ h)
   .have:=right _ _ (h2 _ _ h);rwa [l1,show ∀ m:Nat,m<=j->m+(j-m)=j by omega]at this;exact hj
  .cases h
 .simp only[axH]at h;subst h;simp only[ah,aS,GP,LP,ayQ]at *;refine⟨⟨fun j x hx=>?_,by simp[l1,l2]⟩,by simp⟩;rcases ug hx with⟨_,h⟩|⟨hj,h⟩
  .obtain ⟨v,h3,h4⟩:=h1 _ _ h;exact⟨v,left _ _ h3,h4⟩
  .obtain ⟨v,h3,h4⟩:=h2 _ _ h;refine⟨v,?_,h4⟩;have:=right _ _ h3
   rwa [l1,show ∀ m:Nat,m<=j->m+(j-m)=j by omega]at this;exact hj
 .split at h
  .rename_i he;subst he;simp only[axH]at h;subst h;simp only[ah,aS,GP,LP]at *;refine⟨⟨⟨h1.1,fun j x hx=>?_⟩,by simp[l1,l2,ayI]⟩,by simp⟩;rcases ug hx with⟨_,h⟩|⟨hj,h⟩
   .obtain ⟨cs,h3,h4,h5⟩:=h1.2 _ _ h;exact⟨cs,h3,h4,fun k c hc=>let ⟨v,h6,h7⟩:=h5 k c hc;⟨v,left _ _ h6,h7⟩⟩
   .obtain ⟨cs,h3,h4,h5⟩:=h2.2 _ _ h;refine⟨cs,h3,h4,fun k c hc=>?_⟩;obtain⟨v,h6,h7⟩:=h5 k c hc;refine⟨v,?_,h7⟩;have:=right _ _ h6;rw[l1]at this;rename_i e x _ _ _
    rwa [<- azC,<- ayI,show ∀ m:Nat,m<=j->m+(j-m)=j by omega]at this
    exact hj
  .cases h
 .simp only[axH]at h;subst h;have:b=[]:=by simpa[ah]using l2
  subst this;exact⟨⟨by simpa using h1,by simpa using l1⟩,by simp[ah]⟩
 .simp only[axH]at h;subst h;have:a=[]:=by simpa[ah]using l1
  subst this;exact⟨⟨by simpa using h2,by simpa using l2⟩,by simp[ah]⟩
 .cases h
def GP.get{p a:AV}{r:Nat->Option Value}{i f:Nat}(hS:∀ k n,S (.int k n) (.int k n))(h:GP S p r)(ha:KL p i f=some a) :
 ∃ v,r (i*aS p+f)=some v/\v.oneCell'=true/\S a v:=by
 cases p<;>simp only[KL,reduceCtorEq]at ha
 case pb l=>
  cases f with
  | succ f=>simp at ha
  | zero=>
   simp only[ax7]at ha;obtain⟨b,hb,rfl⟩:=ha;simp only[GP,aS]at h ⊢;exact⟨_,by simpa using h _ _ hb,rfl,hS _ _⟩
 case pi k l=>
  cases f with
  | succ f=>simp at ha
  | zero=>
   simp only[ax7]at ha;obtain⟨b,hb,rfl⟩:=ha;simp only[GP,aS]at h ⊢;exact⟨_,by simpa using h _ _ hb,rfl,hS _ _⟩
 case pc l=>
  simp only[GP,aS]at h ⊢;obtain⟨v,h1,h2,h3⟩:=h _ _ ha;exact⟨v,by simpa using h1,h2,h3⟩
 case pr e l=>
  simp only[GP,aS]at h ⊢;split at ha
  .rename_i cs hcs;obtain⟨cs',h1,h2,h3⟩:=h.2 _ _ hcs;simp only[AV.pc.injEq]at h1;subst h1;obtain⟨v,h4,h5,h6⟩:=h3 _ _ ha;exact⟨v,h4,h5,h6⟩
  .cases ha
def qp{α:Type}{l:List α}{i j:Nat}{x a:α}(h:(l.set i x)[j]?=some a):(i=j/\a=x/\j<l.length)\/(i≠j/\l[j]?=some a):=by
 rw[azk]at h;split at h
 .rename_i e;subst e;split at h
  .simp at h;exact .inl ⟨rfl,h.symm,by assumption⟩
  .cases h
 .rename_i e;exact .inr ⟨e,h⟩
def GP.set{p a p':AV}{r:Nat->Option Value}{i f:Nat}{v:Value}(hS:∀ k n u,S (.int k n) u->u=.int k n)(h:GP S p r)(ha:UQ p i f a=some p')(hv:S a v)(h1:v.oneCell'=true) :
 GP S p' (fun j=>if j=i*aS p+f then some v else r j)/\ah p'=ah p/\aS p'=aS p/\i*aS p+f<ah p*aS p:=by
 unfold UQ at ha;split at ha
 .split at ha
  .rename_i l n hc;simp only[axH]at ha;subst ha;simp only[GP,ah,aS,ayQ,ay0]at h ⊢;refine⟨fun j b hb=>?_,by simp,trivial,by omega⟩;rcases qp hb with⟨e,rfl,_⟩|⟨e,hb⟩
   .rw [if_pos e.symm,hS _ _ _ hv];have:(UInt8.ofNat n.toNat).toNat=n.toNat:=by simp;omega
    rw[this,Int.toNat_of_nonneg hc.2.1]
   .rw [if_neg (ax6 e)];exact h _ _ hb
  .cases ha
 .split at ha
  .rename_i k l k' n hc;obtain⟨rfl,hc⟩:=hc;simp only[axH]at ha;subst ha;simp only[GP,ah,aS,ayQ,ay0]at h ⊢;refine⟨fun j b hb=>?_,by simp,trivial,by omega⟩;rcases qp hb with⟨e,rfl,_⟩|⟨e,hb⟩
   .rw [if_pos e.symm,hS _ _ _ hv]
   .rw [if_neg (ax6 e)];exact h _ _ hb
  .cases ha
 .split at ha
  .rename_i l _ hc;simp only[axH]at ha;subst ha;simp only[GP,ah,aS,ayQ]at h ⊢;refine⟨fun j b hb=>?_,by simp,trivial,by omega⟩;rcases qp hb with⟨e,rfl,_⟩|⟨e,hb⟩
   .exact ⟨v,by rw[if_pos e.symm],h1,hv⟩
   .obtain ⟨u,h2,h3⟩:=h _ _ hb;exact⟨u,by rw[if_neg (ax6 e)];exact h2,h3⟩
  .cases ha
 .split at ha
  .rename_i e l _ cs hcs;split at ha
   .rename_i hc;simp only[axH]at ha;subst ha;simp only[GP,ah,aS]at h ⊢;have hi:=(axK.1 hcs).1;obtain⟨cs',e1,e2,h3⟩:=h.2 _ _ hcs;simp only[AV.pc.injEq]at e1;subst e1;have hlt:i*e+f<l.length*e:=by have:(i+1)*e<=l.length*e:=ayi _ hi;rw[azs]at this;omega
    have ne:∀ j k,k<e->(j≠i\/k≠f)->j*e+k≠i*e+f:=by
     intro j k hk hjk he;have d1:(j*e+k)/e=j:=by rw[ayS j e,Nat.mul_add_div h.1,azy hk];omega
     have d2:(i*e+f)/e=i:=by rw[ayS i e,Nat.mul_add_div h.1,azy (by omega)];omega
     rw[he,d2]at d1;subst d1;omega
    refine⟨⟨h.1,fun j b hb=>?_⟩,by simp,trivial,hlt⟩;rcases qp hb with⟨e',rfl,_⟩|⟨e',hb⟩
    .subst e';refine⟨_,rfl,by simp[e2],fun k c hk=>?_⟩;rcases qp hk with⟨e',rfl,_⟩|⟨e',hk⟩
     .subst e';exact⟨v,by simp,h1,hv⟩
     .obtain ⟨u,h4,h5⟩:=h3 k c hk;refine⟨u,?_,h5⟩;have hk':=(axK.1 hk).1;exact(if_neg (ne i k (by omega) (.inr (ax6 e')))).trans h4
    .obtain ⟨cs',e1,e2',h4⟩:=h.2 _ _ hb;refine⟨cs',e1,e2',fun k c hk=>?_⟩;obtain⟨u,h5,h6⟩:=h4 k c hk;refine⟨u,?_,h6⟩;have hk':=(axK.1 hk).1;exact(if_neg (ne j k (by omega) (.inl (ax6 e')))).trans h5
   .cases ha
  .cases ha
 .cases ha
end
def fZ.evo{T:Nat->Nat->Prop}{m:Nat}{K K':Kx}(h:Evo T m K K')(hm:K.H.length<=m){ob:Obj}{r:Nat->Option Value}(hp:fZ K T ob r):fZ K' T ob r:=by
 unfold fZ at hp ⊢;split
 .rename_i hi;rw[if_pos hi]at hp;exact iZ.imp (fun _ _=>aU.evo h hm) hp
 .rename_i hi;rw[if_neg hi]at hp;exact jM (fun b hb=>NT.evo h hb) _ _ _ (fun _ _ h=>h) hp
def gB.evo{T:Nat->Nat->Prop}{m:Nat}{K K':Kx}(h:Evo T m K K')(hm:K.H.length<=m){j:Nat}{ob:Obj}(hμ:K'.μ j=K.μ j)
 (hb:Real ob (K.μ j)->K'.w.heap[(K.μ j).blk]?=K.w.heap[(K.μ j).blk]?)(ho:gB K T j ob):gB K' T j ob:=by
 unfold gB at ho ⊢;split at ho
 .rename_i l hl;rw[hμ,hb (.inl (by rw[hl];rfl))];obtain⟨es,clock,h1,h2,h3,h4⟩:=ho;refine⟨es,clock,h1,h2,h3,fun i a ha=>?_⟩;obtain⟨k,v,e,h5,h6,h7,h8,h9⟩:=h4 i a ha;exact⟨k,v,e,h5,h6,h7,h8,aK.evo h hm h9⟩
 .rw [hμ];refine⟨ho.1,fun hc=>?_⟩;obtain⟨cur,E,h1,h2,h3,h4⟩:=ho.2 hc;exact⟨cur,E,by rw[hb (.inr hc)];exact h1,h2,h3,fZ.evo h hm h4⟩
def cell_of_heap{w w':World}{b:Nat}(h:w'.heap[b]?=w.heap[b]?)(off:Nat):w'.cell? ⟨b,off,none⟩=w.cell? ⟨b,off,none⟩:=by
 simp[World.cell?,h]
def Inv.turn{C:Ctx}{T:Nat->Nat->Prop}{K K':Kx}(hI:Inv C K T)(o:Nat)
 (hlen:K.H.length<=K'.H.length)
 (hoth:∀ j,j≠o->∀ ob,K'.H[j]?=some (some ob)->K.H[j]?=some (some ob)/\K'.μ j=K.μ j)
 (hsz:K.w.heap.size<=K'.w.heap.size)(hos:K'.w.os=K.w.os)(htape:K'.w.tape=K.w.tape)(hout:K'.w.output=K.w.output)
 (hold:∀ b,b<K.w.heap.size->(∀ ob,K.H[o]?=some (some ob)->Real ob (K.μ o)->(K.μ o).blk≠b) ->
  K'.w.heap[b]?=K.w.heap[b]?\/(¬ Own K b/\T 0 b/\∀ off,K'.w.cell? ⟨b,off,none⟩=K.w.cell? ⟨b,off,none⟩))
 (hnew:∀ ob',K'.H[o]?=some (some ob')->Real ob' (K'.μ o) ->
  ((∃ ob,K.H[o]?=some (some ob)/\Real ob (K.μ o)/\(K.μ o).blk=(K'.μ o).blk)\/K.w.heap.size<=(K'.μ o).blk)/\(K'.μ o).blk<K'.w.heap.size)
 (hg:o<K.H.length->∀ ob',K'.H[o]?=some (some ob')->∃ ob,K.H[o]?=some (some ob)/\ob.g<=ob'.g/\(ob'.g=ob.g->K'.μ o=K.μ o/\Same ob ob'))
 (hob:Evo T K.H.length K K'->∀ ob',K'.H[o]?=some (some ob')->gB K' T o ob') :
 Inv C K' T/\Evo T K.H.length K K':=by
 have hown:∀ b,b<K.w.heap.size->Own K' b->Own K b:=by
  rintro b hb ⟨j,ob,hj,hr,rfl⟩;by_cases e:j=o
  .subst e;rcases(hnew ob hj hr).1 with⟨ob0,h1,h2,h3⟩|h
   .exact ⟨j,ob0,h1,h2,h3⟩
   .omega
  .obtain ⟨h1,h2⟩:=hoth j e ob hj;exact⟨j,ob,h1,by rw[<- h2];exact hr,by rw[h2]⟩
 have hfree:∀ b,¬ Own K b->∀ ob,K.H[o]?=some (some ob)->Real ob (K.μ o)->(K.μ o).blk≠b:=by intro b hb ob h1 h2 h3;exact hb ⟨o,ob,h1,h2,h3⟩
 have hE:Evo T K.H.length K K':=by
  refine⟨axO _,hlen,hsz,hos,htape,hout,?_,hown,?_,?_⟩
  .intro j hj ob' hj';by_cases e:j=o
   .subst e;exact hg hj ob' hj'
   .obtain ⟨h1,h2⟩:=hoth j e ob' hj';exact⟨ob',h1,axO _,fun _=>⟨h2,Same.refl _⟩⟩
  .intro b hb hn off;rcases hold b hb (hfree b hn)with h|h
   .exact cell_of_heap h off
   .exact h.2.2 off
  .intro b hb hn ht;rcases hold b hb (hfree b hn)with h|h
   .exact h
   .exact absurd h.2.1 ht
 refine⟨⟨?_,?_,?_,?_,hI.mono,?_⟩,hE⟩
 .intro j ob hj;by_cases e:j=o
  .subst e;exact hob hE ob hj
  .obtain ⟨h1,h2⟩:=hoth j e ob hj;refine gB.evo hE (axO _) h2 (fun hr=>?_) (hI.obj j ob h1);have hO:Own K (K.μ j).blk:=⟨j,ob,h1,hr,rfl⟩;have hlt:=(hI.own _ hO).1;rcases hold _ hlt (fun ob0 h3 h4 h5=>e (hI.inj o j ob0 ob h3 h1 h4 hr h5).symm)with h|h
   .exact h
   .exact absurd hO h.1
 .intro j j' ob ob' hj hj' hr hr' hb;by_cases e:j=o
  .by_cases e':j'=o
   .rw [e,e']
   .subst e;obtain⟨h1,h2⟩:=hoth j' e' ob' hj';rw[h2]at hr' hb;have hO:Own K (K.μ j').blk:=⟨j',ob',h1,hr',rfl⟩;rcases(hnew ob hj hr).1 with⟨ob0,h3,h4,h5⟩|h
    .exact hI.inj j j' ob0 ob' h3 h1 h4 hr' (h5.trans hb)
    .have:=(hI.own _ hO).1;omega
  .by_cases e':j'=o
   .subst e';obtain⟨h1,h2⟩:=hoth j e ob hj;rw[h2]at hr hb;have hO:Own K (K.μ j).blk:=⟨j,ob,h1,hr,rfl⟩;rcases(hnew ob' hj' hr').1 with⟨ob0,h3,h4,h5⟩|h
    .exact hI.inj j j' ob ob0 h1 h3 hr h4 (hb.trans h5.symm)
    .have:=(hI.own _ hO).1;omega
   .obtain ⟨h1,h2⟩:=hoth j e ob hj;obtain⟨h3,h4⟩:=hoth j' e' ob' hj';rw[h2]at hr hb;rw[h4]at hr' hb;exact hI.inj j j' ob ob' h1 h3 hr hr' hb
 .rintro b ⟨j,ob,hj,hr,rfl⟩;by_cases e:j=o
  .subst e;obtain⟨h1,h2⟩:=hnew ob hj hr;refine⟨h2,?_⟩;rcases h1 with⟨ob0,h3,h4,h5⟩|h
   .rw [<- h5];exact(hI.own _ ⟨j,ob0,h3,h4,rfl⟩).2
   .exact hI.new _ h
  .obtain ⟨h1,h2⟩:=hoth j e ob hj;rw[h2]at hr ⊢;have:=hI.own _ ⟨j,ob,h1,hr,rfl⟩;exact⟨ayw this.1 hsz,this.2⟩
 .exact fun b hb=>hI.new b (ayO hsz hb)
 .intro g p hp;obtain⟨h1,h2,h3⟩:=hI.glob g p hp;exact⟨h1,(NT.evo hE h2).1,jM (fun b hb=>NT.evo hE hb) _ _ _ (fun j u hu=>(NT.evo hE h2).2 _ _ hu) h3⟩
def Inv.world{C:Ctx}{T:Nat->Nat->Prop}{K:Kx}{w':World}(hI:Inv C K T)
 (hsz:K.w.heap.size<=w'.heap.size)(hos:w'.os=K.w.os)(htape:w'.tape=K.w.tape)(hout:w'.output=K.w.output)
 (hold:∀ b,b<K.w.heap.size->w'.heap[b]?=K.w.heap[b]?\/(¬ Own K b/\T 0 b/\∀ off,w'.cell? ⟨b,off,none⟩=K.w.cell? ⟨b,off,none⟩)) :
 Inv C ⟨K.μ,K.H,w'⟩ T/\Evo T K.H.length K ⟨K.μ,K.H,w'⟩:=by
 have hn:∀ ob,K.H[K.H.length]?≠some (some ob):=fun ob h=>by simp at h
 refine Inv.turn hI K.H.length (axO _) (fun j _ ob h=>⟨h,rfl⟩) hsz hos htape hout (fun b hb _=>hold b hb) (fun ob h=>absurd h (hn ob)) (fun h=>by omega) (fun _ ob h=>absurd h (hn ob))
def Inv.push{C:Ctx}{T:Nat->Nat->Prop}{K:Kx}{w':World}(hI:Inv C K T)(ob:Obj)(m:Pl)
 (hsz:K.w.heap.size<=w'.heap.size)(hos:w'.os=K.w.os)(htape:w'.tape=K.w.tape)(hout:w'.output=K.w.output)
 (hold:∀ b,b<K.w.heap.size->w'.heap[b]?=K.w.heap[b]?)
 (hm:Real ob m->K.w.heap.size<=m.blk/\m.blk<w'.heap.size)
 (hob:∀ μ',(∀ j,j<K.H.length->μ' j=K.μ j)->μ' K.H.length=m->Evo T K.H.length K ⟨μ',K.H++[some ob],w'⟩->gB ⟨μ',K.H++[some ob],w'⟩ T K.H.length ob) :
 ∃ μ',μ' K.H.length=m/\Inv C ⟨μ',K.H++[some ob],w'⟩ T/\Evo T K.H.length K ⟨μ',K.H++[some ob],w'⟩:=by
 have hn:∀ ob,K.H[K.H.length]?≠some (some ob):=fun ob h=>by simp at h
 let μ':Nat->Pl:=fun j=>if j=K.H.length then m else K.μ j
 have e1:μ' K.H.length=m:=by simp[μ']
 have e2:∀ j,j<K.H.length->μ' j=K.μ j:=fun j hj=>by simp[μ'];omega
 have e3:∀ ob',(K.H++[some ob])[K.H.length]?=some (some ob')->ob'=ob:=fun ob' h=>by simpa using h.symm
 refine⟨μ',e1,Inv.turn hI K.H.length (by simp) ?_ hsz hos htape hout (fun b hb _=>.inl (hold b hb)) ?_ (fun h=>by omega) ?_⟩
 .intro j hj ob' h;by_cases hlt:j<K.H.length
  .rw [axL hlt]at h;exact⟨h,e2 j hlt⟩
  .rw [axS (by omega)]at h;have:=(axK.1 h).1;simp at this;omega
 .intro ob' h hr;have:=e3 ob' h;subst this;simp only[e1]at hr ⊢;exact⟨.inr (hm hr).1,(hm hr).2⟩
 .intro hE ob' h;have:=e3 ob' h;subst this;exact hob μ' e2 e1 hE
def sJ{C:Ctx}{t:TypeId}(h:okT C t=true):∃ d,C.P.underlying t=some d/\und C t=d:=by
 unfold okT at h;cases hu:C.P.underlying t with
 | none=>rw[hu]at h;cases h
 | some d=>exact⟨d,rfl,by simp[und,hu]⟩
def xK{P:Program}{t:TypeId}{d:TypeDesc}(h:P.underlying t=some d):∃ i,P.info? t=some i:=by
 unfold Program.underlying at h;cases hi:P.info? t with
 | none=>rw[hi]at h;cases h
 | some i=>exact⟨i,rfl⟩
def run_sizeOf{C:Ctx}{w:World}{t:TypeId}{d:TypeDesc}(h:C.P.underlying t=some d):(sizeOf t).run C.P w=.ok (sizeT C t) w:=by
 obtain⟨i,hi⟩:=xK h;simp[sizeOf,typeInfo,hi,sizeT]
def rO{C:Ctx}{w:World}{t:TypeId}{d:TypeDesc}(h:C.P.underlying t=some d):(isAgg t).run C.P w=.ok (bI C t) w:=by
 have hu:und C t=d:=by simp[und,h]
 unfold isAgg bI;rw[hu];simp only[Sem.run_bind,bg h,Result.andThen_ok];cases d<;>rfl
def xM{C:Ctx}{t:TypeId}(h:bI C t=true):∃ d,C.P.underlying t=some d:=by
 unfold bI und at h;cases hu:C.P.underlying t with
 | none=>rw[hu]at h;simp at h
 | some d=>exact⟨d,rfl⟩
def Nv{p a:AV}{i f:Nat}(h:KL p i f=some a):ah p≠0:=by
 cases p<;>simp only[KL,reduceCtorEq]at h
 case pb l=>cases f<;>simp at h;obtain⟨b,hb,_⟩:=h;simp only[ah];have:=(axK.1 hb).1;omega
 case pi l=>cases f<;>simp at h;obtain⟨b,hb,_⟩:=h;simp only[ah];have:=(axK.1 hb).1;omega
 case pc l=>simp only[ah];have:=(axK.1 h).1;omega
 case pr e l=>
  split at h
  .rename_i hr;simp only[ah];have:=(axK.1 hr).1;omega
  .cases h
def gB.open{K:Kx}{T:Nat->Nat->Prop}{o:Nat}{ob:Obj}(h:gB K T o ob)(hp:ig ob.p=false):vW (K.μ o) ob/\Bd K T (K.μ o) ob:=by
 unfold gB at h;split at h
 .rename_i heq;rw[heq]at hp;simp[ig]at hp
 .exact h
def yM{C:Ctx}{K:Kx}{T:Nat->Nat->Prop}(hI:Inv C K T){o g:Nat}{ob:Obj}(hl:live K.H o g=some ob)(hp:ig ob.p=false)(hn:ah ob.p≠0) :
 fZ K T ob (fun j=>K.w.cell? ⟨(K.μ o).blk,(K.μ o).base+j,none⟩):=by
 obtain⟨h1,_⟩:=cZ.1 hl;obtain⟨hs,hc⟩:=(hI.obj o ob h1).open hp;obtain⟨cur,E,h2,h3,h4,h5⟩:=hc (by have:=hs.1;omega);have:(fun j=>K.w.cell? ⟨(K.μ o).blk,(K.μ o).base+j,none⟩)=(fun j=>cur[(K.μ o).base+j]?):=by funext j;simp[World.cell?,h2]
 rw[this];exact h5
def aU.xO(K:Kx)(T:Nat->Nat->Prop)(k:IntKind)(n:Int):aU K T (.int k n) (.int k n):=by simp[aU,RV]
def RV.retag{K:Kx}{T:Nat->Nat->Prop}{t:Nat}{a:AV}{v:Value}(h:RV K.w (NT K T t) a v):aU K T (retag t a) v:=by
 cases a<;>simp only[RV]at h<;>simp only[AM.retag,aU,RV]<;>exact h
def GP.part{S:AV->Value->Prop}{C:Ctx}{t:TypeId}{c:List AV}{q:AV}{r:Nat->Option Value}{K:Kx}{T:Nat->Nat->Prop}(hS:∀ a v,S a v->aU K T a v)
 (h:GP S (.pc c) r)(hq:nV C t c=some q) :
 ∃ cs:List Value,cs.length=c.length/\(∀ j u,cs[j]?=some u->r j=some u)/\iZ K T q (fun j=>cs[j]?)/\aV q=c.length:=by
 obtain⟨cs,⟨h1,h2⟩,h3,h4⟩:=GP.list h;have hc:sH K T c (fun j=>cs[j]?):=GP.imp (p:=.pc c) hS (fun _ _ h=>h) h1;obtain⟨h5,h6⟩:=yL hc hq;exact⟨cs,by simpa[ah,aS]using h2,h3,h5,h6⟩
def GP.whole{S:AV->Value->Prop}{p:AV}{r:Nat->Option Value}{K:Kx}{T:Nat->Nat->Prop}(hS:∀ a v,S a v->aU K T a v)(h:GP S p r) :
 ∃ cs:List Value,cs.length=ah p*aS p/\(∀ j u,cs[j]?=some u->r j=some u)/\iZ K T p (fun j=>cs[j]?):=by
 obtain⟨cs,⟨h1,h2⟩,h3,h4⟩:=GP.list h;exact⟨cs,h2,h3,GP.imp hS (fun _ _ h=>h) h1⟩
def GP.agg{S:AV->Value->Prop}{C:Ctx}{t:TypeId}{p q:AV}{r:Nat->Option Value}{i f:Nat}{K:Kx}{T:Nat->Nat->Prop}(hS:∀ a v,S a v->aU K T a v)
 (h:GP S p r)(hq:Ir C t p i f=some q) :
 ah p≠0/\∃ cs:List Value,cs.length=sizeT C t/\(∀ j u,cs[j]?=some u->r (i*aS p+f+j)=some u)/\iZ K T q (fun j=>cs[j]?)/\aV q=sizeT C t:=by
 unfold Ir at hq;simp only at hq;split at hq
 .cases hq
 .rename_i hn;have whole:∀ {q:AV},i=0->f=0->ah p*aS p=sizeT C t->p=q->ah p≠0/\∃ cs:List Value,cs.length=sizeT C t/\(∀ j u,cs[j]?=some u->r (i*aS p+f+j)=some u)/\iZ K T q (fun j=>cs[j]?)/\aV q=sizeT C t:=by rintro q rfl rfl hl rfl;obtain⟨cs,h1,h2,h3⟩:=GP.whole hS h;refine⟨fun h0=>hn (by rw[<- hl,h0];simp),cs,by rw[h1,hl],fun j u hu=>by simpa using h2 j u hu,h3,hl⟩
  cases p<;>simp only[reduceCtorEq]at hq
  case pb l=>
   split at hq
   .rename_i hc;simp only[axH]at hq;exact whole hc.1 hc.2.1 (by simpa[ah,aS]using hc.2.2) hq
   .cases hq
  case pi k l=>
   split at hq
   .rename_i hc;simp only[axH]at hq;exact whole hc.1 hc.2.1 (by simpa[ah,aS]using hc.2.2) hq
   .cases hq
  case pc l=>
   split at hq
   .rename_i hc;obtain⟨rfl,rfl,hl⟩:=hc;obtain⟨cs,h1,h2,h3,h4⟩:=GP.part hS h hq;exact⟨by simp only[ah];omega,cs,by omega,fun j u hu=>by simpa using h2 j u hu,h3,by omega⟩
   .split at hq
    .rename_i hc;have hsub:GP S (.pc ((l.drop (i+f)).take (sizeT C t))) (fun j=>r (i*aS (.pc l)+f+j)):=by simp only[GP,aS,ayQ]at h ⊢;exact fun j a ha=>h _ _ (vY ha).1
     obtain⟨cs,h1,h2,h3,h4⟩:=GP.part hS hsub hq;refine⟨?_,cs,by omega,h2,h3,by omega⟩;simp only[ah];simp at hc;omega
    .cases hq
  case pr e l=>
   split at hq
   .rename_i hc;simp only[axH]at hq;exact whole hc.2.1 hc.2.2.1 hc.2.2.2 hq
   .split at hq
    .rename_i cs0 hcs;have hi:=(axK.1 hcs).1;obtain⟨cs',e1,e2,h3⟩:=h.2 _ _ hcs;simp only[AV.pc.injEq]at e1;subst e1;have hrow:GP S (.pc ((cs0.drop f).take (sizeT C t))) (fun j=>r (i*aS (.pr e l)+f+j)):=by simp only[GP,aS];intro j a ha;obtain⟨v,h4,h5⟩:=h3 _ _ (vY ha).1;exact⟨v,by rw[<- h4,azC],h5⟩
     split at hq
     .rename_i hc;simp only[axH]at hq;subst hq;obtain⟨_,rfl,hl⟩:=hc;have hrow':GP S (.pc cs0) (fun j=>r (i*aS (.pr e l)+0+j)):=by
       have:(cs0.drop 0).take (sizeT C t)=cs0:=by rw[ayZ,<- hl,ayM]
       rwa [this]at hrow
      obtain⟨cs,h1,h2,h4⟩:=GP.whole hS hrow';exact⟨by simp only[ah];omega,cs,by simp[ah,aS]at h1;omega,h2,h4,by simp[aV,ah,aS,hl]⟩
     .split at hq
      .rename_i hc;obtain⟨cs,h1,h2,h3,h4⟩:=GP.part hS hrow hq;exact⟨by simp only[ah];omega,cs,by omega,h2,h3,by omega⟩
      .cases hq
    .cases hq
def Ny{C:Ctx}{t:TypeId}{p q:AV}{i f:Nat}(hq:Ir C t p i f=some q):ah p≠0:=by
 unfold Ir at hq;simp only at hq;split at hq
 .cases hq
 .rename_i hn;cases p<;>simp only[reduceCtorEq]at hq<;>simp only[ah]
  case pb l=>split at hq<;>simp_all
  case pi k l=>split at hq<;>simp_all
  case pc l=>
   split at hq
   .rename_i hc;rw[hc.2.2];exact hn
   .split at hq
    .rename_i hc;simp at hc;omega
    .cases hq
  case pr e l=>
   split at hq
   .rename_i hc;intro h0;exact hn (by rw[<- hc.2.2.2];simp[ah,h0])
   .split at hq
    .rename_i hcs;have:=(axK.1 hcs).1;omega
    .cases hq
def qR{C:Ctx}{w:World}{t:TypeId}{d:TypeDesc}(hu:C.P.underlying t=some d)(ha:bI C t=true){b off:Nat}{cs:List Value}
 (hl:cs.length=sizeT C t)(h:∀ j u,cs[j]?=some u->w.cell? ⟨b,off+j,none⟩=some u):(loadVar t ⟨b,off,none⟩).run C.P w=.ok (.agg cs.toArray) w:=by
 unfold loadVar;simp only[Sem.run_bind,rO hu,ha,Result.andThen_ok,if_true,run_sizeOf hu];rw[<- hl,run_loadCells_list (P:=C.P) (w:=w) ⟨b,off,none⟩ cs]
 .rfl
 .intro j v hv;have:=h j v hv;unfold Addr.add;split
  .rename_i h0;subst h0;simpa using this
  .exact this
def pI{C:Ctx}{w:World}{t:TypeId}{d:TypeDesc}(hu:C.P.underlying t=some d)(ha:bI C t=false){a:Addr}{v:Value}
 (h:w.cell? a=some v):(loadVar t a).run C.P w=.ok v w:=by
 unfold loadVar;simp only[Sem.run_bind,rO hu,ha,Result.andThen_ok,axZ,if_false];rw[run_load,h]
def zN(t:Nat):∀ (l:List AV) (j:Nat),(nZ t l)[j]?=(l[j]?).map (retag t)
 | [],j=>by simp[nZ]
 | x::l,j=>by cases j<;>simp[nZ,zN t l]
def zO(t:Nat):∀ (l:List AV),(nZ t l).length=l.length
 | []=>rfl
 | x::l=>by simp[nZ,zO t l]
def Gy(t:Nat):∀ (l:List AV) (j:Nat),(xI t l)[j]?=(l[j]?).map fun a=>match a with | .pc r=>.pc (nZ t r)|a=>a
 | [],j=>by simp[xI]
 | x::l,j=>by cases x<;>cases j<;>simp[xI,Gy t l]
def Gz(t:Nat):∀ (l:List AV),(xI t l).length=l.length
 | []=>rfl
 | x::l=>by cases x<;>simp[xI,Gz t l]
def RV.const{K:Kx}{T:Nat->Nat->Prop}{t:Nat}{a:AV}{v:Value}(h:RV K.w (NT K T t) a v):aU K (fun _=>T t) a v:=by
 cases a<;>simp only[RV]at h<;>simp only[aU,RV]<;>exact h
def aU.TD{K:Kx}{T:Nat->Nat->Prop}{t:Nat}{a:AV}{v:Value}(h:aU K (fun _=>T t) a v):aU K T (retag t a) v:=by
 cases a<;>simp only[aU,RV]at h<;>simp only[AM.retag,aU,RV]<;>exact h
def GH{K:Kx}{T:Nat->Nat->Prop}{t:Nat}{q:AV}{r:Nat->Option Value}(h:iZ K (fun _=>T t) q r):iZ K T (xE t q) r/\aV (xE t q)=aV q:=by
 cases q<;>simp only[xE,and_true]<;>try (first|exact h|(simp only[iZ,GP]at h ⊢;done)|(simp only[iZ,GP]at h ⊢;exact h))
 case pc l=>
  simp only[iZ,GP]at h ⊢;refine⟨fun j a ha=>?_,by simp[aV,ah,aS,zO]⟩;rw[zN]at ha;simp only[ax7]at ha;obtain⟨a0,h3,rfl⟩:=ha;obtain⟨v,h4,h5,h6⟩:=h j a0 h3;exact⟨v,h4,h5,aU.TD h6⟩
 case pr e l=>
  simp only[iZ,GP]at h ⊢;refine⟨⟨h.1,fun j a ha=>?_⟩,by simp[aV,ah,aS,Gz]⟩;rw[Gy]at ha;simp only[ax7]at ha;obtain⟨a0,h3,rfl⟩:=ha;obtain⟨cs,rfl,h4,h5⟩:=h.2 j a0 h3;refine⟨_,rfl,by rw[zO];exact h4,fun k b hb=>?_⟩;rw[zN]at hb;simp only[ax7]at hb;obtain⟨b0,h6,rfl⟩:=hb;obtain⟨v,h7,h8,h9⟩:=h5 k b0 h6;exact⟨v,h7,h8,aU.TD h9⟩
def aF.agg'{K:Kx}{T:Nat->Nat->Prop}{q:AV}{cs:List Value}(h:iZ K T q (fun j=>cs[j]?))(hl:cs.length=aV q):aF K T (.agg q) (.agg cs.toArray):=by
 simp only[aF,aK];exact⟨_,rfl,by simpa using hl,by simpa using h⟩
def aF.s{K:Kx}{T:Nat->Nat->Prop}{a:AV}{v:Value}(h:aU K T a v):aF K T a v:=by
 cases a<;>simp only[aF,aK]<;>first|exact h|(simp[aU,RV]at h;done)
def MP{C:Ctx}{K:Kx}{T:Nat->Nat->Prop}(hI:Inv C K T){t:TypeId}{a x:AV}{v:Value}(hv:aF K T a v)(h:wH C K.H t a=some x) :
 ∃ u,(Instr.loadAt t v).run C.P K.w=.ok u K.w/\aF K T x u:=by
 unfold wH at h;split at h
 .cases h
 rename_i hok;obtain⟨d,hd,_⟩:=sJ (by simpa using hok);have go:∀ {b off:Nat} {u:Value},(loadVar t ⟨b,off,none⟩).run C.P K.w=.ok u K.w->(Instr.loadAt t (.pointer (some ⟨b,off,none⟩))).run C.P K.w=.ok u K.w:=by intro b off u h;simp only[Instr.loadAt,Instr.sureAddr,Sem.run_bind,Sem.run_pure,Result.andThen_ok];exact h
 split at h
 .rename_i o i f g;split at h
  .rename_i ob hob;simp only[aF,aK,aU]at hv;obtain⟨h1,h2⟩:=cZ.1 hob;obtain⟨hpm,rfl⟩:=(hv.2.2 ob h1).2 h2;split at h
   .rename_i jQ;split at h
    .rename_i hagg;simp only[ax7]at h;obtain⟨q,hq,rfl⟩:=h;have hn:ah ob.p≠0:=Ny hq;have hp:=yM hI hob hpm hn;unfold fZ at hp;rw[if_pos jQ]at hp;obtain⟨_,cs,h3,h4,h5,h6⟩:=GP.agg (K:=K) (T:=T) (fun a v h=>h) hp hq;refine⟨_,go (qR hd hagg h3 fun j u hu=>?_),aF.agg' h5 (by rw[h3,h6])⟩;have:=h4 j u hu;rw[<- this];congr 2;omega
    .rename_i hagg;have hp:=yM hI hob hpm (Nv h);unfold fZ at hp;rw[if_pos jQ]at hp;obtain⟨u,h3,h4,h5⟩:=GP.get (aU.xO K T) hp h;refine⟨u,go (pI hd (by simpa using hagg) ?_),aF.s h5⟩;rw[<- h3];congr 2;omega
   .rename_i jQ;split at h
    .rename_i hagg;simp only[ax7]at h;obtain⟨q,hq,rfl⟩:=h;have hn:ah ob.p≠0:=Ny hq;have hp:=yM hI hob hpm hn;unfold fZ at hp;rw[if_neg jQ]at hp;obtain⟨_,cs,h3,h4,h5,h6⟩:=GP.agg (K:=K) (T:=fun _=>T ob.tg) (fun a v h=>RV.const h) (jE.1 hp) hq;obtain⟨h7,h8⟩:=GH h5;refine⟨_,go (qR hd hagg h3 fun j u hu=>?_),aF.agg' h7 (by rw[h3,h8,h6])⟩;have:=h4 j u hu;rw[<- this];congr 2;omega
    .rename_i hagg;simp only[ax7]at h;obtain⟨x0,hx,rfl⟩:=h;have hp:=yM hI hob hpm (Nv hx);unfold fZ at hp;rw[if_neg jQ]at hp;obtain⟨u,h3,h4,h5⟩:=GP.get (S:=RV K.w (NT K T ob.tg)) (fun k n=>by simp[RV]) (jE.1 hp) hx;refine⟨u,go (pI hd (by simpa using hagg) ?_),aF.s (RV.retag h5)⟩;rw[<- h3];congr 2;omega
  .cases h
 .rename_i p i f tg;simp only[aF,aK]at hv;obtain⟨b,off,rfl,hn,hN,hp⟩:=hv;split at h
  .rename_i hagg;simp only[ax7]at h;obtain⟨q,hq,rfl⟩:=h;obtain⟨_,cs,h3,h4,h5,h6⟩:=GP.agg (K:=K) (T:=fun _=>T tg) (fun a v h=>RV.const h) (jE.1 hp) hq;obtain⟨h7,h8⟩:=GH h5;refine⟨_,go (qR hd hagg h3 fun j u hu=>?_),aF.agg' h7 (by rw[h3,h8,h6])⟩;have:=h4 j u hu;rw[<- this];congr 2;omega
  .rename_i hagg;simp only[ax7]at h;obtain⟨x0,hx,rfl⟩:=h;obtain⟨u,h3,h4,h5⟩:=GP.get (S:=RV K.w (NT K T tg)) (fun k n=>by simp[RV]) (jE.1 hp) hx;refine⟨u,go (pI hd (by simpa using hagg) ?_),aF.s (RV.retag h5)⟩;rw[<- h3];congr 2;omega
 .cases h
def add_lit(b o n:Nat):(⟨b,o,none⟩:Addr).add n=⟨b,o+n,none⟩:=by
 unfold Addr.add;split<;>simp_all
def Qx(p:AV)(o i f g d:Nat):∃ i' f',AL p o i f g d=.ptr o i' f' g/\i'*aS p+f'=i*aS p+f+d:=by
 cases p<;>simp only[AL,aS]<;>first|exact⟨_,_,rfl,by omega⟩|skip
def KZ(p:AV)(i f t d:Nat):∃ i' f',AO p i f t d=.jl p i' f' t/\i'*aS p+f'=i*aS p+f+d:=by
 cases p<;>simp only[AO,aS]<;>first|exact⟨_,_,rfl,by omega⟩|skip
def Nz{K:Kx}{T:Nat->Nat->Prop}{o i f g i' f' d:Nat}{v:Value}{ob:Obj}(hob:live K.H o g=some ob)(hv:aF K T (.ptr o i f g) v)
 (he:i'*aS ob.p+f'=i*aS ob.p+f+d) :
 ∃ b off,v=.pointer (some ⟨b,off,none⟩)/\aF K T (.ptr o i' f' g) (.pointer (some ⟨b,off+d,none⟩)):=by
 simp only[aF,aK,aU]at hv ⊢;obtain⟨h1,h2⟩:=cZ.1 hob;obtain⟨h3,rfl⟩:=(hv.2.2 ob h1).2 h2;refine⟨_,_,rfl,hv.1,rfl,fun ob' h'=>?_⟩;rw[h1]at h';simp only[axH]at h';subst h';refine⟨by omega,fun _=>⟨h3,?_⟩⟩;congr 3;omega
def Jl{K:Kx}{T:Nat->Nat->Prop}{p:AV}{i f t i' f' d:Nat}{v:Value}(hv:aF K T (.jl p i f t) v)
 (he:i'*aS p+f'=i*aS p+f+d) :
 ∃ b off,v=.pointer (some ⟨b,off,none⟩)/\aF K T (.jl p i' f' t) (.pointer (some ⟨b,off+d,none⟩)):=by
 simp only[aF,aK]at hv ⊢;obtain⟨b,off,rfl,h1,h2,h3⟩:=hv;exact⟨_,_,rfl,b,off,by congr 3;omega,h1,h2,h3⟩
def Bh{C:Ctx}{s:TypeId}{n:Nat}{fd:Field}(h:(fieldsOf C s)[n]?=some fd):∃ fs:Array Field,C.P.underlying s=some (.struct fs)/\fs[n]?=some fd:=by
 unfold fieldsOf at h;split at h
 .rename_i fs hu;exact⟨fs,bf hu (by simp),by simpa using h⟩
 .simp at h
def iF{C:Ctx}{w:World}{t:TypeId}(h:sizeT C t≠0):(sizeOf t).run C.P w=.ok (sizeT C t) w:=by
 unfold sizeT at h ⊢;cases hi:C.P.info? t with
 | none=>rw[hi]at h;simp at h
 | some i=>simp[sizeOf,typeInfo,hi]
def Iw{C:Ctx}{K:Kx}{T:Nat->Nat->Prop}{s:TypeId}{a x:AV}{n:Nat}{v:Value}(hv:aF K T a v)(h:bF C K.H s a n=some x) :
 ∃ u,(Instr.fieldAt s v n).run C.P K.w=.ok u K.w/\aF K T x u:=by
 unfold bF at h;split at h
 .cases h
 .rename_i fd hfd;obtain⟨fs,hu,hf⟩:=Bh hfd;split at h
  .cases h
  .rename_i hsz;have go:∀ b off,(Instr.fieldAt s (.pointer (some ⟨b,off,none⟩)) n).run C.P K.w=.ok (.pointer (some ⟨b,off+fd.offset,none⟩)) K.w:=by intro b off;simp[Instr.fieldAt,bg hu,hf,Instr.sureAddr,fieldPlace,iF hsz,hsz,add_lit]
   split at h
   .rename_i o i f g;split at h
    .rename_i ob hob;simp only[axH]at h;subst h;obtain⟨i',f',e1,e2⟩:=Qx ob.p o i f g fd.offset;obtain⟨b,off,rfl,h2⟩:=Nz hob hv e2;exact⟨_,go b off,by rw[e1];exact h2⟩
    .cases h
   .rename_i p i f t;simp only[axH]at h;subst h;obtain⟨i',f',e1,e2⟩:=KZ p i f t fd.offset;obtain⟨b,off,rfl,h2⟩:=Jl hv e2;exact⟨_,go b off,by rw[e1];exact h2⟩
   .cases h
def run_indexAt_array{C:Ctx}{w:World}{t e:TypeId}{len:Nat}(hu:C.P.underlying t=some (.array len e))(hs:sizeT C e≠0)(k:IntKind){n:Int}(h0:0<=n)(h1:n<len)(b off:Nat) :
 (Instr.indexAt t (.pointer (some ⟨b,off,none⟩)) (.int k n)).run C.P w=.ok (.pointer (some ⟨b,off + n.toNat * sizeT C e,none⟩)) w:=by
 simp[Instr.indexAt,asIntOf,bg hu,Instr.sureAddr,h0,h1,iF hs,add_lit]
def run_indexAt_slice{C:Ctx}{w:World}{t e:TypeId}{len cap:Nat}(hu:C.P.underlying t=some (.slice e))(hs:sizeT C e≠0)(k:IntKind){n:Int}(h0:0<=n)(h1:n<len)(b off:Nat) :
 (Instr.indexAt t (.slice (some ⟨b,off,none⟩) len cap) (.int k n)).run C.P w=.ok (.pointer (some ⟨b,off + n.toNat * sizeT C e,none⟩)) w:=by
 simp[Instr.indexAt,asIntOf,bg hu,h0,h1,iF hs,add_lit]
def Iy{C:Ctx}{K:Kx}{T:Nat->Nat->Prop}(hI:Inv C K T){t:TypeId}{a ix x:AV}{v vi:Value}(hv:aF K T a v)(hi:aF K T ix vi)
 (h:mM C K.H t a ix=some x):∃ u,(Instr.indexAt t v vi).run C.P K.w=.ok u K.w/\aF K T x u:=by
 unfold mM at h;split at h
 .rename_i k n;have:=hi.int;subst this;split at h
  .rename_i len e o i f g hu;have hu':=bf hu (by simp);split at h
   .rename_i ob hob;split at h
    .rename_i hc;obtain⟨h0,h1,hs⟩:=hc;have key:∀ i' f',i' * aS ob.p + f'=i * aS ob.p + f + n.toNat * sizeT C e->∃ u,(Instr.indexAt t v (.int k n)).run C.P K.w=.ok u K.w/\aF K T (.ptr o i' f' g) u:=by intro i' f' he;obtain⟨b,off,rfl,h2⟩:=Nz hob hv he;exact⟨_,run_indexAt_array hu' (by omega) k h0 h1 b off,h2⟩
     split at h
     .rename_i es l hp;split at h
      .rename_i hc;obtain⟨rfl,rfl⟩:=hc;simp only[axH]at h;subst h;exact key _ _ (by rw[hp];simp only[aS];rw[ayI];omega)
      .simp only[axH]at h;subst h;exact key _ _ (by omega)
     .rename_i hp;simp only[axH]at h;subst h;have:aS ob.p=1:=by cases hq:ob.p<;>simp only[aS];exact absurd hq (hp _ _)
      exact key _ _ (by rw[this];omega)
    .cases h
   .cases h
  .rename_i len e p i f tg hu;have hu':=bf hu (by simp);split at h
   .rename_i hc;obtain⟨h0,h1,hs⟩:=hc;have key:∀ i' f',i' * aS p + f'=i * aS p + f + n.toNat * sizeT C e->∃ u,(Instr.indexAt t v (.int k n)).run C.P K.w=.ok u K.w/\aF K T (.jl p i' f' tg) u:=by intro i' f' he;obtain⟨b,off,rfl,h2⟩:=Jl hv he;exact⟨_,run_indexAt_array hu' (by omega) k h0 h1 b off,h2⟩
    split at h
    .rename_i es l;split at h
     .rename_i hc;obtain⟨rfl,rfl⟩:=hc;simp only[axH]at h;subst h;exact key _ _ (by simp only[aS];rw[ayI];omega)
     .simp only[axH]at h;subst h;exact key _ _ (by omega)
    .rename_i hp;simp only[axH]at h;subst h;have:aS p=1:=by cases hq:p<;>simp only[aS];exact absurd hq (hp _ _)
     exact key _ _ (by rw[this];omega)
   .cases h
  .rename_i e o off len g hu;have hu':=bf hu (by simp);split at h
   .rename_i ob hob;split at h
    .rename_i hc;obtain⟨h0,h1,hs⟩:=hc;simp only[axH]at h;subst h;simp only[aF,aK,aU]at hv ⊢;obtain⟨h2,h3⟩:=cZ.1 hob;obtain⟨hpm,ad,cap,rfl,h4,h5,h6,h7,h8⟩:=(hv.2.2 ob h2).2 h3;obtain⟨hsh,hcl⟩:=(hI.obj o ob h2).open hpm;have hcap:cap≠0:=by have:=hsh.1;omega
     obtain⟨cur,E,_,_,h9,_⟩:=hcl (by omega);have:=h6 hcap;subst this;refine⟨_,run_indexAt_slice hu' (by omega) k h0 h1 _ _,hv.1,rfl,fun ob' h'=>?_⟩;rw[h2]at h';simp only[axH]at h';subst h';refine⟨by omega,fun _=>⟨hpm,?_⟩⟩;congr 3;rw[<- hs,ayI];omega
    .cases h
   .cases h
  .rename_i e c p tg hu;have hu':=bf hu (by simp);split at h
   .rename_i hc;obtain⟨h0,h1,hs⟩:=hc;simp only[axH]at h;subst h;simp only[aF,aK,aU,RV]at hv ⊢;obtain⟨ad,cap,rfl,hsh,hr⟩:=hv;have hn:ah p≠0:=by omega
    have hcap:cap≠0:=by have:=hsh.1;omega
    have had:ad.isSome=true:=hsh.2.2.1 (fun h0=>hcap (hsh.2.1 h0).2);obtain⟨a,rfl⟩:=ayn.1 had;obtain⟨h2,h3,h4⟩:=hr a rfl hn;obtain⟨b,off,sp⟩:=a;simp only at h2 h3 h4;subst h2;have hpos:aS p≠0:=by
     cases p<;>simp only[aS]<;>first|decide|skip
     rw[RP]at h4;exact Nat.pos_iff_ne_zero.1 h4.1
    refine⟨_,run_indexAt_slice hu' (by omega) k h0 (by omega) _ _,b,off,?_,hn,h3,h4⟩;congr 3;rw[<- hs];omega
   .cases h
  .cases h
 .cases h
def uM(K:Kx)(T:Nat->Nat->Prop):Option AV->Option Value->Prop
 | none,none=>True
 | some x,some v=>aF K T x v
 | _,_=>False
def uM.map{C:Ctx}{K:Kx}{T:Nat->Nat->Prop}(hI:Inv C K T){fr:Frame}{a:Act}(hf:rD K T fr a.tmps)(x:Option Operand):uM K T (x.map (aJ C fr)) (x.map a.eval):=by
 cases x with
 | none=>trivial
 | some x=>exact yE hI hf x
def GI{K:Kx}{T:Nat->Nat->Prop}{P:Program}{y y' d b:Nat}{x:AV}{v:Value}{code:BoundsCode}(h:bound y d (some x)=some b)(hy:y<=y')
 (hv:aF K T x v):(Instr.sliceBound v y' code).run P K.w=.ok b K.w/\b<=y:=by
 unfold bound at h;split at h
 .rename_i heq;cases heq
 .rename_i k n heq;simp only[axH]at heq;subst heq;split at h
  .rename_i hc;simp only[axH]at h;subst h;have:=hv.int;subst this;have hc':0<=n/\n<=(y':Int):=⟨hc.1,by omega⟩;exact⟨by simp[Instr.sliceBound,asIntOf,hc'],by omega⟩
  .cases h
 .cases h
def yN{K:Kx}{T:Nat->Nat->Prop}{P:Program}{isSlice:Bool}{len cap y l h:Nat}{lo hi:Option AV}{vlo vhi:Option Value}(hh:bound y len hi=some h)(hl:bound h 0 lo=some l)(hy:y<=cap)
 (h1:uM K T lo vlo)(h2:uM K T hi vhi) :
 (Instr.sliceBounds isSlice len cap vlo vhi none).run P K.w=.ok (l,h,cap) K.w/\l<=h/\(h<=y\/hi=none/\h=len):=by
 cases hi with
 | none=>
  cases vhi with
  | some v=>exact h2.elim
  | none=>
   simp only[bound,axH]at hh;subst hh;cases lo with
   | none=>
    cases vlo with
    | some v=>exact h1.elim
    | none=>
     simp only[bound,axH]at hl;subst hl;exact⟨by simp[Instr.sliceBounds],ayF _,.inr ⟨rfl,rfl⟩⟩
   | some x=>
    cases vlo with
    | none=>exact h1.elim
    | some v=>
     have e1:=GI (P:=P) (code:=.sliceB) hl (axO _) h1;exact⟨by simp[Instr.sliceBounds,e1.1],e1.2,.inr ⟨rfl,rfl⟩⟩
 | some z=>
  cases vhi with
  | none=>exact h2.elim
  | some v=>
   have e2:=GI (P:=P) (code:=if isSlice then .sliceAcap else .sliceAlen) hh hy h2;cases lo with
   | none=>
    cases vlo with
    | some v=>exact h1.elim
    | none=>
     simp only[bound,axH]at hl;subst hl;exact⟨by simp[Instr.sliceBounds,e2.1],ayF _,.inl e2.2⟩
   | some x=>
    cases vlo with
    | none=>exact h1.elim
    | some u=>
     have e1:=GI (P:=P) (code:=.sliceB) hl (axO _) h1;exact⟨by simp[Instr.sliceBounds,e2.1,e1.1],e1.2,.inl e2.2⟩
def Eb{C:Ctx}{t:TypeId}(h:KR C t=true):C.P.underlying t=some .string:=by
 unfold KR at h;split at h
 .exact bf (by assumption) (by simp)
 .cases h
def yO{C:Ctx}{t:TypeId}(h:gI C t=true):C.P.underlying t=some (.int .u8):=by
 unfold gI at h;split at h
 .exact bf (by assumption) (by simp)
 .cases h
def oq{C:Ctx}{w:World}{t:TypeId}{d:TypeDesc}(hu:C.P.underlying t=some d)(hd:∀ n e,d≠.array n e)(v:Value)(lo hi:Option Value) :
 (Instr.sliceAt t v lo hi none).run C.P w=(Instr.slice t v lo hi none).run C.P w:=by
 unfold Instr.sliceAt;rw[Sem.run_bind,bg hu,Result.andThen_ok];cases d<;>first|rfl|exact absurd rfl (hd _ _)
def EK.sub{m:Pl}{ob:Obj}{off len cap l h:Nat}{ad:Option Addr}(hs:EK m ob off len (.slice ad len cap))(hlh:l<=h)(hh:off+h<=ah ob.p)(hcap:off+cap=m.cap)(hm:ah ob.p<=m.cap) :
 EK m ob (off+l) (h-l) (.slice (if cap=l then ad else ad.map (·.add (l*aS ob.p))) (h-l) (cap-l)):=by
 obtain⟨hpm,ad',cap',he,h1,h2,h3,h4,h5⟩:=hs;simp only[Value.slice.injEq]at he;obtain⟨rfl,_,rfl⟩:=he;refine⟨hpm,_,_,rfl,by omega,by omega,?_,?_,?_⟩
 .intro hc;rw[if_neg (by omega),h3 (by omega)];simp only[axM,add_lit];congr 2;rw[ayI];omega
 .intro hc hz;have:=h4 hc hz;split<;>simp[this]
 .intro hc;have:=h5 hc;split
  .exact this
  .rw [Option.isSome_map];exact this
def aej{l h:Nat}(hl:l<=h):l+(h-l)=h:=by omega
def Bj{p q:AV}{lo n:Nat}(hq:gq p lo n=some q):ah q=n:=by
 cases p<;>try (simp[gq]at hq;done)
 all_goals try simp only[gq]at hq
 case pn=>
  cases lo with
  | succ lo=>simp at hq
  | zero=>cases n with
   | succ n=>simp at hq
   | zero=>simp at hq;subst hq;simp[ah]
 all_goals
  split at hq
  .simp only[axH]at hq;subst hq;simp only[ah,ayc,axW];omega
  .cases hq
def U6{C:Ctx}{K:Kx}{T:Nat->Nat->Prop}(hI:Inv C K T){t:TypeId}{a x:AV}{lo hi:Option AV}{v:Value}{vlo vhi:Option Value}(hv:aF K T a v)
 (h1:uM K T lo vlo)(h2:uM K T hi vhi)(h:gY C K.H t a lo hi=some x) :
 ∃ u,(Instr.sliceAt t v vlo vhi none).run C.P K.w=.ok u K.w/\aF K T x u:=by
 unfold gY at h;split at h
 .rename_i s;split at h
  .rename_i hu;have hu':=Eb hu;have:=hv.str;subst this;split at h
   .rename_i hb hh;split at h
    .rename_i lb hl;simp only[axH]at h;subst h;obtain⟨h3,h4,h5⟩:=yN (P:=C.P) (isSlice:=false) (cap:=s.length) hh hl (axO _) h1 h2;have hsz:(⟨⟨s⟩⟩:ByteArray).size=s.length:=rfl;refine⟨.string ((⟨⟨s⟩⟩:ByteArray).extract lb hb),?_,?_⟩
     .rw [oq hu' (by simp)];unfold Instr.slice;rw[Sem.run_bind,bg hu',Result.andThen_ok];simp only[Option.isSome_none,axZ,if_false,Sem.run_bind,Sem.run_pure,Result.andThen_ok,hsz,h3]
     .simp only[aF,aK,aU,RV];congr 1;have hle:hb<=s.length:=by omega
      have:((⟨⟨s⟩⟩:ByteArray).extract lb hb).data=(⟨(s.drop lb).take (hb-lb)⟩:Array UInt8):=by rw[ByteArray.data_extract];apply Array.ext';simp[List.take_drop,aej h4]
      exact ByteArray.ext this
    .cases h
   .cases h
  .cases h
 .rename_i c p tg;split at h
  .rename_i e hu;have hu':=bf hu (by simp);split at h
   .rename_i hsz;split at h
    .rename_i hb hh;split at h
     .rename_i lb hl;simp only[ax7]at h;obtain⟨q,hq,rfl⟩:=h;simp only[aF,aK,aU,RV]at hv ⊢;obtain⟨ad,cap,rfl,hsh,hr⟩:=hv;obtain⟨h3,h4,h5⟩:=yN (P:=C.P) (isSlice:=true) (cap:=cap) hh hl hsh.1 h1 h2;have h5':hb<=ah p:=by omega
      have hp0:ah q=hb-lb:=Bj hq;refine⟨_,?_,(if cap=lb then ad else ad.map (·.add (lb*sizeT C e))),cap-lb,by rw[hp0],?_,?_⟩
      .rw [oq hu' (by simp)];unfold Instr.slice;rw[Sem.run_bind,bg hu',Result.andThen_ok];simp only[Sem.run_bind,Sem.run_pure,Result.andThen_ok,h3,iF (show sizeT C e≠0 by omega)]
      .obtain ⟨s1,s2,s3,s4⟩:=hsh;rw[hp0];refine⟨by omega,?_,?_,?_⟩
       .intro hc;have hc0:c=0:=by
         split at hc
         .assumption
         .split at hc<;>simp_all
        obtain⟨rfl,rfl⟩:=s2 hc0;simp
       .intro hc;have hc0:c≠0:=by intro h0;simp[h0]at hc
        have:=s3 hc0;split
        .exact this
        .rw [Option.isSome_map];exact this
       .intro hc;have:c=1/\hi=none:=by
         split at hc
         .cases hc
         .split at hc
          .rename_i hh';exact⟨hc,by simpa using hh'⟩
          .cases hc
        have h6:=s4 this.1;rw[this.2]at hh;simp only[bound,axH]at hh;omega
      .intro a ha hn;have hlt:lb<hb:=by omega
       rw[if_neg (by have:=hsh.1;omega)]at ha;simp only[ax7]at ha;obtain⟨a0,rfl,rfl⟩:=ha;obtain⟨r1,r2,r3⟩:=hr a0 rfl (by omega);obtain⟨b,o,sp⟩:=a0;simp only at r1 r2 r3;subst r1;rw[add_lit];refine⟨rfl,r2,?_⟩;have hsz':aS p=sizeT C e:=hsz.1.resolve_right (by omega);have:=(GP.sub (jE.1 r3) hq).1;rw[hsz']at this;refine jE.2 (GP.imp (fun _ _ h=>h) (fun j u hu=>?_) this);simp only[<- azC]at hu;exact hu
     .cases h
    .cases h
   .cases h
  .cases h
 .rename_i o off len g;split at h
  .rename_i e ob hu hob;have hu':=bf hu (by simp);split at h
   .rename_i hsz;split at h
    .rename_i hb hh;split at h
     .rename_i lb hl;simp only[axH]at h;subst h;simp only[aF,aK,aU]at hv ⊢;obtain⟨h3,h4⟩:=cZ.1 hob;have hsl:=(hv.2.2 ob h3).2 h4;have ar0:=hsl;obtain⟨hpm,ad,cap,rfl,h6,h7,h8,h9,h10⟩:=hsl;obtain⟨hsh,hcl⟩:=(hI.obj o ob h3).open hpm;obtain⟨h11,h12,h13⟩:=yN (P:=C.P) (isSlice:=true) (cap:=cap) hh hl (by have:=hsh.1;omega) h1 h2;have hoff:off+hb<=ah ob.p:=by omega
      refine⟨.slice (if cap=lb then ad else ad.map (·.add (lb*aS ob.p))) (hb-lb) (cap-lb),?_,hv.1,rfl,fun ob' h'=>?_⟩
      .rw [oq hu' (by simp)];unfold Instr.slice;rw[Sem.run_bind,bg hu',Result.andThen_ok];simp only[Sem.run_bind,Sem.run_pure,Result.andThen_ok,h11,iF (show sizeT C e≠0 by omega),hsz.1]
      .rw [h3]at h';simp only[axH]at h';subst h';exact⟨by omega,fun _=>EK.sub ar0 h12 hoff h6 hsh.1⟩
     .cases h
    .cases h
   .cases h
  .cases h
 .rename_i o g;split at h
  .rename_i n e ob hu hob;have hu':=bf hu (by simp);split at h
   .rename_i hsz;obtain⟨hs1,hs2,hs3,hs4,hs5⟩:=hsz;split at h
    .rename_i hb hh;split at h
     .rename_i lb hl;simp only[axH]at h;subst h;simp only[aF,aK,aU]at hv ⊢;obtain⟨h3,h4⟩:=cZ.1 hob;obtain⟨hpm,rfl⟩:=(hv.2.2 ob h3).2 h4;obtain⟨hsh,hcl⟩:=(hI.obj o ob h3).open hpm;have hC:=hsh.2.2.1 hs4;obtain⟨h11,h12,h13⟩:=yN (P:=C.P) (isSlice:=false) (cap:=n) hh hl (axO _) h1 h2;refine⟨.slice (some (if n=lb then⟨(K.μ o).blk,(K.μ o).base+0*aS ob.p+0,none⟩else⟨(K.μ o).blk,(K.μ o).base+0*aS ob.p+0+lb*sizeT C e,none⟩)) (hb-lb) (n-lb),?_,hv.1,rfl,fun ob' h'=>?_⟩
      .unfold Instr.sliceAt;rw[Sem.run_bind,bg hu',Result.andThen_ok];simp only[Instr.sureAddr,Sem.run_bind,Sem.run_pure,Result.andThen_ok,h11,iF (show sizeT C e≠0 by omega),add_lit]
      .rw [h3]at h';simp only[axH]at h';subst h';refine⟨by omega,fun _=>⟨hpm,_,_,rfl,by omega,by omega,?_,?_,fun _=>rfl⟩⟩
       .intro hc;rw[if_neg (by omega),<- hs1];congr 2;omega
       .intro _ hz;exact absurd hz hs5
     .cases h
    .cases h
   .cases h
  .cases h
 .cases h
end Go.AM
