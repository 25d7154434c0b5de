/- IQ to SC: texts of this claim, one behind the other; what each shows stands at its head. -/
import Derived.Test.YtbodincpjijdiaaAm4
import Derived.Test.YtbodincpjijdiaaMg5
set_option linter.unusedSimpArgs false
set_option linter.unusedVariables false
set_option maxRecDepth 100000
set_option maxHeartbeats 8000000
namespace Go.Proofs.Ytbodincpjijdiaa
open Go.AM
section
variable {c:Nat} {b:List UInt8} {mo:Int} {t:Nat} {H:AM.Heap} {o:Nat} {oa:Option Nat} {s:Is}
end
end Go.Proofs.Ytbodincpjijdiaa
namespace Go.Proofs.Ytbodincpjijdiaa
open Go.AM
section
variable {c:Nat} {b:List UInt8} {mo:Int} {N t:Nat} {H:AM.Heap} {o lb nb rb:Nat} {la oa:Option Nat} {acc:List Int} {s:Is}
end
end Go.Proofs.Ytbodincpjijdiaa
namespace Go.Proofs.Ytbodincpjijdiaa
open Go.AM
section
variable {c:Nat} {b:List UInt8} {mo:Int} {N t:Nat} {H:AM.Heap} {o:Nat} {oa:Option Nat} {s:Is}
end
end Go.Proofs.Ytbodincpjijdiaa
namespace Go.Proofs.Ytbodincpjijdiaa
open Go.AM
section
variable (cc:Nat) (l:List Int)
end
end Go.Proofs.Ytbodincpjijdiaa
namespace Go.Proofs.Ytbodincpjijdiaa
open Go.AM
def Tz (b:List UInt8) (mo:Int) {α β:Type} (m:PM α) (s1:Is) (m0:PM β) (s:Is) (f:α→β):Prop:=∀ s2 y,wJ b mo m s1 s2 y→wJ b mo m0 s s2 (f y)
theorem Tz.step {b:List UInt8} {mo:Int} {α β γ:Type} {m:PM γ} {k:γ→PM α} {s1 s2:Is} {m0:PM β} {s:Is} {f:α→β} {x:γ} (h:Tz b mo (iD m k) s1 m0 s f) (h2:wJ b mo m s1 s2 x):Tz b mo (k x) s2 m0 s f:=fun _ _ h3=>h _ _ (h2.bnd h3)
section
variable {c:Nat} {b:List UInt8} {mo:Int} {t:Nat} {H:AM.Heap} {o:Nat} {oa:Option Nat} {s:Is}
end
end Go.Proofs.Ytbodincpjijdiaa
namespace Go.Proofs.Ytbodincpjijdiaa
open Go.AM
section
variable {c:Nat} {b:List UInt8} {mo:Int} {t:Nat} {H:AM.Heap} {o:Nat} {oa:Option Nat} {s:Is}
end
end Go.Proofs.Ytbodincpjijdiaa
namespace Go.Proofs.Ytbodincpjijdiaa
open Go.AM
section
variable {c:Nat} {b:List UInt8} {mo:Int} {t:Nat} {H:AM.Heap} {o:Nat} {oa:Option Nat} {s:Is}
theorem kept {H H':AM.Heap} {oa oa':Option Nat} {j:Nat} (hk:Kpt H H' 0 oa oa') (hj:j < H.length) (h0:j ≠ 0) (ha:∀ a,oa = some a→j ≠ a):H'[j]? = H[j]?∧∀ a,oa' = some a→j ≠ a:=by
 refine ⟨hk.rest j hj h0 ha,fun a h=>?_⟩
 cases hq:oa with
 | none=>have:=hk.new a hq h;omega
 | some z=>have:=hk.same z hq;rw [h] at this;cases this;exact ha _ hq
end
end Go.Proofs.Ytbodincpjijdiaa
namespace Go.Proofs.Ytbodincpjijdiaa
open Go.AM
section
variable {c:Nat} {b:List UInt8} {mo:Int} {t:Nat} {H:AM.Heap} {o:Nat} {oa:Option Nat} {s:Is}
theorem Tz.done {m0:PM (List Int × List Int)} {α:Type} {m:PM α} {f:α→List Int × List Int} {s1:Is} (h:Tz b mo m s1 m0 s f) (hs:Ky b mo s1) (he:s1.e ≠ 0) (x:α) (y:List Int × List Int):wJ b mo m0 s s1 y:=(h s1 x (wJ.stop hs he)).any he
end
end Go.Proofs.Ytbodincpjijdiaa
namespace Go.Proofs.Ytbodincpjijdiaa
open Go.AM
section
variable {c:Nat} {b:List UInt8} {mo:Int} {t:Nat} {H:AM.Heap} {o:Nat} {oa:Option Nat} {s:Is}
end
end Go.Proofs.Ytbodincpjijdiaa
namespace Go.Proofs.Ytbodincpjijdiaa
open Go.AM
def bkR (kind:Int) (last:Bool) (k:Nat) (n:Int):AV:=.pc [.int .i64 kind,.bool last,.int .i64 (k:Nat),.int .i64 n]
def LkV (H:AM.Heap) (la:Option Nat) (v:AV) (R:List AV):Prop:=(∀ p ∈ R,ids p = []∧tags p = [])∧match la with
 | none=>R = []∧v = .ro 0 .pn 0
 | some a=>∃ g ob,v = .sl a 0 R.length g∧H[a]? = some (some ob)∧Rw (.pr 4 R) g ob
theorem LkV.keep {H H':AM.Heap} {la:Option Nat} {v:AV} {R:List AV} (h:LkV H la v R) (hk:∀ a,la = some a→H'[a]? = H[a]?):LkV H' la v R:=by
 obtain ⟨h0,h1⟩:=h
 refine ⟨h0,?_⟩
 cases la with
 | none=>exact h1
 | some a =>
  obtain ⟨g,ob,h2,h3,h4⟩:=h1
  exact ⟨g,ob,h2,by rw [hk a rfl];exact h3,h4⟩
theorem LkV.lt {H:AM.Heap} {la:Option Nat} {v:AV} {R:List AV} (h:LkV H la v R):∀ a,la = some a→a < H.length:=by
 rintro a rfl
 obtain ⟨_,g,ob,_,h3,_⟩:=h
 exact eY h3
theorem LkV.app {H:AM.Heap} {la:Option Nat} {v:AV} {R:List AV} {kind:Int} {last:Bool} {k:Nat} {n:Int} (h:LkV H la v R) (hR:R.length≤10000000):∃ v' H' la',bD X H 107 v (.ro 1 (.pr 4 [bkR kind last k n]) 0) = some (v',H')∧LkV H' la' v' (R ++ [bkR kind last k n])∧H.length≤H'.length∧(∀ j,j < H.length→la ≠ some j→H'[j]? = H[j]?)∧(∀ a,la = some a→la' = some a)∧(la = none→la' = some H.length):=by
 obtain ⟨hf,h⟩:=h
 have hf':∀ p ∈ R ++ [bkR kind last k n],ids p = []∧tags p = []:=by
  intro p hp
  rcases List.mem_append.1 hp with hp | hp
  ·exact hf p hp
  ·rw [List.mem_singleton.1 hp];exact ⟨rfl,rfl⟩
 cases la with
 | none =>
  obtain ⟨rfl,rfl⟩:=h
  refine ⟨.sl H.length 0 1 0,H ++ [some ⟨.pr 4 [bkR kind last k n],0,none,0,true,false,0⟩],some H.length,?_,⟨hf',0,⟨.pr 4 [bkR kind last k n],0,none,0,true,false,0⟩,rfl,by simp,⟨rfl,rfl,rfl,rfl,rfl⟩⟩,by simp,fun j hj _=>List.getElem?_append_left hj,fun a h=>(by cases h),fun _=>rfl⟩
  have hE:bJ X 119 = .pr 4 []:=by kernel_rfl
  simp only [bD,WW,Ul,WX]
  simp [gU,jF,ah,kM,fK,og,hE,aK,bkR,bQ,tags,dU]
 | some a =>
  obtain ⟨g,ob,rfl,h3,h4⟩:=h
  obtain ⟨ob',hw',hA⟩:=Cc (C:=X) (T:=107) (e:=119) (es:=4) (H:=H) (o:=a) (m:=[bkR kind last k n]) (src:=.ro 1 (.pr 4 [bkR kind last k n]) 0) (by simp) (by simp) (by omega) (by simp) (by simp) h3 h4 rfl (by simp;omega)
  refine ⟨_,_,some a,hA,⟨hf',g + 1,ob',by simp,setAt h3,hw'⟩,by simp [AM.upd],fun j hj hne=>by unfold AM.upd;rw [List.getElem?_set_ne (fun e=>hne (by rw [e]))],fun x h=>h,fun h=>by cases h⟩
section
variable {c:Nat} {b:List UInt8} {mo:Int} {t:Nat} {H:AM.Heap} {o:Nat} {oa:Option Nat} {s:Is}
theorem Kpt.head {E r E1:AM.Heap} {oa1:Option Nat} (h:Kpt (E ++ r) E1 0 oa oa1):Kpt E E1 0 oa oa1:=(Kpt.cat r).trans h
end
end Go.Proofs.Ytbodincpjijdiaa
namespace Go.Proofs.Ytbodincpjijdiaa
open Go.AM
section
variable {c:Nat} {b:List UInt8} {mo:Int} {t:Nat} {H:AM.Heap} {o:Nat} {oa:Option Nat} {s:Is}
theorem LkV.off {E:AM.Heap} {la:Option Nat} {v:AV} {R:List AV} {p:Nat} (h:LkV E la v R) (hp:la ≠ some p):p ∉ ids v:=by
 cases la with
 | none =>
  obtain ⟨_,_,rfl⟩:=h
  simp [ids]
 | some a =>
  obtain ⟨_,g,ob,rfl,_⟩:=h
  simp [ids]
  exact fun e=>hp (by rw [e])
end
end Go.Proofs.Ytbodincpjijdiaa
namespace Go.Proofs.Ytbodincpjijdiaa
open Go.AM
section
variable {c:Nat} {b:List UInt8} {mo:Int} {t:Nat} {H:AM.Heap} {o:Nat} {oa:Option Nat} {s:Is}
end
end Go.Proofs.Ytbodincpjijdiaa
namespace Go.Proofs.Ytbodincpjijdiaa
open Go.AM
section
variable {c:Nat} {b:List UInt8} {mo:Int} {t:Nat} {H:AM.Heap} {o:Nat} {oa:Option Nat} {s:Is}
end
end Go.Proofs.Ytbodincpjijdiaa
namespace Go.Proofs.Ytbodincpjijdiaa
open Go.AM
def D8 (H:AM.Heap) (v:AV) (l:List UInt8):Prop :=
 (∃ o g τ ob,v = .sl o 0 l.length g∧H[o]? = some (some ob)∧RwT (.pb l) g τ ob)∨(l = []∧∃ τ,v = .ro 0 .pn τ)
def Vp (t:Nat) (H:AM.Heap) (v:AV) (l:List UInt8):Prop :=
 (∃ o g τ ob,(τ = 0∨τ = t)∧v = .sl o 0 l.length g∧H[o]? = some (some ob)∧RwT (.pb l) g τ ob)∨(l = []∧v = .ro 0 .pn t)
theorem Vp.v {t:Nat} {H:AM.Heap} {v:AV} {l:List UInt8} (h:Vp t H v l):D8 H v l:=by
 rcases h with ⟨o,g,τ,ob,_,rfl,h1,h2⟩ | ⟨rfl,rfl⟩
 ·exact .inl ⟨o,g,τ,ob,rfl,h1,h2⟩
 ·exact .inr ⟨rfl,t,rfl⟩
section
variable {c:Nat} {b:List UInt8} {mo:Int}
theorem emY:bJ X 5 = .pb []:=by kernel_rfl
end
end Go.Proofs.Ytbodincpjijdiaa
namespace Go.Proofs.Ytbodincpjijdiaa
open Go.AM
theorem D8.sl {H:AM.Heap} {v:AV} {l:List UInt8} (h:D8 H v l) (hl:l ≠ []):∃ o g τ ob,v = .sl o 0 l.length g∧H[o]? = some (some ob)∧RwT (.pb l) g τ ob:=h.elim id fun h=>absurd h.1 hl
theorem Byt.Ye {H:AM.Heap} {o g τ:Nat} {ob:AM.Obj} {l:List UInt8} (ho:H[o]? = some (some ob)) (h:RwT (.pb l) g τ ob):Byt H (.sl o 0 l.length g) l:=by
 have hlive:live H o g = some ob:=by simp [live,ho,h.g]
 refine ⟨if ob.z = 0∧AM.ah ob.p = 0 then 0 else 2,.pb l,.inl rfl,fun h0=>?_,fun t=>⟨⟨[o],[ob.tg]⟩,?_⟩⟩
 ·split at h0
  ·rename_i hz
   have:=hz.2
   rw [h.p] at this
   exact List.eq_nil_of_length_eq_zero this
  ·cases h0
 ·simp [eU,dY,hlive,h.ids,h.p,iw]
theorem D8.byt {H:AM.Heap} {v:AV} {l:List UInt8} (h:D8 H v l):Byt H v l:=by
 rcases h with ⟨o,g,τ,ob,rfl,ho,hw⟩ | ⟨rfl,τ,rfl⟩
 ·exact Byt.Ye ho hw
 ·exact Byt.ro (.inr ⟨rfl,rfl⟩) (fun _=>rfl)
theorem D8.asg {H:AM.Heap} {v:AV} {l:List UInt8} (h:D8 H v l):∃ v' H',ak X H 22 v = (v',H')∧D8 H' v' l∧H.length≤H'.length∧∀ j,j < H.length→H'[j]? = H[j]?:=by
 rcases h with ⟨o,g,τ,ob,rfl,ho,hw⟩ | ⟨rfl,τ,rfl⟩
 ·exact ⟨_,H,rfl,.inl ⟨o,g,τ,ob,rfl,ho,hw⟩,Nat.le_refl _,fun _ _=>rfl⟩
 ·by_cases h0:τ = 0
  ·subst h0
   refine ⟨.sl H.length 0 0 0,H ++ [some (⟨.pb [],0,none,0,true,false,0⟩:AM.Obj)],?_,.inl ⟨H.length,0,0,⟨.pb [],0,none,0,true,false,0⟩,rfl,by simp,⟨rfl,rfl,rfl,rfl,rfl⟩⟩,by simp,fun j hj=>List.getElem?_append_left hj⟩
   simp [ak,rowOf,emY]
  ·refine ⟨.ro 0 .pn τ,H,?_,.inr ⟨rfl,τ,rfl⟩,Nat.le_refl _,fun _ _=>rfl⟩
   simp [ak,h0]
theorem Vp.asg {t:Nat} {H:AM.Heap} {v:AV} {l:List UInt8} (h:Vp t H v l) (ht:t ≠ 0):ak X H 22 v = (v,H):=by
 rcases h with ⟨o,g,τ,ob,hτ,rfl,ho,hw⟩ | ⟨rfl,rfl⟩
 ·rfl
 ·simp [ak,ht]
theorem D8.keep {H H':AM.Heap} {v:AV} {l:List UInt8} (h:D8 H v l) (hk:∀ j,j < H.length→H'[j]? = H[j]?):D8 H' v l:=by
 rcases h with ⟨o,g,τ,ob,rfl,ho,hw⟩ | h
 ·exact .inl ⟨o,g,τ,ob,rfl,by rw [hk o (eY ho)];exact ho,hw⟩
 ·exact .inr h
end Go.Proofs.Ytbodincpjijdiaa
namespace Go.Proofs.Ytbodincpjijdiaa
open Go.AM
theorem Qc (H:AM.Heap):evT X 51 [.int .u32 1] H = some (.tup [.int .u32 1,.int .u32 0],H):=by
 have:=dA (Ev1.tried (C:=X) (T:=fun _ _ _=>none) Below.none (n:=20) (f:=51) (args:=[.int .u32 1]) (v:=.tup [.int .u32 1,.int .u32 0]) (N:=[]) (by kernel_rfl) H)
 simpa [dM,kG,ren,bZ] using this
section
variable {c:Nat} {l:List UInt8}
def zC (c t:Nat) (l:List UInt8) (lo hi:Int) (i:Nat):AM.Frame:=[(5,.int .u32 lo),(6,.int .u32 hi),(18,.ro c (.pb l) t),(19,.int .i64 (l.length:Nat)),(20,.int .i64 (i:Nat))]
theorem Ci:∀ (l:List UInt8) (i:Nat) (lo hi:Int) {x:UInt8},l[i]? = some x→iK lo hi (l.drop i) = iK (lo1 lo x) (hi1 lo hi x) (l.drop (i + 1)):=by
 intro l i lo hi x hx
 have hi':i < l.length:=eY hx
 rw [List.drop_eq_getElem_cons hi',iK]
 rw [List.getElem?_eq_getElem hi'] at hx
 rw [Option.some.inj hx]
theorem Qd {t:Nat} (hl:l.length≤1000000):∃ code,Try.f41.body = some code∧Run X (evT X) 41 0 code [(0,.int .u32 1),(1,.ro c (.pb l) t)] [] ⟨.ret,[(4,.int .u32 (adl l:Nat))],[]⟩:=by
 refine ⟨_,rfl,?_⟩
 have hh:=Qc []
 apply Run.seq (fr':=[(0,.int .u32 1),(1,.ro c (.pb l) t)]) (H':=[])
 ·(refine ⟨0,?_⟩;simp (maxSteps:=2000000) -implicitDefEqProofs [-getElem?_pos,go_sem,eqV,ah])
 apply Run.seq (fr':=[(1,.ro c (.pb l) t),(5,.int .u32 1),(6,.int .u32 0)]) (H':=[])
 ·(refine ⟨0,?_⟩;simp (maxSteps:=2000000) -implicitDefEqProofs [-getElem?_pos,go_sem,eqV,ah,hh])
 apply Run.seq (fr':=[(1,.ro c (.pb l) t),(5,.int .u32 1),(6,.int .u32 0)]) (H':=[])
 ·(refine ⟨0,?_⟩;simp (maxSteps:=2000000) -implicitDefEqProofs [-getElem?_pos,go_sem,eqV,ah])
 apply Run.seq (fr':=zC c t l (iK 1 0 l).1 (iK 1 0 l).2 l.length ++ [(21,.bool false)]) (H':=[])
 ·apply Run.seq (fr':=zC c t l 1 0 0) (H':=[])
  ·simp only [zC]
   generalize hL:l.length = L at *
   (refine ⟨0,?_⟩;simp (maxSteps:=2000000) -implicitDefEqProofs [-getElem?_pos,go_sem,eqV,ah,hL])
  apply Run.eF
  refine Run.jD (σ:=Nat × Int × Int) (fun s=>s.1≤l.length∧iK s.2.1 s.2.2 (l.drop s.1) = iK 1 0 l) (fun s=>zC c t l s.2.1 s.2.2 s.1) (fun _=>[]) (fun _=>⟨.exit 0,zC c t l (iK 1 0 l).1 (iK 1 0 l).2 l.length ++ [(21,.bool false)],[]⟩) (fun s=>l.length - s.1) ?_ (0,1,0) ⟨by simp,rfl⟩
  rintro ⟨i,lo,hi⟩ ⟨h1,h2⟩
  simp only at h1 h2 ⊢
  by_cases he:i = l.length
  ·right
   subst he
   rw [List.drop_length] at h2
   refine ⟨?_,by simp⟩
   rw [← h2]
   simp only [iK,zC]
   generalize hL:l.length = L at *
   (refine ⟨0,?_⟩;simp (maxSteps:=2000000) -implicitDefEqProofs [-getElem?_pos,go_sem,eqV,ah,hL])
  ·left
   have hlt:i < l.length:=by omega
   have iT:(i:Int) < (l.length:Int):=by omega
   obtain ⟨x,hx⟩:∃ x,l[i]? = some x:=⟨l[i],List.getElem?_eq_getElem hlt⟩
   rw [Ci l i lo hi hx] at h2
   have w1:IntKind.i64.wrap ((i:Int) + 1) = ((i + 1:Nat):Int):=by rw [wrap_i64 (by omega) (by omega)];omega
   refine ⟨(i + 1,lo1 lo x,hi1 lo hi x),⟨by simp only;omega,h2⟩,?_,trivial,by simp only;omega⟩
   simp only
   apply Run.seq (fr':=zC c t l lo hi i ++ [(21,.bool true)]) (H':=[])
   ·simp only [zC]
    generalize hL:l.length = L at *
    (refine ⟨0,?_⟩;simp (maxSteps:=2000000) -implicitDefEqProofs [-getElem?_pos,go_sem,eqV,ah,iT,hL])
   apply Run.seq (fr':=zC c t l lo hi i ++ [(21,.bool true)]) (H':=[])
   ·exact Run.cond (d:=true) (by simp [zC,aC,au]) ⟨0,rfl⟩
   apply Run.seq (fr':=zC c t l (lo1 lo x) (hi1 lo hi x) i) (H':=[])
   ·refine Run.block ?_ (by simp)
    apply Run.seq (fr':=[(5,.int .u32 lo),(6,.int .u32 hi),(8,.int .u8 (x.toNat:Nat)),(18,.ro c (.pb l) t),(19,.int .i64 (l.length:Nat)),(20,.int .i64 (i:Nat))]) (H':=[])
    ·simp only [zC]
     generalize hL:l.length = L at *
     (refine ⟨0,?_⟩;simp (maxSteps:=2000000) -implicitDefEqProofs [-getElem?_pos,go_sem,eqV,ah,hx,iT,hlt,hL,retag])
    apply Run.seq (fr':=zC c t l (lo1 lo x) hi i) (H':=[]) ⟨0,rfl⟩
    exact ⟨0,rfl⟩
   ·simp only [zC]
    generalize i + 1 = i1 at *
    generalize l.length = L at *
    (refine ⟨0,?_⟩;simp (maxSteps:=2000000) -implicitDefEqProofs [-getElem?_pos,go_sem,eqV,ah,w1])
 rw [← KP]
 generalize iK 1 0 l = r at *
 apply Run.seq (fr':=[(4,.int .u32 (Ce r.1 r.2))]) (H':=[]) ⟨0,rfl⟩
 exact ⟨0,rfl⟩
theorem Vq {H:AM.Heap} {a:AV} (ha:gq H a = some (.pb l)) (hl:l.length≤1000000):evT X 41 [.int .u32 1,a] H = some (.int .u32 (adl l:Nat),H):=by
 obtain ⟨c,x,hx⟩:=dS (C:=X) (f:=41) (i:=1) rfl ha (bU 2)
 have hx2:=dL (C:=X) (f:=41) (i:=0) (a:=.int .u32 1) (H:=H) rfl rfl hx
 obtain ⟨code,hc,hr⟩:=Qd (c:=c) (l:=l) (t:=2) hl
 refine dA (Ev1.nV (l:=[.int .u32 (adl l:Nat)]) (bn X) Try.func41 hc hx2 (by simp [aJ,ids]) (by simp [bW]) rfl rfl rfl ?_)
 rw [Y5]
 exact ⟨_,⟨rfl,rfl⟩,hr⟩
theorem Yf {H:AM.Heap} {a:AV} (ha:gq H a = some (.pb l)) (hl:l.length≤1000000):evT X 34 [a] H = some (.int .u32 (adl l:Nat),H):=by
 obtain ⟨c,x,hx⟩:=dS (C:=X) (f:=34) (i:=0) rfl ha (bU 1)
 have hm:=Vq (H:=[]) (a:=.ro c (.pb l) 1) (l:=l) rfl hl
 have hr:∃ code,Try.f34.body = some code∧Run X (evT X) 34 0 code [(0,.ro c (.pb l) 1)] [] ⟨.ret,[(2,.int .u32 (adl l:Nat))],[]⟩:=by
  refine ⟨_,rfl,0,?_⟩
  simp (maxSteps:=2000000) -implicitDefEqProofs [-getElem?_pos,go_sem,eqV,ah,hm]
 obtain ⟨code,hc,hr⟩:=hr
 refine dA (Ev1.nV (l:=[.int .u32 (adl l:Nat)]) (bn X) Try.func34 hc hx (by simp [aJ,ids]) (by simp [bW]) rfl rfl rfl ?_)
 rw [Y0]
 exact ⟨_,⟨rfl,rfl⟩,hr⟩
theorem VL (H:AM.Heap):bP X H 22 2 [(0,.int .u8 120),(1,.int .u8 1)] = some (.ro 1 (.pb [120,1]) 0,H):=by kernel_rfl
theorem aaT (H:AM.Heap) (s:Nat):bP X H 22 4 [(0,.int .u8 (UInt8.ofNat (s / 16777216)).toNat),(1,.int .u8 (UInt8.ofNat (s / 65536)).toNat),(2,.int .u8 (UInt8.ofNat (s / 256)).toNat),(3,.int .u8 (UInt8.ofNat s).toNat)] = some (.ro 1 (.pb (be4 s)) 0,H):=by
 unfold be4
 generalize UInt8.ofNat (s / 16777216) = x0
 generalize UInt8.ofNat (s / 65536) = x1
 generalize UInt8.ofNat (s / 256) = x2
 generalize UInt8.ofNat s = x3
 have h0:(x0.toNat:Int) < 256:=by have:=x0.toNat_lt;omega
 have h1:(x1.toNat:Int) < 256:=by have:=x1.toNat_lt;omega
 have h2:(x2.toNat:Int) < 256:=by have:=x2.toNat_lt;omega
 have h3:(x3.toNat:Int) < 256:=by have:=x3.toNat_lt;omega
 simp [bP,jk,o9,mkRow,je,dK,cellsOf,scalars,scalar,aJ,ids,bQ,tags,dU,h0,h1,h2,h3]
theorem NU {H:AM.Heap} {o g:Nat} {ob:AM.Obj} {l:List UInt8} (ho:H[o]? = some (some ob)) (hw:Rw (.pb l) g ob) (hne:l ≠ []) (hl:l.length≤100000):bD X H 22 (.ro 1 (.pb [120,1]) 0) (.sl o 0 l.length g) = some (.sl H.length 0 (120 :: 1 :: l).length 0,H ++ [some ⟨.pb (120 :: 1 :: l),0,none,1,true,false,0⟩]):=by
 have hr:fK X 5 (2 + l.length) = true:=by simp [fK];omega
 have he:2 + l.length = l.length + 1 + 1:=by omega
 have q1:=hw.p;have q2:=hw.g;have q4:=hw.ids;have q5:=hw.tg
 simp only [bD,kK,kL,qC]
 simp [gU,jF,ah,kM,hr,og,emY,aK,live,ho,q1,q2,q4,q5,iw,fA,hne,he ▸ hr,he]
end
end Go.Proofs.Ytbodincpjijdiaa
namespace Go.Proofs.Ytbodincpjijdiaa
open Go.AM
theorem Vr (F:Nat) (mo:Int) (h:0≤mo):Qk (F + 1) [] mo = ([],0,4):=by
 unfold Qk
 rw [if_neg (by omega)]
 rfl
theorem NV {b:List UInt8} (hb:b.length≤65535):dP b ≠ []:=by
 intro e
 have h:=Qb (F:=b.length + 1) (b:=b) (r:=[]) (mo:=(b.length:Nat)) hb (Int.le_refl _) (by omega)
 rw [e,List.append_nil,Vr _ _ (by omega)] at h
 exact absurd (Prod.mk.inj (Prod.mk.inj h).2).2 (by decide)
section
variable {c:Nat} {b:List UInt8}
theorem byte_of (s:Nat):IntKind.u8.wrap ((s:Nat):Int) = (UInt8.ofNat s).toNat:=by
 rw [UInt8.toNat_ofNat']
 show ((s:Nat):Int) % 256 = ((s % 256:Nat):Int)
 omega
theorem Qe {m:Nat} (hb:b.length≤1400):∃ code,Try.f25.body = some code∧aj (jV fun fr E=>∃ a g ob,au fr 2 = .sl a 0 (fG b).length g∧E[a]? = some (some ob)∧Rw (.pb (fG b)) g ob) X (evT X) 25 m code [(0,.ro c (.pb b) 1)] []:=by
 refine ⟨_,rfl,?_⟩
 have hs:=Yf (H:=[some (⟨.pb [],0,none,0,true,false,0⟩:AM.Obj)]) (a:=.ro c (.pb b) 1) (l:=b) rfl (by omega)
 obtain ⟨ob1,w1,e1⟩:=Nc (H:=[some (⟨.pb [],0,none,0,true,false,0⟩:AM.Obj)]) (a:=.ro c (.pb b) 1) (b:=b) rfl hb
 have hlt:=Rn b
 have hdl:=I5 b
 have hA:bD X [some (⟨.pb [],0,none,0,true,false,0⟩:AM.Obj),some ob1] 22 (.ro 1 (.pb [120,1]) 0) (.sl 1 0 (dP b).length 0) = some (.sl 2 0 (120 :: 1 :: dP b).length 0,[some (⟨.pb [],0,none,0,true,false,0⟩:AM.Obj),some ob1,some ⟨.pb (120 :: 1 :: dP b),0,none,1,true,false,0⟩]):=NU (H:=[some (⟨.pb [],0,none,0,true,false,0⟩:AM.Obj),some ob1]) (o:=1) rfl w1 (NV (by omega)) (by omega)
 obtain ⟨ob2,w2,hB⟩:=mY (C:=X) (T:=22) (e:=5) (H:=[some (⟨.pb [],0,none,0,true,false,0⟩:AM.Obj),some ob1,some ⟨.pb (120 :: 1 :: dP b),0,none,1,true,false,0⟩]) (o:=2) (g:=0) (ob:=⟨.pb (120 :: 1 :: dP b),0,none,1,true,false,0⟩) (l:=120 :: 1 :: dP b) (m:=be4 (adl b)) (src:=.ro 1 (.pb (be4 (adl b))) 0) kK rV kL bytes5 qC rfl ⟨rfl,rfl,rfl,rfl,rfl⟩ (.inl (by simp [gU,jF,kM])) (by simp [be4];omega)
 have hp:fG b = (120 :: 1 :: dP b) ++ be4 (adl b):=rfl
 have hlen:(fG b).length = (120 :: 1 :: dP b).length + (be4 (adl b)).length:=by rw [hp,List.length_append]
 rw [← hp] at w2
 rw [← hlen] at hB
 simp only [List.length_cons,List.length_nil,List.cons_append,List.nil_append] at e1
 apply aj.seq (fr':=[(0,.ro c (.pb b) 1)]) (H':=[some (⟨.pb [],0,none,0,true,false,0⟩:AM.Obj)])
 ·(refine ⟨0,?_⟩;simp (maxSteps:=2000000) -implicitDefEqProofs [-getElem?_pos,go_sem,eqV,ah,ak,rowOf,emY])
 generalize hr0:some (⟨.pb [],0,none,0,true,false,0⟩:AM.Obj) = r0 at *
 generalize hr1:some (⟨.pb (120 :: 1 :: dP b),0,none,1,true,false,0⟩:AM.Obj) = r1 at *
 apply aj.seq (fr':=[(0,.ro c (.pb b) 1),(3,.int .u32 (adl b:Nat))]) (H':=[r0])
 ·generalize adl b = s at *
  (refine ⟨0,?_⟩;simp (maxSteps:=2000000) -implicitDefEqProofs [-getElem?_pos,go_sem,eqV,ah,hs])
 have f3:((adl b:Nat):Int).fdiv 16777216 = ((adl b / 16777216:Nat):Int):=by rw [Int.fdiv_eq_ediv_of_nonneg _ (by omega)];omega
 have f2:((adl b:Nat):Int).fdiv 65536 = ((adl b / 65536:Nat):Int):=by rw [Int.fdiv_eq_ediv_of_nonneg _ (by omega)];omega
 have f1:((adl b:Nat):Int).fdiv 256 = ((adl b / 256:Nat):Int):=by rw [Int.fdiv_eq_ediv_of_nonneg _ (by omega)];omega
 have f3':((adl b:Nat):Int) / 16777216 = ((adl b / 16777216:Nat):Int):=by omega
 have f2':((adl b:Nat):Int) / 65536 = ((adl b / 65536:Nat):Int):=by omega
 have f1':((adl b:Nat):Int) / 256 = ((adl b / 256:Nat):Int):=by omega
 have g3:=byte_of (adl b / 16777216)
 have g2:=byte_of (adl b / 65536)
 have g1:=byte_of (adl b / 256)
 have g0:=byte_of (adl b)
 have hb4:=fun H=>aaT H (adl b)
 apply aj.seq (fr':=[(3,.int .u32 (adl b:Nat)),(4,.sl 2 0 (120 :: 1 :: dP b).length 0)]) (H':=[r0,some ob1,r1])
 ·generalize (120 :: 1 :: dP b).length = N3 at *
  generalize (dP b).length = N at *
  generalize adl b = s at *
  (refine ⟨0,?_⟩;simp (maxSteps:=2000000) -implicitDefEqProofs [-getElem?_pos,go_sem,eqV,ah,VL,e1,hA,ak])
 refine aj.of (o:=⟨.ret,[(2,.sl 2 0 (fG b).length (0 + 1))],AM.upd [r0,some ob1,r1] 2 (some ob2)⟩) ?_ ⟨rfl,2,_,ob2,rfl,rfl,w2⟩
 refine ⟨0,?_⟩
 generalize (120 :: 1 :: dP b).length = N at *
 generalize (fG b).length = N2 at *
 generalize be4 (adl b) = q at *
 generalize (UInt8.ofNat (adl b / 16777216)).toNat = y3 at *
 generalize (UInt8.ofNat (adl b / 65536)).toNat = y2 at *
 generalize (UInt8.ofNat (adl b / 256)).toNat = y1 at *
 generalize (UInt8.ofNat (adl b)).toNat = y0 at *
 generalize adl b / 16777216 = z3 at *
 generalize adl b / 65536 = z2 at *
 generalize adl b / 256 = z1 at *
 generalize adl b = s at *
 simp (maxSteps:=2000000) -implicitDefEqProofs [-getElem?_pos,go_sem,eqV,ah,f3,f2,f1,f3',f2',f1',g3,g2,g1,g0,hb4,hB,ak]
theorem Vs {H:AM.Heap} {a:AV} (ha:gq H a = some (.pb b)) (hb:b.length≤1400):∃ ob,Rw (.pb (fG b)) 0 ob∧evT X 25 [a] H = some (.sl H.length 0 (fG b).length 0,H ++ [some ob]):=by
 obtain ⟨c,x,hx⟩:=dS (C:=X) (f:=25) (i:=0) rfl ha (bU 1)
 obtain ⟨code,hc,⟨out,⟨ho,a2,g,ob,h2,h4,hw⟩,hrun⟩⟩:=Qe (m:=0) (c:=c) hb
 obtain ⟨ob',q1,q2⟩:=Ev1.wZ (C:=X) (H:=H) (bn X) (n:=(fG b).length) (l:=fG b) (rest:=[]) Try.func25 hc hx rfl (by simp [bW]) rfl rfl rfl (by
  rw [YW]
  refine ⟨out,⟨ho,a2,g,ob,?_,h4,hw⟩,hrun⟩
  show aQ X out.fr out.H [.tmp 2] = _
  simp [aQ,h2])
 exact ⟨ob',q1,dA q2⟩
end
end Go.Proofs.Ytbodincpjijdiaa
namespace Go.Proofs.Ytbodincpjijdiaa
open Go.AM
def leB:Nat→Nat→List UInt8
  | 0,_=>[]
  | n + 1,x=>UInt8.ofNat (x % 256) :: leB n (x / 256)
theorem vU:∀ n x,(leB n x).length = n
  | 0,_=>rfl
  | n + 1,x=>by simp [leB,vU n]
theorem Kz:∀ n x,leB (n + 1) x = leB n x ++ [UInt8.ofNat (x / 256 ^ n % 256)]
  | 0,x=>by simp [leB]
  | n + 1,x=>by
    rw [leB,Kz n (x / 256),leB]
    simp only [List.cons_append]
    rw [Nat.div_div_eq_div_mul,Nat.pow_succ,Nat.mul_comm]
theorem Yg (i:Nat):(256:Nat) ^ i = 2 ^ (8 * i):=by rw [Nat.pow_mul]
section
variable (T:Cf) (c:Nat) (b:List UInt8) (n:Nat)
end
end Go.Proofs.Ytbodincpjijdiaa
namespace Go.Proofs.Ytbodincpjijdiaa
open Go.AM
def uh:AM.Obj:=⟨.pb [],0,.none,0,true,false,0⟩
theorem Vt:Rw (.pb []) 0 uh:=⟨rfl,rfl,rfl,rfl,rfl⟩
theorem emB:rowOf (bJ X 5) .none 0 = uh:=by simp [bJ,rowOf,uh]
theorem abz {H:AM.Heap} {o g:Nat} {ob:AM.Obj} {l m:List UInt8} {src:AV} (ho:H[o]? = some (some ob)) (h:Rw (.pb l) g ob) (hsrc:gU H src = some (.pb m,0)∨(gU H src = some (.pn,0)∧m = [])) (hn:l.length + m.length≤100000000) :
    ∃ ob',Rw (.pb (l ++ m)) (g + 1) ob'∧bD X H 22 (.sl o 0 l.length g) src = some (.sl o 0 (l.length + m.length) (g + 1),upd H o (some ob')) :=
  mY (by simp) (rV) (by simp) (by simp) (by simp) ho h hsrc hn
theorem Vu {H:AM.Heap} {m:List UInt8} {src:AV} (hsrc:gU H src = some (.pb m,0)∨(gU H src = some (.pn,0)∧m = [])) (hn:m.length≤100000000) :
    bD X H 22 (.ro 1 (.pb []) 0) src = some (.sl H.length 0 m.length 0,H ++ [some ⟨.pb m,0,.none,1,true,false,0⟩]):=by
  have hroom:fK X 5 m.length = true:=by simp [fK];omega
  simp only [bD,kK,kL,qC]
  rcases hsrc with h | ⟨h,rfl⟩
  · simp [h,jF,ah,hroom,og,bJ,aK]
  · simp only [List.length_nil] at hroom
    simp [h,jF,ah,hroom,og,bJ,aK]
theorem akc {H:AM.Heap} {c t:Nat} {p:AV} {l:List UInt8} (hp:PB p l):gU H (.ro c p t) = some (.pb l,0)∨(gU H (.ro c p t) = some (.pn,0)∧l = []):=by
  rcases hp with rfl | ⟨rfl,rfl⟩
  · left;rfl
  · right;exact ⟨rfl,rfl⟩
theorem bs0 (H:AM.Heap):bP X H 22 0 [] = some (.ro 1 (.pb []) 0,H):=by kernel_rfl
theorem coB {p:AV} {b:List UInt8} {c t:Nat} {r:List AV} {ts:List TypeId} (hp:PB p b):coerce X (.ro c p t :: r) (22 :: ts) = .ro c (.pb b) t :: coerce X r ts:=by
  rcases hp with rfl | ⟨rfl,rfl⟩
  · simp [coerce]
  · simp [coerce,bJ]
section
variable (T:Cf) (c:Nat) (b:List UInt8)
theorem Nj (hc:c = 0→b = []) (hb:b.length≤100000000):∃ code,Try.f36.body = some code ∧
    aj (jV fun fr H=>∃ o g ob,au fr 2 = .sl o 0 b.length g∧H[o]? = some (some ob)∧Rw (.pb b) g ob) X T 36 0 code [(0,.ro c (.pb b) 1)] []:=by
  refine ⟨_,rfl,?_⟩
  by_cases h0:c = 0
  · have hbn:=hc h0
    subst hbn
    subst h0
    refine aj.of (o:=⟨.ret,[(2,.sl 1 0 0 0)],[some uh,some uh]⟩) ?_ ⟨rfl,1,0,uh,rfl,rfl,Vt⟩
    refine ⟨0,?_⟩
    simp (maxSteps:=2000000) -implicitDefEqProofs [-getElem?_pos,go_sem,eqV,ah,ak,emB,isNil,lC]
  · have hA:=Vu (H:=[some uh]) (akc (H:=[some uh]) (c:=c) (t:=1) (.inl rfl)) hb
    refine aj.of (o:=⟨.ret,[(2,.sl 1 0 b.length 0)],[some uh,some ⟨.pb b,0,.none,1,true,false,0⟩]⟩) ?_ ⟨rfl,1,0,_,rfl,rfl,⟨rfl,rfl,rfl,rfl,rfl⟩⟩
    refine ⟨0,?_⟩
    simp (maxSteps:=2000000) -implicitDefEqProofs [-getElem?_pos,go_sem,eqV,ah,ak,emB,isNil,lC,h0,bs0,hA]
end
theorem TA {H:AM.Heap} {a:AV} {b:List UInt8} (h:Byt H a b) (hb:b.length≤100000000):∃ ob,Rw (.pb b) 0 ob∧evT X 36 [a] H = some (.sl H.length 0 b.length 0,H ++ [some ob]):=by
  obtain ⟨c,p,x,hp,hc,hx⟩:=oZ (C:=X) (f:=36) (i:=0) rfl h (bU 1)
  obtain ⟨code,hcode,hr⟩:=Nj (evT X) c b hc hb
  obtain ⟨ob,h1,h2⟩:=Ev1.wZ (H:=H) (n:=b.length) (l:=b) (rest:=[]) (bn X) Try.func36 hcode hx (by simp [aJ,ids,hp.ids]) (by simp [bW]) rfl rfl rfl (by
    obtain ⟨o,⟨he,o1,g,ob,q1,q2,q3⟩,hrun⟩:=hr
    exact ⟨o,⟨he,o1,g,ob,congrArg (fun v=>some [v]) q1,q2,q3⟩,by rw [Y2,coB hp];exact hrun⟩)
  exact ⟨ob,h1,dA h2⟩
theorem bs1 (H:AM.Heap) (y:UInt8):bP X H 22 1 [(0,.int .u8 (y.toNat:Nat))] = some (.ro 1 (.pb [y]) 0,H):=by
  have:=y.toNat_lt
  have h1:(y.toNat:Int) < 256:=by omega
  simp [bP,jk,o9,mkRow,je,dK,cellsOf,scalars,scalar,aJ,ids,bQ,tags,dU,h1]
theorem Oy {x i:Nat} (hi:i < 8):Int.fdiv (x:Int) (2 ^ (min (8 * i) 64)) = ((x / 256 ^ i:Nat):Int):=by
  rw [Nat.min_eq_left (by omega),Yg]
  rw [show ((2:Int) ^ (8 * i)) = ((2 ^ (8 * i):Nat):Int) by simp]
  rw [Int.fdiv_eq_ediv_of_nonneg _ (Int.natCast_nonneg _)]
  exact (Int.natCast_ediv _ _).symm
theorem Qg (z:Nat):IntKind.u8.wrap (z:Int) = ((UInt8.ofNat (z % 256)).toNat:Nat):=by
  have:(UInt8.ofNat (z % 256)).toNat = z % 256:=by simp
  rw [this]
  unfold IntKind.wrap
  simp [IntKind.signed,IntKind.bits]
section
variable (c:Nat) (b:List UInt8) (x n:Nat)
def KA (i:Nat):AM.Frame:=[(1,.int .u64 (x:Nat)),(8,.sl 1 0 (b.length + i) i),(29,.int .i64 (n:Nat)),(30,.int .i64 (i:Nat))]
theorem Vw (hc:c = 0→b = []) (hb:b.length≤90000000) (h1:1≤n) (h8:n≤8) (hx:x < 256 ^ n):∃ code,Try.f26.body = some code ∧
    aj (jV fun fr H=>∃ o g ob,au fr 6 = .sl o 0 (b.length + n) g∧au fr 7 = .int .i64 0∧H[o]? = some (some ob)∧Rw (.pb (b ++ leB n x)) g ob) X (evT X) 26 0 code [(0,.ro c (.pb b) 1),(1,.int .u64 (x:Nat)),(2,.int .i64 (n:Nat))] []:=by
  refine ⟨_,rfl,?_⟩
  obtain ⟨ob0,hw0,hC⟩:=TA (H:=[some uh]) (a:=.ro c (.pb b) 1) (b:=b) (Byt.ro (.inl rfl) hc) (by omega)
  have g1:¬ (n:Int) < 1:=by omega
  have g8:¬ (8:Int) < (n:Int):=by omega
  have hz:(n:Int) < 8→Int.fdiv (x:Int) (2 ^ (min (8 * n) 64)) = 0:=by
    intro h
    rw [Oy (by omega),Nat.div_eq_of_lt hx];rfl
  have w8:IntKind.i64.wrap (8 * (n:Int)) = ((8 * n:Nat):Int):=by rw [wrap_i64 (by omega) (by omega)];omega
  have hn0:¬ (((8 * n:Nat):Int) < 0):=by omega
  have hmb:IntKind.u64.bits = 64:=rfl
  apply aj.seq
  · (refine ⟨0,?_⟩;conv=>lhs;simp (maxSteps:=2000000) -implicitDefEqProofs [-getElem?_pos,go_sem,eqV,ah,ak,emB])
  apply aj.seq (fr':=[(0,.ro c (.pb b) 1),(1,.int .u64 (x:Nat)),(2,.int .i64 (n:Nat)),(26,.bool false)]) (H':=[some uh])
  · by_cases h:(n:Int) < 8
    · have hz:=hz h
      generalize 8 * n = n8 at *
      (refine ⟨0,?_⟩;simp (maxSteps:=2000000) -implicitDefEqProofs [-getElem?_pos,go_sem,eqV,ah,g1,g8,h,hz,w8,hn0,hmb])
    · (refine ⟨0,?_⟩;simp (maxSteps:=2000000) -implicitDefEqProofs [-getElem?_pos,go_sem,eqV,ah,g1,g8,h,hz,w8,hn0,hmb])
  apply aj.seq (fr':=[(1,.int .u64 (x:Nat)),(2,.int .i64 (n:Nat)),(8,.sl 1 0 b.length 0)]) (H':=[some uh,some ob0])
  · (refine ⟨0,?_⟩;simp (maxSteps:=2000000) -implicitDefEqProofs [-getElem?_pos,go_sem,eqV,ah,hC,ak])
  apply aj.andThen (P:=fun fr H=>∃ ob,Rw (.pb (b ++ leB n x)) n ob∧fr = KA b x n n ++ [(31,.bool false)]∧H = [some uh,some ob])
  · apply aj.seq (fr':=KA b x n 0) (H':=[some uh,some ob0])
    · (refine ⟨0,?_⟩;simp (maxSteps:=2000000) -implicitDefEqProofs [-getElem?_pos,go_sem,eqV,ah,KA])
    apply aj.block
    refine aj.loop (σ:=Nat × AM.Obj) (fun s=>s.1≤n∧Rw (.pb (b ++ leB s.1 x)) s.1 s.2) (fun s=>KA b x n s.1) (fun s=>[some uh,some s.2]) (fun s=>n - s.1) ?_ (0,ob0) ⟨by simp,by simpa [leB] using hw0⟩
    rintro ⟨i,ob⟩ ⟨hi,hw⟩
    simp only at hi hw ⊢
    by_cases hin:i = n
    · right
      subst hin
      refine ⟨⟨.exit 0,KA b x i i ++ [(31,.bool false)],[some uh,some ob]⟩,⟨rfl,ob,hw,rfl,rfl⟩,by simp,?_⟩
      (refine ⟨0,?_⟩;simp (maxSteps:=2000000) -implicitDefEqProofs [-getElem?_pos,go_sem,eqV,ah,KA])
    · left
      have hlt:i < 8:=by omega
      have hiI:(i:Int) < (n:Int):=by omega
      have w1:IntKind.i64.wrap ((i:Int) + 1) = ((i + 1:Nat):Int):=by rw [wrap_i64 (by omega) (by omega)];omega
      have w8:IntKind.i64.wrap (8 * (i:Int)) = ((8 * i:Nat):Int):=by rw [wrap_i64 (by omega) (by omega)];omega
      have hn0:¬ (((8 * i:Nat):Int) < 0):=by omega
      have hsh:=Oy (x:=x) hlt
      have hlen:=vU i x
      obtain ⟨ob',hw',hA⟩:=abz (H:=[some uh,some ob]) (o:=1) (src:=.ro 1 (.pb [UInt8.ofNat (x / 256 ^ i % 256)]) 0) rfl hw (.inl rfl) (by simp [hlen];omega)
      rw [List.append_assoc,← Kz] at hw'
      simp only [List.length_append,hlen,List.length_cons,List.length_nil] at hA
      refine ⟨(i + 1,ob'),⟨by simp only;omega,hw'⟩,?_,by simp only;omega⟩
      have hwb:=Qg (x / 256 ^ i)
      have hbs:=fun H=>bs1 H (UInt8.ofNat (x / 256 ^ i % 256))
      generalize x / 256 ^ i = z at *
      generalize UInt8.ofNat (z % 256) = y at *
      generalize 8 * i = i8 at *
      (refine ⟨0,?_⟩;simp (maxSteps:=2000000) -implicitDefEqProofs [-getElem?_pos,go_sem,eqV,ah,KA,hiI,w1,w8,hn0,hmb,hsh,hwb,hbs,hA,upd])
      omega
  · rintro fr H ⟨ob,hw,rfl,rfl⟩
    refine aj.of (o:=⟨.ret,[(6,.sl 1 0 (b.length + n) n),(7,.int .i64 0)],[some uh,some ob]⟩) ?_ ⟨rfl,1,n,ob,rfl,rfl,rfl,hw⟩
    refine ⟨0,?_⟩
    simp (maxSteps:=2000000) -implicitDefEqProofs [-getElem?_pos,go_sem,eqV,ah,KA,ak]
end
theorem V3 {H:AM.Heap} {a:AV} {b:List UInt8} {x n:Nat} (h:Byt H a b) (hb:b.length≤90000000) (h1:1≤n) (h8:n≤8) (hx:x < 256 ^ n) :
    ∃ ob,Rw (.pb (b ++ leB n x)) 0 ob∧evT X 26 [a,.int .u64 (x:Nat),.int .i64 (n:Nat)] H = some (.tup [.sl H.length 0 (b.length + n) 0,.int .i64 0],H ++ [some ob]):=by
  obtain ⟨c,p,xl,hp,hc,hx'⟩:=oZ (C:=X) (f:=26) (i:=0) rfl h (dL (i:=1) (a:=.int .u64 (x:Nat)) rfl rfl (dL (i:=2) (a:=.int .i64 (n:Nat)) rfl rfl (bU 3)))
  obtain ⟨code,hcode,hr⟩:=Vw c b x n hc hb h1 h8 hx
  obtain ⟨ob,q1,q2⟩:=Ev1.wZ (H:=H) (n:=b.length + n) (l:=b ++ leB n x) (rest:=[.int .i64 0]) (bn X) Try.func26 hcode hx' (by simp [aJ,ids,hp.ids]) (by simp [bW]) rfl rfl rfl (by
    obtain ⟨o,⟨he,o1,g,ob,q1,q2,q3,q4⟩,hrun⟩:=hr
    exact ⟨o,⟨he,o1,g,ob,by show some [au o.fr 6,au o.fr 7] = _;rw [q1,q2],q3,q4⟩,by rw [YX,coB hp];exact hrun⟩)
  exact ⟨ob,q1,dA q2⟩
end Go.Proofs.Ytbodincpjijdiaa
namespace Go.Proofs.Ytbodincpjijdiaa
open Go.AM
def sqP (th:Nat) (p:List UInt8):List UInt8 × Nat:=if th≤p.length∧(fG p).length < p.length then (fG p,p.length) else (p,0)
def sqH (s:Nat) (x:List UInt8 × Nat):List UInt8:=leB 3 x.1.length ++ [UInt8.ofNat s] ++ leB 3 x.2 ++ x.1
def sqG (mo th:Nat):Nat→List UInt8→Nat→List UInt8→List UInt8 × Nat
  | 0,_,s,o=>(o,s)
  | f + 1,b,s,o=>if b.length = 0 then (o,s) else sqG mo th f (b.drop mo) ((s + 1) % 256) (o ++ sqH s (sqP th (b.take mo)))
theorem GN {th:Nat} {p:List UInt8}:(sqP th p).1.length≤p.length∧(sqP th p).2≤p.length:=by
  unfold sqP
  split
  · rename_i h
    exact ⟨by simp only;omega,Nat.le_refl _⟩
  · exact ⟨Nat.le_refl _,Nat.zero_le _⟩
def SqB (E:AM.Heap) (v:AV) (l:List UInt8):Prop:=v = .ro 2 (.pb l) 1∨∃ z ob,v = .sl z 0 l.length 0∧E[z]? = some (some ob)∧Rw (.pb l) 0 ob
theorem SqB.src {E:AM.Heap} {v:AV} {l:List UInt8} (h:SqB E v l):gU E v = some (.pb l,0):=by
  rcases h with rfl | ⟨z,ob,rfl,h1,h2⟩
  · simp [gU,jF,kM]
  · have q1:=h2.p;have q2:=h2.g;have q4:=h2.ids;have q5:=h2.tg
    simp [gU,live,h1,q1,q2,q4,q5,iw,kM,jF]
theorem SqB.keep {E E':AM.Heap} {v:AV} {l:List UInt8} (h:SqB E v l) (hk:∀ j,j < E.length→E'[j]? = E[j]?):SqB E' v l:=by
  rcases h with rfl | ⟨z,ob,rfl,h1,h2⟩
  · exact .inl rfl
  · exact .inr ⟨z,ob,rfl,by rw [hk z (eY h1)];exact h1,h2⟩
section
variable {c:Nat} {B:List UInt8}
def nZ (c:Nat) (B:List UInt8) (s mo th:Nat) (v:AV):AM.Frame:=[(0,.ro c (.pb B) 1),(1,.int .u8 (s:Nat)),(2,.int .i64 (mo:Nat)),(3,.int .i64 (th:Nat)),(11,v)]
def lM (c:Nat) (B:List UInt8) (s mo th:Nat) (v:AV) (k:Nat) (pv:AV) (a:Nat):AM.Frame:=[(0,.ro c (.pb B) 1),(1,.int .u8 (s:Nat)),(2,.int .i64 (mo:Nat)),(3,.int .i64 (th:Nat)),(11,v),(12,.int .i64 (k:Nat)),(13,pv),(14,.int .i64 (a:Nat))]
theorem TB (B:List UInt8) (mo:Nat):B.take (min B.length mo) = B.take mo:=by
  by_cases h:mo≤B.length
  · rw [Nat.min_eq_right h]
  · rw [Nat.min_eq_left (by omega),List.take_of_length_le (Nat.le_refl _),List.take_of_length_le (by omega)]
theorem I7 (B:List UInt8) (mo:Nat):B.drop (min B.length mo) = B.drop mo:=by
  by_cases h:mo≤B.length
  · rw [Nat.min_eq_right h]
  · rw [Nat.min_eq_left (by omega),List.drop_of_length_le (Nat.le_refl _),List.drop_of_length_le (by omega)]
theorem SqB.pay {E:AM.Heap} {v:AV} {l:List UInt8} (h:SqB E v l):gq E v = some (.pb l):=by
  rcases h with rfl | ⟨z,ob,rfl,h1,h2⟩
  · rfl
  · simp only [gq,live,h1,h2.g,if_true,h2.ids,h2.p,iw]
    simp
theorem abA {m s mo th:Nat} {v:AV} {tl:AM.Frame} {E:AM.Heap} (hb:B.length≤100000) (hm:mo≤16777215):∃ code,((Try.f10.body).bind (aF [1,1,1,0,0,0,1,0,0])) = some code∧Run X (evT X) 10 m code (nZ c B s mo th v ++ tl) E ⟨.normal,nZ c B s mo th v ++ [(12,.int .i64 (min B.length mo:Nat))],E⟩:=by
  refine ⟨_,rfl,?_⟩
  have hmm:jf false (.int .i64 (B.length:Nat)) [.int .i64 (mo:Nat)] = some (.int .i64 (min B.length mo:Nat)):=by
    by_cases h:(mo:Int) < (B.length:Int)
    · rw [Nat.min_eq_right (by omega)]
      simp only [jf,h,if_true]
      simp
    · rw [Nat.min_eq_left (by omega)]
      simp only [jf,h,if_false]
      simp
  generalize min B.length mo = k at *
  simp only [nZ]
  generalize hL:B.length = L at *
  (refine ⟨0,?_⟩;simp (maxSteps:=2000000) -implicitDefEqProofs [-getElem?_pos,go_sem,eqV,ah,hL,hmm])
theorem abB {m s mo th k:Nat} {v:AV} {E:AM.Heap} (hc:c ≠ 0) (hk:k≤B.length) (hb:B.length≤100000):∃ code,((Try.f10.body).bind (aF [1,1,1,0,0,0,1,0,1,0])) = some code∧Run X (evT X) 10 m code (nZ c B s mo th v ++ [(12,.int .i64 (k:Nat))]) E ⟨.normal,lM c B s mo th v k (.ro 2 (.pb (B.take k)) 1) 0,E⟩:=by
  refine ⟨_,rfl,?_⟩
  have hkI:(k:Int)≤(B.length:Int):=by omega
  have hz:iw (.pb B) 0 k = some (.pb (B.take k)):=by simp [iw];omega
  simp only [nZ,lM]
  generalize B.take k = P at *
  generalize hL:B.length = L at *
  (refine ⟨0,?_⟩;simp (maxSteps:=2000000) -implicitDefEqProofs [-getElem?_pos,go_sem,eqV,ah,hL,jq,bound,hk,hkI,hz,hc,ak])
theorem abC {m s mo th k a:Nat} {v pv:AV} {E:AM.Heap}:∃ code,((Try.f10.body).bind (aF [1,1,1,0,0,0,1,0,1,1,0,0])) = some code∧Run X (evT X) 10 m code (lM c B s mo th v k pv a) E ⟨.normal,lM c B s mo th v k pv a ++ [(46,.bool (decide (th≤k)))],E⟩:=by
  refine ⟨_,rfl,?_⟩
  simp only [lM]
  by_cases h:th≤k
  · have hI:(th:Int)≤(k:Int):=by omega
    rw [decide_eq_true h]
    (refine ⟨0,?_⟩;simp (maxSteps:=2000000) -implicitDefEqProofs [-getElem?_pos,go_sem,eqV,ah,h,hI])
  · have hI:¬ (th:Int)≤(k:Int):=by omega
    rw [decide_eq_false h]
    (refine ⟨0,?_⟩;simp (maxSteps:=2000000) -implicitDefEqProofs [-getElem?_pos,go_sem,eqV,ah,h,hI])
theorem abD {m s mo th k a:Nat} {v:AV} {p:List UInt8} {tl:AM.Frame} {E:AM.Heap} {ob:AM.Obj} (e1:evT X 25 [.ro 2 (.pb p) 1] E = some (.sl E.length 0 (fG p).length 0,E ++ [some ob])):∃ code,((Try.f10.body).bind (aF [1,1,1,0,0,0,1,0,1,1,0,1,0,0])) = some code∧Run X (evT X) 10 m code (lM c B s mo th v k (.ro 2 (.pb p) 1) a ++ tl) E ⟨.normal,lM c B s mo th v k (.ro 2 (.pb p) 1) a ++ [(15,.sl E.length 0 (fG p).length 0)],E ++ [some ob]⟩:=by
  refine ⟨_,rfl,?_⟩
  simp only [lM]
  generalize (fG p).length = N at *
  (refine ⟨0,?_⟩;simp (maxSteps:=2000000) -implicitDefEqProofs [-getElem?_pos,go_sem,eqV,ah,e1,ak])
theorem abE {m s mo th k a z n:Nat} {v pv:AV} {E:AM.Heap} {ob:AM.Obj} (hz:E[z]? = some (some ob)) (hg:ob.g = 0):∃ code,((Try.f10.body).bind (aF [1,1,1,0,0,0,1,0,1,1,0,1,0,1,0])) = some code∧Run X (evT X) 10 m code (lM c B s mo th v k pv a ++ [(15,.sl z 0 n 0)]) E ⟨.normal,lM c B s mo th v k pv a ++ [(15,.sl z 0 n 0),(52,.bool (decide (n < k)))],E⟩:=by
  refine ⟨_,rfl,?_⟩
  simp only [lM]
  by_cases h:n < k
  · have hI:(n:Int) < (k:Int):=by omega
    rw [decide_eq_true h]
    (refine ⟨0,?_⟩;simp (maxSteps:=2000000) -implicitDefEqProofs [-getElem?_pos,go_sem,eqV,ah,hz,hg,h,hI])
  · have hI:¬ (n:Int) < (k:Int):=by omega
    rw [decide_eq_false h]
    (refine ⟨0,?_⟩;simp (maxSteps:=2000000) -implicitDefEqProofs [-getElem?_pos,go_sem,eqV,ah,hz,hg,h,hI])
theorem Yh {m s mo th k a z n:Nat} {v pv:AV} {tl:AM.Frame} {E:AM.Heap}:∃ code,((Try.f10.body).bind (aF [1,1,1,0,0,0,1,0,1,1,0,1,0,1,1,0])) = some code∧Run X (evT X) 10 m code (lM c B s mo th v k pv a ++ (15,.sl z 0 n 0) :: tl) E ⟨.normal,lM c B s mo th v k (.sl z 0 n 0) k,E⟩:=by
  refine ⟨_,rfl,?_⟩
  simp only [lM]
  (refine ⟨0,?_⟩;simp (maxSteps:=2000000) -implicitDefEqProofs [-getElem?_pos,go_sem,eqV,ah,ak])
theorem Vx {m s mo th k:Nat} {v:AV} {p:List UInt8} {E:AM.Heap} (hk:k = p.length) (hp:p.length≤1400):∃ R pv tl,SqB (E ++ R) pv (sqP th p).1∧∃ code,((Try.f10.body).bind (aF [1,1,1,0,0,0,1,0,1,1,0])) = some code∧Run X (evT X) 10 m code (lM c B s mo th v k (.ro 2 (.pb p) 1) 0) E ⟨.normal,lM c B s mo th v k pv (sqP th p).2 ++ tl,E ++ R⟩:=by
  have h7:=abC (m:=m) (c:=c) (B:=B) (s:=s) (mo:=mo) (th:=th) (k:=k) (a:=0) (v:=v) (pv:=.ro 2 (.pb p) 1) (E:=E)
  unfold sqP
  rw [← hk]
  by_cases h1:th≤k
  · rw [decide_eq_true h1] at h7
    obtain ⟨ob,w,e1⟩:=Vs (H:=E) (a:=.ro 2 (.pb p) 1) (b:=p) rfl hp
    have h8:=abD (m:=m) (c:=c) (B:=B) (s:=s) (mo:=mo) (th:=th) (k:=k) (a:=0) (v:=v) (tl:=[(46,.bool true)]) e1
    have hz:(E ++ [some ob])[E.length]? = some (some ob):=List.getElem?_concat_length
    have h9:=abE (m:=m) (c:=c) (B:=B) (s:=s) (mo:=mo) (th:=th) (k:=k) (a:=0) (n:=(fG p).length) (v:=v) (pv:=.ro 2 (.pb p) 1) hz w.g
    by_cases h2:(fG p).length < k
    · rw [if_pos ⟨h1,h2⟩]
      rw [decide_eq_true h2] at h9
      have h10:=Yh (m:=m) (c:=c) (B:=B) (s:=s) (mo:=mo) (th:=th) (k:=k) (a:=0) (z:=E.length) (n:=(fG p).length) (v:=v) (pv:=.ro 2 (.pb p) 1) (tl:=[(52,.bool true)]) (E:=E ++ [some ob])
      refine ⟨[some ob],.sl E.length 0 (fG p).length 0,[],.inr ⟨E.length,ob,rfl,hz,w⟩,_,rfl,?_⟩
      rw [List.append_nil]
      apply Run.seq (piece h7 _ rfl)
      refine Run.cond (d:=true) (by simp [lM,aC,au]) ?_
      apply Run.seq (piece h8 _ rfl)
      apply Run.seq (piece h9 _ rfl)
      refine Run.cond (d:=true) (by simp [lM,aC,au]) ?_
      exact piece h10 _ rfl
    · rw [if_neg (fun h=>h2 h.2)]
      rw [decide_eq_false h2] at h9
      refine ⟨[some ob],.ro 2 (.pb p) 1,[(15,.sl E.length 0 (fG p).length 0),(52,.bool false)],.inl rfl,_,rfl,?_⟩
      apply Run.seq (piece h7 _ rfl)
      refine Run.cond (d:=true) (by simp [lM,aC,au]) ?_
      apply Run.seq (piece h8 _ rfl)
      apply Run.seq (piece h9 _ rfl)
      exact Run.cond (d:=false) (by simp [lM,aC,au]) ⟨0,rfl⟩
  · rw [if_neg (fun h=>h1 h.1)]
    rw [decide_eq_false h1] at h7
    refine ⟨[],.ro 2 (.pb p) 1,[(46,.bool false)],.inl rfl,_,rfl,?_⟩
    rw [List.append_nil]
    apply Run.seq (piece h7 _ rfl)
    exact Run.cond (d:=false) (by simp [lM,aC,au]) ⟨0,rfl⟩
end
end Go.Proofs.Ytbodincpjijdiaa
namespace Go.Proofs.Ytbodincpjijdiaa
open Go.AM
def Vy (c:Nat) (B:List UInt8) (s mo th:Nat) (v:AV) (k:Nat) (pv:AV):AM.Frame:=[(0,.ro c (.pb B) 1),(1,.int .u8 (s:Nat)),(2,.int .i64 (mo:Nat)),(3,.int .i64 (th:Nat)),(11,v),(12,.int .i64 (k:Nat)),(13,pv)]
section
variable {c:Nat} {B:List UInt8}
theorem Yi {m s mo th k a N:Nat} {v pv:AV} {x:List UInt8} {tl:AM.Frame} {E:AM.Heap} {ob2:AM.Obj} (hN:SqB E pv x) (hx:x.length≤100000) (e:evT X 26 [v,.int .u64 (x.length:Nat),.int .i64 (3:Nat)] E = some (.tup [.sl E.length 0 N 0,.int .i64 0],E ++ [some ob2])) :
    ∃ code,((Try.f10.body).bind (aF [1,1,1,0,0,0,1,0,1,1,1,0])) = some code∧Run X (evT X) 10 m code (lM c B s mo th v k pv a ++ tl) E ⟨.normal,lM c B s mo th (.sl E.length 0 N 0) k pv a,E ++ [some ob2]⟩:=by
  refine ⟨_,rfl,?_⟩
  have w1:IntKind.u64.wrap (x.length:Int) = (x.length:Int):=wrap_u64 (by omega) (by omega)
  have e3:(((3:Nat):Nat):Int) = 3:=rfl
  rw [e3] at e
  rcases hN with rfl | ⟨z,ob,rfl,h1,h2⟩
  · simp only [lM]
    generalize hL:x.length = L at *
    (refine ⟨0,?_⟩;simp (maxSteps:=2000000) -implicitDefEqProofs [-getElem?_pos,go_sem,eqV,ah,hL,w1,e,ak])
  · have hg:=h2.g
    simp only [lM]
    generalize hL:x.length = L at *
    (refine ⟨0,?_⟩;simp (maxSteps:=2000000) -implicitDefEqProofs [-getElem?_pos,go_sem,eqV,ah,hL,w1,e,h1,hg,ak])
theorem Yj {m s mo th k a N g:Nat} {v pv:AV} {E E':AM.Heap} (hs:s < 256) (hA:bD X E 22 v (.ro 1 (.pb [UInt8.ofNat s]) 0) = some (.sl N 0 g 1,E')) :
    ∃ code,((Try.f10.body).bind (aF [1,1,1,0,0,0,1,0,1,1,1,1,0])) = some code∧Run X (evT X) 10 m code (lM c B s mo th v k pv a) E ⟨.normal,lM c B s mo th (.sl N 0 g 1) k pv a,E'⟩:=by
  refine ⟨_,rfl,?_⟩
  have hbs:=bsW E (UInt8.ofNat s)
  rw [show (UInt8.ofNat s).toNat = s by rw [UInt8.toNat_ofNat'];omega] at hbs
  simp only [lM]
  generalize UInt8.ofNat s = y at *
  (refine ⟨0,?_⟩;simp (maxSteps:=2000000) -implicitDefEqProofs [-getElem?_pos,go_sem,eqV,ah,hbs,hA,ak])
theorem Yk {m s mo th k a N:Nat} {v pv:AV} {E:AM.Heap} {ob2:AM.Obj} (ha:a≤100000) (e:evT X 26 [v,.int .u64 (a:Nat),.int .i64 (3:Nat)] E = some (.tup [.sl E.length 0 N 0,.int .i64 0],E ++ [some ob2])) :
    ∃ code,((Try.f10.body).bind (aF [1,1,1,0,0,0,1,0,1,1,1,1,1,0])) = some code∧Run X (evT X) 10 m code (lM c B s mo th v k pv a) E ⟨.normal,Vy c B s mo th (.sl E.length 0 N 0) k pv,E ++ [some ob2]⟩:=by
  refine ⟨_,rfl,?_⟩
  have w1:IntKind.u64.wrap (a:Int) = (a:Int):=wrap_u64 (by omega) (by omega)
  have e3:(((3:Nat):Nat):Int) = 3:=rfl
  rw [e3] at e
  simp only [lM,Vy]
  (refine ⟨0,?_⟩;simp (maxSteps:=2000000) -implicitDefEqProofs [-getElem?_pos,go_sem,eqV,ah,w1,e,ak])
theorem Yl {m s mo th k:Nat} {v pv v':AV} {E E':AM.Heap} (hA:bD X E 22 v pv = some (v',E')) (hv:∃ o n g,v' = .sl o 0 n g) :
    ∃ code,((Try.f10.body).bind (aF [1,1,1,0,0,0,1,0,1,1,1,1,1,1,0])) = some code∧Run X (evT X) 10 m code (Vy c B s mo th v k pv) E ⟨.normal,nZ c B s mo th v' ++ [(12,.int .i64 (k:Nat))],E'⟩:=by
  refine ⟨_,rfl,?_⟩
  obtain ⟨o,n,g,rfl⟩:=hv
  simp only [Vy,nZ]
  (refine ⟨0,?_⟩;simp (maxSteps:=2000000) -implicitDefEqProofs [-getElem?_pos,go_sem,eqV,ah,hA,ak])
theorem Ym {m s mo th k:Nat} {v:AV} {E:AM.Heap}:∃ code,((Try.f10.body).bind (aF [1,1,1,0,0,0,1,0,1,1,1,1,1,1,1,0])) = some code∧Run X (evT X) 10 m code (nZ c B s mo th v ++ [(12,.int .i64 (k:Nat))]) E ⟨.normal,nZ c B ((s + 1) % 256) mo th v ++ [(12,.int .i64 (k:Nat))],E⟩:=by
  refine ⟨_,rfl,?_⟩
  have w1:IntKind.u8.wrap ((s:Int) + 1) = (((s + 1) % 256:Nat):Int):=by
    show ((s:Int) + 1) % 256 = _
    omega
  generalize (s + 1) % 256 = s1 at *
  simp only [nZ]
  (refine ⟨0,?_⟩;simp (maxSteps:=2000000) -implicitDefEqProofs [-getElem?_pos,go_sem,eqV,ah,w1])
theorem Yn {m s mo th k:Nat} {v:AV} {E:AM.Heap} (hc:c ≠ 0) (hk:k≤B.length) (hb:B.length≤100000):∃ code,((Try.f10.body).bind (aF [1,1,1,0,0,0,1,0,1,1,1,1,1,1,1,1])) = some code∧Run X (evT X) 10 m code (nZ c B s mo th v ++ [(12,.int .i64 (k:Nat))]) E ⟨.normal,nZ c (B.drop k) s mo th v,E⟩:=by
  refine ⟨_,rfl,?_⟩
  have hkI:(k:Int)≤(B.length:Int):=by omega
  have hz:iw (.pb B) k (B.length - k) = some (.pb (B.drop k)):=by
    simp [iw]
    constructor
    · omega
    · rw [List.take_of_length_le (by simp)]
  simp only [nZ]
  generalize B.drop k = P at *
  generalize hL:B.length = L at *
  (refine ⟨0,?_⟩;simp (maxSteps:=2000000) -implicitDefEqProofs [-getElem?_pos,go_sem,eqV,ah,hL,jq,bound,hk,hkI,hz,hc,ak])
theorem TD {m s mo th o g:Nat} {l:List UInt8} {ob:AM.Obj} {E:AM.Heap} (hc:c ≠ 0) (hb:B.length≤1400) (hl:l.length≤100000) (hs:s < 256) (hm:mo≤16777215) (ho:E[o]? = some (some ob)) (hw:Rw (.pb l) g ob) (hne:0 < (B.take mo).length) :
    ∃ o' g' ob' E',E'[o']? = some (some ob')∧Rw (.pb (l ++ sqH s (sqP th (B.take mo)))) g' ob'∧∃ code,((Try.f10.body).bind (aF [1,1,1,0,0,0,1])) = some code∧Run X (evT X) 10 m code (nZ c B s mo th (.sl o 0 l.length g) ++ [(36,.bool true)]) E ⟨.normal,nZ c (B.drop mo) ((s + 1) % 256) mo th (.sl o' 0 (l ++ sqH s (sqP th (B.take mo))).length g'),E'⟩:=by
  have h5:=abA (m:=m) (c:=c) (B:=B) (s:=s) (mo:=mo) (th:=th) (v:=.sl o 0 l.length g) (tl:=[(36,.bool true)]) (E:=E) (by omega) hm
  have h6:=abB (m:=m) (c:=c) (B:=B) (s:=s) (mo:=mo) (th:=th) (k:=min B.length mo) (v:=.sl o 0 l.length g) (E:=E) hc (Nat.min_le_left _ _) (by omega)
  rw [TB] at h6
  have hpl:(B.take mo).length≤1400:=by rw [List.length_take];omega
  obtain ⟨R,pv,tl,hpv,hp⟩:=Vx (m:=m) (c:=c) (B:=B) (s:=s) (mo:=mo) (th:=th) (k:=min B.length mo) (v:=.sl o 0 l.length g) (p:=B.take mo) (E:=E) (by rw [List.length_take,Nat.min_comm]) hpl
  have hx:=GN (th:=th) (p:=B.take mo)
  have hxn:(sqP th (B.take mo)).1 ≠ []:=by
    unfold sqP
    split
    · unfold fG;simp
    · intro e
      simp only at e
      rw [e] at hne
      simp at hne
  unfold sqH
  generalize sqP th (B.take mo) = x at *
  have ho1:(E ++ R)[o]? = some (some ob):=by rw [List.getElem?_append_left (eY ho)];exact ho
  generalize E ++ R = E1 at *
  obtain ⟨ob2,w2,e2⟩:=V3 (H:=E1) (a:=.sl o 0 l.length g) (b:=l) (x:=x.1.length) (n:=3) (Byt.whole ho1 hw) (by omega) (by omega) (by omega) (by omega)
  have h11:=Yi (m:=m) (c:=c) (B:=B) (s:=s) (mo:=mo) (th:=th) (k:=min B.length mo) (a:=x.2) (tl:=tl) hpv (by omega) e2
  have hpv2:=hpv.keep (E':=E1 ++ [some ob2]) fun j hj=>List.getElem?_append_left hj
  have k2:(E1 ++ [some ob2])[E1.length]? = some (some ob2):=List.getElem?_concat_length
  have l2:=vU 3 x.1.length
  obtain ⟨ob3,w3,hA3⟩:=mY (C:=X) (T:=22) (e:=5) (H:=E1 ++ [some ob2]) (o:=E1.length) (g:=0) (ob:=ob2) (l:=l ++ leB 3 x.1.length) (m:=[UInt8.ofNat s]) (src:=.ro 1 (.pb [UInt8.ofNat s]) 0) kK rV kL bytes5 qC k2 w2 (.inl (by simp [gU,jF,kM])) (by simp [l2];omega)
  have hn2:(l ++ leB 3 x.1.length).length = l.length + 3:=by rw [List.length_append,l2]
  rw [hn2] at hA3
  have h12:=Yj (m:=m) (c:=c) (B:=B) (s:=s) (mo:=mo) (th:=th) (k:=min B.length mo) (a:=x.2) (pv:=pv) hs hA3
  have hlt2:∀ j,j < E1.length→(AM.upd (E1 ++ [some ob2]) E1.length (some ob3))[j]? = E1[j]?:=fun j hj=>by
    unfold AM.upd
    rw [List.getElem?_set_ne (by omega),List.getElem?_append_left hj]
  have Xy:=hpv.keep hlt2
  have k3:(AM.upd (E1 ++ [some ob2]) E1.length (some ob3))[E1.length]? = some (some ob3):=setAt k2
  generalize AM.upd (E1 ++ [some ob2]) E1.length (some ob3) = E2 at *
  generalize hL3:l ++ leB 3 x.1.length ++ [UInt8.ofNat s] = L3 at *
  have hn3:L3.length = l.length + 3 + [UInt8.ofNat s].length:=by rw [← hL3,List.length_append,hn2]
  rw [← hn3] at h12
  obtain ⟨ob4,w4,e4⟩:=V3 (H:=E2) (a:=.sl E1.length 0 L3.length (0 + 1)) (b:=L3) (x:=x.2) (n:=3) (Byt.whole k3 w3) (by rw [hn3];simp;omega) (by omega) (by omega) (by omega)
  have h13:=Yk (m:=m) (c:=c) (B:=B) (s:=s) (mo:=mo) (th:=th) (k:=min B.length mo) (pv:=pv) (by omega) e4
  have k4:(E2 ++ [some ob4])[E2.length]? = some (some ob4):=List.getElem?_concat_length
  have akd:=Xy.keep (E':=E2 ++ [some ob4]) fun j hj=>List.getElem?_append_left hj
  have l4:=vU 3 x.2
  have hn4:(L3 ++ leB 3 x.2).length = L3.length + 3:=by rw [List.length_append,l4]
  obtain ⟨ob5,w5,hA5⟩:=mY (C:=X) (T:=22) (e:=5) (H:=E2 ++ [some ob4]) (o:=E2.length) (g:=0) (ob:=ob4) (l:=L3 ++ leB 3 x.2) (m:=x.1) (src:=pv) kK rV kL bytes5 qC k4 w4 (.inl akd.src) (by rw [hn4,hn3];simp;omega)
  rw [hn4] at hA5
  have h14:=Yl (m:=m) (c:=c) (B:=B) (s:=s) (mo:=mo) (th:=th) (k:=min B.length mo) hA5 ⟨_,_,_,rfl⟩
  have hout:l ++ (leB 3 x.1.length ++ [UInt8.ofNat s] ++ leB 3 x.2 ++ x.1) = L3 ++ leB 3 x.2 ++ x.1:=by rw [← hL3];simp
  have hlen5:(L3 ++ leB 3 x.2 ++ x.1).length = L3.length + 3 + x.1.length:=by rw [List.length_append,hn4]
  rw [hout]
  have h15:=Ym (m:=m) (c:=c) (B:=B) (s:=s) (mo:=mo) (th:=th) (k:=min B.length mo) (v:=.sl E2.length 0 (L3.length + 3 + x.1.length) (0 + 1)) (E:=AM.upd (E2 ++ [some ob4]) E2.length (some ob5))
  have h16:=Yn (m:=m) (c:=c) (B:=B) (s:=(s + 1) % 256) (mo:=mo) (th:=th) (k:=min B.length mo) (v:=.sl E2.length 0 (L3.length + 3 + x.1.length) (0 + 1)) (E:=AM.upd (E2 ++ [some ob4]) E2.length (some ob5)) hc (Nat.min_le_left _ _) (by omega)
  rw [I7] at h16
  refine ⟨E2.length,0 + 1,ob5,AM.upd (E2 ++ [some ob4]) E2.length (some ob5),setAt k4,w5,_,rfl,?_⟩
  rw [hlen5]
  refine Run.block ?_ (by simp)
  apply Run.seq (piece h5 _ rfl)
  apply Run.seq (piece h6 _ rfl)
  apply Run.seq (piece hp _ rfl)
  apply Run.seq (piece h11 _ rfl)
  apply Run.seq (piece h12 _ rfl)
  apply Run.seq (piece h13 _ rfl)
  apply Run.seq (piece h14 _ rfl)
  apply Run.seq (piece h15 _ rfl)
  exact piece h16 _ rfl
end
end Go.Proofs.Ytbodincpjijdiaa
namespace Go.Proofs.Ytbodincpjijdiaa
open Go.AM
theorem Nk (c c2:Nat) (a b:List UInt8):∃ code,Try.f12.body = some code ∧
  Run X (evT X) 12 0 code [(0,.ro c (.pb a) 1),(1,.ro c2 (.pb b) 2)] [] ⟨.ret,[(4,.bool (a == b))],[]⟩:=by
 refine ⟨_,rfl,0,?_⟩
 simp (maxSteps:=2000000) -implicitDefEqProofs [-getElem?_pos,go_sem,eqV,ah,qM,N7]
theorem coD {p:AV} {b:List UInt8} {c t:Nat} {r:List AV} {ts:List TypeId} (hp:PB p b):coerce X (.ro c p t :: r) (22 :: ts) = .ro c (.pb b) t :: coerce X r ts:=by
 rcases hp with rfl | ⟨rfl,rfl⟩
 ·simp [coerce]
 ·simp [coerce,bJ]
theorem Dj {H:AM.Heap} {a a2:AV} {l m:List UInt8} (h:Byt H a l) (h2:Byt H a2 m):evT X 12 [a,a2] H = some (.bool (l == m),H):=by
 obtain ⟨c2,p2,x2,hp2,_,hx2⟩:=oZ (C:=X) (f:=12) (i:=1) rfl h2 (bU 2)
 obtain ⟨c,p,x,hp,_,hx⟩:=oZ (C:=X) (f:=12) (i:=0) rfl h hx2
 obtain ⟨code,hcode,hr⟩:=Nk c c2 l m
 refine dA (Ev1.nV (l:=[.bool (l == m)]) (bn X) Try.func12 hcode hx (by simp [aJ,ids,hp.ids,hp2.ids]) (by simp [bW]) rfl rfl rfl ?_)
 rw [YU,coD hp,coD hp2]
 exact ⟨_,⟨rfl,rfl⟩,hr⟩
end Go.Proofs.Ytbodincpjijdiaa
namespace Go.Proofs.Ytbodincpjijdiaa
open Go.AM
def uJ (mo th:Int):Prop:=mo < 1∨16777215 < mo∨th < 0∨16777215 < th
instance (mo th:Int):Decidable (uJ mo th):=by unfold uJ;infer_instance
def sqR (b:List UInt8) (s:Nat) (mo th:Int):List UInt8 × Nat × Int:=if uJ mo th then ([],0,2) else ((sqG mo.toNat th.toNat b.length b s []).1,(sqG mo.toNat th.toNat b.length b s []).2,0)
def sqX (r:List UInt8 × Nat × Int) (fr:AM.Frame) (E:AM.Heap):Prop:=∃ o g ob,au fr 8 = .sl o 0 r.1.length g∧au fr 9 = .int .u8 (r.2.1:Nat)∧au fr 10 = .int .i64 r.2.2∧E[o]? = some (some ob)∧Rw (.pb r.1) g ob
theorem NW (mo th f s:Nat) (o:List UInt8):sqG mo th f [] s o = (o,s):=by
  cases f with
  | zero=>rfl
  | succ f=>unfold sqG;simp
def mD:AM.Obj:=⟨.pb [],0,none,0,true,false,0⟩
theorem NY {s th:Nat} {p:List UInt8}:(sqH s (sqP th p)).length≤7 + p.length:=by
  have:=(GN (th:=th) (p:=p)).1
  unfold sqH
  simp only [List.length_append,vU,List.length_singleton]
  omega
section
variable {c:Nat} {B:List UInt8}
theorem mk7 {n:Nat} (hn:n≤1000000) (H:AM.Heap):dI X H 22 (.int .i64 0) (.int .i64 (n:Nat)) = some (.sl H.length 0 0 0,H ++ [some ⟨.pb [],0,some n,1,true,false,0⟩]):=by
  have hz:∀ n,iP X 5 n = some (.pb (List.replicate n 0)):=fun n=>by simp [iP,dK,scalars,scalar,aJ,ids,bQ,tags]
  have h0:(0:Int)≤n:=by omega
  have h1:(n:Int)≤9223372036854775807:=by omega
  have h2:(n:Int)≤140737488355328:=by omega
  simp [dI,hz,h0,h1,h2,rowOf]
theorem abG {m s mo th n7:Nat} {nq ob0:AM.Obj} (w7:IntKind.i64.wrap ((B.length:Int) + 7) = (n7:Int)) (hM:dI X [some nq] 22 (.int .i64 0) (.int .i64 (n7:Nat)) = some (.sl 1 0 0 0,[some nq,some ob0])):∃ code,((Try.f10.body).bind (aF [1,1,0])) = some code∧Run X (evT X) 10 m code ([(0,.ro c (.pb B) 1),(1,.int .u8 (s:Nat)),(2,.int .i64 (mo:Nat)),(3,.int .i64 (th:Nat)),(29,.bool false)]) [some nq] ⟨.normal,nZ c B s mo th (.sl 1 0 0 0),[some nq,some ob0]⟩:=by
  refine ⟨_,rfl,?_⟩
  simp only [nZ]
  generalize hL:B.length = L at *
  (refine ⟨0,?_⟩;simp (maxSteps:=2000000) -implicitDefEqProofs [-getElem?_pos,go_sem,eqV,ah,hL,w7,hM,ak])
theorem KC {m s:Nat} {mo th:Int} (h:uJ mo th):∃ code,Try.f10.body = some code∧aj (jV (sqX ([],0,2))) X (evT X) 10 m code [(0,.ro c (.pb B) 1),(1,.int .u8 (s:Nat)),(2,.int .i64 mo),(3,.int .i64 th)] []:=by
  refine ⟨_,rfl,?_⟩
  refine aj.of (o:=⟨.ret,[(8,.sl 1 0 0 0),(9,.int .u8 0),(10,.int .i64 2)],[some mD,some mD]⟩) ?_ ⟨rfl,1,0,mD,rfl,rfl,rfl,rfl,⟨rfl,rfl,rfl,rfl,rfl⟩⟩
  refine ⟨0,?_⟩
  unfold uJ at h
  simp only [mD]
  by_cases h1:mo < 1
  · simp (maxSteps:=2000000) -implicitDefEqProofs [-getElem?_pos,go_sem,eqV,ah,h1,ak,rowOf,oP]
  · by_cases h2:16777215 < mo
    · simp (maxSteps:=2000000) -implicitDefEqProofs [-getElem?_pos,go_sem,eqV,ah,h1,h2,ak,rowOf,oP]
    · by_cases h3:th < 0
      · simp (maxSteps:=2000000) -implicitDefEqProofs [-getElem?_pos,go_sem,eqV,ah,h1,h2,h3,ak,rowOf,oP]
      · have h4:16777215 < th:=by omega
        simp (maxSteps:=2000000) -implicitDefEqProofs [-getElem?_pos,go_sem,eqV,ah,h1,h2,h3,h4,ak,rowOf,oP]
theorem Ig {m s mo th:Nat} (hc:c = 0→B = []) (hb:B.length≤1000) (hs:s < 256) (h1:1≤mo) (h2:mo≤16777215) (h3:th≤16777215):∃ code,Try.f10.body = some code∧aj (jV (sqX ((sqG mo th B.length B s []).1,(sqG mo th B.length B s []).2,0))) X (evT X) 10 m code [(0,.ro c (.pb B) 1),(1,.int .u8 (s:Nat)),(2,.int .i64 (mo:Nat)),(3,.int .i64 (th:Nat))] []:=by
  refine ⟨_,rfl,?_⟩
  have a1:¬ (mo:Int) < 1:=by omega
  have a2:¬ (16777215:Int) < (mo:Int):=by omega
  have a3:¬ (th:Int) < 0:=by omega
  have a4:¬ (16777215:Int) < (th:Int):=by omega
  apply aj.seq (fr':=[(0,.ro c (.pb B) 1),(1,.int .u8 (s:Nat)),(2,.int .i64 (mo:Nat)),(3,.int .i64 (th:Nat))]) (H':=[some mD])
  · simp only [mD]
    (refine ⟨0,?_⟩;simp (maxSteps:=2000000) -implicitDefEqProofs [-getElem?_pos,go_sem,eqV,ah,ak,rowOf,oP])
  apply aj.assoc
  apply aj.seq (fr':=[(0,.ro c (.pb B) 1),(1,.int .u8 (s:Nat)),(2,.int .i64 (mo:Nat)),(3,.int .i64 (th:Nat)),(29,.bool false)]) (H':=[some mD])
  · generalize (mo:Int) = mI at *
    generalize (th:Int) = tI at *
    (refine ⟨0,?_⟩;simp (maxSteps:=2000000) -implicitDefEqProofs [-getElem?_pos,go_sem,eqV,ah,a1,a2,a3,a4])
  apply aj.seq (fr':=[(0,.ro c (.pb B) 1),(1,.int .u8 (s:Nat)),(2,.int .i64 (mo:Nat)),(3,.int .i64 (th:Nat)),(29,.bool false)]) (H':=[some mD])
  · exact Run.cond (d:=false) (by simp [aC,au]) ⟨0,rfl⟩
  have hM:dI X [some mD] 22 (.int .i64 0) (.int .i64 (B.length + 7:Nat)) = some (.sl 1 0 0 0,[some mD,some ⟨.pb [],0,some (B.length + 7),1,true,false,0⟩]):=mk7 (n:=B.length + 7) (by omega) [some mD]
  have w7:IntKind.i64.wrap ((B.length:Int) + 7) = ((B.length + 7:Nat):Int):=by rw [wrap_i64 (by omega) (by omega)];omega
  have hw0:Rw (.pb []) 0 (⟨.pb [],0,some (B.length + 7),1,true,false,0⟩:AM.Obj):=⟨rfl,rfl,rfl,rfl,rfl⟩
  generalize (⟨.pb [],0,some (B.length + 7),1,true,false,0⟩:AM.Obj) = ob0 at *
  generalize hnq:mD = nq at *
  have hob:([some nq,some ob0]:AM.Heap)[1]? = some (some ob0):=rfl
  apply aj.seq (piece (abG (m:=m) (c:=c) (B:=B) (s:=s) (mo:=mo) (th:=th) w7 hM) _ rfl)
  clear hM w7
  generalize ([some nq,some ob0]:AM.Heap) = E0 at *
  refine aj.andThen (P:=fun fr E=>∃ o g ob l s',au fr 11 = .sl o 0 l.length g∧au fr 1 = .int .u8 (s':Nat)∧E[o]? = some (some ob)∧Rw (.pb l) g ob∧sqG mo th B.length B s [] = (l,s')) ?_ ?_
  · apply aj.block
    refine aj.kJ (I:=fun k fr E=>∃ B' s' o g ob l,B'.length≤k∧s' < 256∧(c = 0→B' = [])∧l.length + 8 * B'.length≤8000∧fr = nZ c B' s' mo th (.sl o 0 l.length g)∧E[o]? = some (some ob)∧Rw (.pb l) g ob∧sqG mo th k B' s' l = sqG mo th B.length B s []) ?_ (k:=B.length) ⟨B,s,1,0,ob0,[],Nat.le_refl _,hs,hc,by rw [List.length_nil];omega,rfl,hob,hw0,rfl⟩
    rintro k fr E ⟨B',s',o,g,ob,l,hk,hs',hc',hl,rfl,ho,hw,he⟩
    by_cases hB:B'.length = 0
    · have hB0:B' = []:=List.eq_nil_of_length_eq_zero hB
      subst hB0
      rw [NW] at he
      refine aj.of (o:=⟨.exit 0,nZ c [] s' mo th (.sl o 0 l.length g) ++ [(36,.bool false)],E⟩) ?_ (.inr ⟨by simp,rfl,o,g,ob,l,s',by simp [nZ,au],by simp [nZ,au],ho,hw,he.symm⟩)
      refine ⟨0,?_⟩
      simp only [nZ]
      generalize l.length = N at *
      simp (maxSteps:=2000000) -implicitDefEqProofs [-getElem?_pos,go_sem,eqV,ah]
    · cases k with
      | zero=>omega
      | succ k =>
        have hBp:0 < B'.length:=by omega
        have hBI:(0:Int) < (B'.length:Int):=by omega
        rw [sqG,if_neg hB] at he
        have hc0:c ≠ 0:=fun h=>hB (by rw [hc' h];rfl)
        have ht:(B'.take mo).length + (B'.drop mo).length = B'.length:=by rw [← List.length_append,List.take_append_drop]
        have ht1:0 < (B'.take mo).length:=by rw [List.length_take];omega
        have hHl:=NY (s:=s') (th:=th) (p:=B'.take mo)
        obtain ⟨o2,g2,ob2,E2,q1,q2,q3⟩:=TD (m:=m) (th:=th) hc0 (by omega) (by omega) hs' h2 ho hw ht1
        refine aj.of (o:=⟨.normal,_,E2⟩) ?_ (.inl ⟨rfl,k,by omega,B'.drop mo,(s' + 1) % 256,o2,g2,ob2,l ++ sqH s' (sqP th (B'.take mo)),by omega,by omega,fun h=>absurd h hc0,by rw [List.length_append];omega,rfl,q1,q2,he⟩)
        apply Run.seq (fr':=nZ c B' s' mo th (.sl o 0 l.length g) ++ [(36,.bool true)]) (H':=E)
        · apply Run.seq (fr':=nZ c B' s' mo th (.sl o 0 l.length g) ++ [(36,.bool true)]) (H':=E)
          · simp only [nZ]
            generalize l.length = N at *
            generalize hL:B'.length = L at *
            (refine ⟨0,?_⟩;simp (maxSteps:=2000000) -implicitDefEqProofs [-getElem?_pos,go_sem,eqV,ah,hL,hBI,hBp])
          · exact Run.cond (d:=true) (by simp [nZ,aC,au]) ⟨0,rfl⟩
        · exact piece q3 _ rfl
  · rintro fr E ⟨o,g,ob,l,s',g1,g2,g3,g4,g5⟩
    rw [g5]
    refine aj.of (o:=⟨.ret,[(8,.sl o 0 l.length g),(9,.int .u8 (s':Nat)),(10,.int .i64 0)],E⟩) ?_ ⟨rfl,o,g,ob,rfl,rfl,rfl,g3,g4⟩
    refine ⟨0,?_⟩
    generalize l.length = N at *
    simp (maxSteps:=2000000) -implicitDefEqProofs [-getElem?_pos,go_sem,eqV,ah,g1,g2,ak]
theorem Ew {m s:Nat} {mo th:Int} (hc:c = 0→B = []) (hb:B.length≤1000) (hs:s < 256):∃ code,Try.f10.body = some code∧aj (jV (sqX (sqR B s mo th))) X (evT X) 10 m code [(0,.ro c (.pb B) 1),(1,.int .u8 (s:Nat)),(2,.int .i64 mo),(3,.int .i64 th)] []:=by
  unfold sqR
  by_cases h:uJ mo th
  · rw [if_pos h]
    exact KC h
  · rw [if_neg h]
    unfold uJ at h
    obtain ⟨m1,rfl⟩:∃ k:Nat,mo = (k:Nat):=⟨mo.toNat,by omega⟩
    obtain ⟨t1,rfl⟩:∃ k:Nat,th = (k:Nat):=⟨th.toNat,by omega⟩
    rw [Int.toNat_natCast,Int.toNat_natCast]
    exact Ig hc hb hs (by omega) (by omega) (by omega)
theorem Dk {H:AM.Heap} {a:AV} {s:Nat} {mo th:Int} (h:Byt H a B) (hb:B.length≤1000) (hs:s < 256):∃ ob,Rw (.pb (sqR B s mo th).1) 0 ob∧evT X 10 [a,.int .u8 (s:Nat),.int .i64 mo,.int .i64 th] H = some (.tup [.sl H.length 0 (sqR B s mo th).1.length 0,.int .u8 ((sqR B s mo th).2.1:Nat),.int .i64 (sqR B s mo th).2.2],H ++ [some ob]):=by
  have h3:=dL (C:=X) (f:=10) (i:=3) (a:=.int .i64 th) (H:=H) rfl rfl (bU 4)
  have h2:=dL (C:=X) (f:=10) (i:=2) (a:=.int .i64 mo) (H:=H) rfl rfl h3
  have h1:=dL (C:=X) (f:=10) (i:=1) (a:=.int .u8 (s:Nat)) (H:=H) rfl rfl h2
  obtain ⟨c,p,xl,hp,hc,hx⟩:=oZ (C:=X) (f:=10) (i:=0) rfl h h1
  obtain ⟨code,hcode,out,⟨ho,o,g,ob,q1,q2,q3,q4,q5⟩,hrun⟩:=Ew (m:=0) (c:=c) (mo:=mo) (th:=th) hc hb hs
  obtain ⟨ob',r1,r2⟩:=Ev1.wZ (C:=X) (H:=H) (bn X) (n:=(sqR B s mo th).1.length) (l:=(sqR B s mo th).1) (rest:=[.int .u8 ((sqR B s mo th).2.1:Nat),.int .i64 (sqR B s mo th).2.2]) Try.func10 hcode hx (by simp [aJ,ids,hp.ids]) (by simp [bW]) rfl rfl rfl (by
    rw [YS,coD hp]
    refine ⟨out,⟨ho,o,g,ob,?_,q4,q5⟩,hrun⟩
    show aQ X out.fr out.H [.tmp 8,.tmp 9,.tmp 10] = _
    simp [aQ,q1,q2,q3])
  exact ⟨ob',r1,dA (by simpa [aO,fU] using r2)⟩
end
end Go.Proofs.Ytbodincpjijdiaa
