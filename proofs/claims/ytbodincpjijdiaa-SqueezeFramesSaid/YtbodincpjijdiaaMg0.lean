/- X to X: texts of this claim, one behind the other; what each shows stands at its head. -/
import Derived.Test.YtbodincpjijdiaaRows
import Derived.Test.YtbodincpjijdiaaAm4
set_option linter.defProp false
set_option linter.unusedSimpArgs false
set_option linter.unusedVariables false
set_option maxRecDepth 100000
set_option maxHeartbeats 8000000
namespace Go.Proofs.Ytbodincpjijdiaa
open Go.AM
@[simp] def acM:List (List Nat):=[[0,1,2,3],[0,1,2,3,31],[8],[0,1,2,3,55],[8],[0,1,2,3,9],[0,1,2,3,9,10],[0,1,2,3,9,10,11],[0,1,2,3,9,10,11,59],[0,1,2,3,9,10,11],[0,1,2,3,9,10,11,67],[8],[0,1,2,3,9,11,12,13,14],[0,1,2,3,9,11,12,13,80],[8],[0,1,2,3,9,11,13],[0,1,2,3,9,10,11],[0,1,2,3,15,17],[0,1,3,15,17,18,19],[0,3,15,17,18,19,20,21],[0,3,15,18,20,119],[8],[0,3,15,18,20,22],[0,18,20,22,23],[0,18,20,22,23,24],[0,18,20,22,23,24,126],[0,18,20,22,23,24],[0,18,20,22,23,24,25,26],[0,18,20,22,23,24,26,27,28],[0,18,20,22,23,24,27,149],[8],[0,18,20,22,23,24],[0,22,29],[0,22,29,156],[0,22,29],[0,22,29,175],[8],[8]]
@[simp] def acN:List (List Nat):=[[],[1,2,3],[0]]
@[simp] def WR:List (List Nat):=[[0,1,2,3],[0,1,2,3,29],[8,9,10],[0,1,2,3,11],[0,1,2,3,11,36],[0,1,2,3,11,12],[0,1,2,3,11,12,13,14],[0,1,2,3,11,12,13,14,46],[0,1,2,3,11,12,13,14,15],[0,1,2,3,11,12,13,14,15,52],[0,1,2,3,11,12,13,14],[0,1,2,3,11,12,13,14],[0,1,2,3,11,12,13,14],[0,1,2,3,11,12,13],[0,1,2,3,11,12],[0,1,2,3,11,12],[0,1,2,3,11],[8,9,10]]
@[simp] def WS:List (List Nat):=[[0,1],[4]]
@[simp] def WT:List (List Nat):=[[0],[0,9],[2,3],[2,3]]
@[simp] def WU:List (List Nat):=[[0,1],[0,1,10],[4,5],[0,1,13],[4,5],[0],[0,6],[0,6,33],[0,6,7,8,9],[0,6,7,8,9,41],[6,9],[4,5],[0,6,7,52],[0,6],[0,6],[4,5]]
@[simp] def WV:List (List Nat):=[[0,1],[0,1,5],[0,1,5,6],[0,1,5,6,16],[0,1,5,6],[0,1,5,6,7],[0,1,5,6,7],[0,1,5,6],[4]]
@[simp] def WW:List (List Nat):=[[0,1,2],[0,1,2,13],[6,7,8],[0,1,2,16],[6,7,8],[0,1,2,9],[0,1,2,9,10],[0,1,2,9,10],[0,1,2,9,10],[0,1,2,9,10],[0,1,2,9,10],[0,1,2,9,43],[6,7,8]]
@[simp] def WX:List (List Nat):=[[0,1],[0,1,16],[4,5],[4,5]]
@[simp] def WY:List (List Nat):=[[0,1],[0,1,9],[4,5],[0,1,12],[4,5],[0],[0,6],[0,6,32],[0,6,7,8],[0,6,7,8,39],[6,8],[4,5],[0,6,7,53],[0,6,7,58],[0,6,7],[0,6,7],[0,6,7],[0,6,7],[0,6,106],[0,6],[0,6],[4,5]]
@[simp] def W9:List (List Nat):=[[0],[0,3],[3,4],[2]]
@[simp] def Xa:List (List Nat):=[[0,1,2],[0,1,2,26],[6,7],[1,2,8],[1,8,29,30],[1,8,29,30,31],[1,8,9,29,30],[1,8,29,30],[1,8,29,30],[6,7]]
@[simp] def Xc:List (List Nat):=[[0],[2]]
@[simp] def Xd:List (List Nat):=[[0],[0,5],[0,5,7],[0,9,10],[0,9,10,35],[2,3,4],[0,9,10,50],[2,3,4],[0,9,10,62],[2,3,4],[0,9,10,11],[10,11],[10,11,89],[2,3,4],[10,12,13],[10,12,13,97],[2,3,4],[12,100],[2,3,4],[2,3,4]]
@[simp] def Xe:List (List Nat):=[[0,1],[0,1],[0,1,9],[0],[4]]
@[simp] def Xf:List (List Nat):=[[0],[2]]
@[simp] def Xg:List (List Nat):=[[0],[2]]
@[simp] def Xh:List (List Nat):=[[0],[0,4],[0,6],[0,6,17],[2,3],[0,6,24],[2,3],[6,36],[2,3],[2,3]]
@[simp] def Xi:List (List Nat):=[[0],[2]]
@[simp] def Xj:List (List Nat):=[[0],[0,3],[3,5],[3,5,18],[2],[2]]
@[simp] def Xk:List (List Nat):=[[0],[0,4],[2],[2]]
@[simp] def Xl:List (List Nat):=[[0,1],[0,1,13],[4,5],[0,1,17],[4,5],[0,1,6],[0,6,18,19],[0,6,18,19,20],[0,6,7,18,19],[0,6,18,19],[0,6,18,19],[4,5]]
@[simp] def Xm:List (List Nat):=[[0,1],[0,1,12],[4,5],[0,1,6],[0,1,6,16],[4,5],[0,7,8,9],[0,7,8,9,27],[4,5],[0,7],[0,7,35],[4,5],[0,7,10],[0,7,61],[4,5],[7,64],[4,5],[4,5]]
@[simp] def Xn:List (List Nat):=[[0,1],[1,5,6],[1,5,6],[5,6,18,19,20],[5,6,18,19,20,21],[5,6,8,18,19,20],[5,6,18,19,20],[5,6,18,19,20],[5,6,18,19,20],[4]]
@[simp] def Xo:List (List Nat):=[[0],[0,5],[0,5,24],[2,3],[0,6,7],[0,6,7,8],[0,6,7,8,10],[0,6,7,8,10,12],[0,6,7,8,10,12],[0,6,7,8,10,12],[6,7,8,10,12,46,47,48],[6,7,8,10,12,46,47,48,49],[6,7,8,10,12,14,46,47,48],[6,7,8,10,12,14,46,47,48,54],[6,7,8,10,12,46,47,48],[6,7,8,10,12,14,15,16,17,46,47,48],[6,7,8,10,12,14,16,17,46,47,48],[6,7,8,10,12,14,46,47,48],[6,7,8,10,12,14,15,16,17,46,47,48],[6,7,8,10,12,14,16,17,46,47,48],[6,7,8,10,12,46,47,48],[6,7,8,10,12,46,47,48],[12],[2,3]]
@[simp] def Xp:List (List Nat):=[[1],[1,3],[1,3,4],[1,3,4,5],[1,3,4,5,6],[1,3,4,5,6,18],[1,3,4,5,6,7,8],[1,3,4,5,6,7,8,23],[1,3,4,5,6,7,8,9],[1,3,4,5,6,7,8,9,10],[1,3,4,5,6,7,8,9,10,58],[1,3,4,5,6,7,8,9,10],[1,3,4,5,6,7,8,9,10,11],[1,3,4,5,6,7,8,9,10,11,70],[1,3,4,5,6,7,8,9,10],[1,3,4,5,6,7,8,12],[1,3,4,5,6,7,8,12,84],[1,3,4,5,6,12],[1,3,4,5,6,12],[1,3,4,5,6,94,95],[1,3,4,5,6,94,95,96],[1,3,4,5,6,94,95],[1,3,4,5,6,94,95],[1,3,4,5,6,94,95],[2]]
@[simp] def Xq:List (List Nat):=[[0],[0,3],[0,3,4],[0,3,4,5],[0,3,4,5,14],[0,3,4,5],[0,3,4,5],[0,3,4,5],[0,3,4,5],[0,3,4,5],[0,3,4,5],[0,3,4,5],[0,3,5],[0,3,58],[2]]
@[simp] def Xr:List (List Nat):=[[0],[0,5],[2],[39],[2],[2]]
@[simp] def Xt:List (List Nat):=[[0,1],[0,1,9],[4,5,6],[7],[7],[7,20],[4,5,6],[4,5,6]]
@[simp] def Xu:List (List Nat):=[[0],[2,3]]
@[simp] def Xv:List (List Nat):=[[0],[0,4],[4,7,8,9],[4,7,8,9,10],[4,6,7,8,9],[4,6,7,8,9,15],[2,3],[4,6,7,8,9,18],[4,7,8,9],[4,6,7,8,9,28],[2,3],[4,6,7,8,9,30,31],[4,6,7,8,9,30,31,32],[4,6,7,8,9,30,31],[4,6,7,8,9,30,31],[4,7,8,9],[2,3]]
@[simp] def Xw:List (List Nat):=[[0,1],[0,1,4],[0,1,4,5],[0,1,2,4],[0,1,2,3,4],[0,1,2,3,4,7],[0,1,3,4],[0,1,3,4,14],[0,1,3,4],[0,1,4],[0,1,4],[0,1,26],[0,1,26,27],[0,1,26],[0,1,26],[0,1]]
@[simp] def Xx:List (List Nat):=[[0],[0,5],[0,5,18],[2,3],[0,6],[0,8],[0,8,9],[8,9,30,31,32],[8,9,30,31,32,33],[8,9,10,11,30,31,32],[8,9,10,11,30,31,32],[8,9,10,11,30,31,32,41],[8,9,11,30,31,32],[8,9,30,31,32],[8,9,30,31,32],[2,3]]
@[simp] def Xy:List (List Nat):=[[0,1,7,8],[0,1,7,8,9],[0,1,6,7,8],[0,1,7,8],[0,1,7,8]]
@[simp] def Xz:List (List Nat):=[[0,1,6],[0,1,6,10],[0,1,6],[0,1,6]]
@[simp] def XA:List (List Nat):=[[0],[0,6],[2,3,4],[0,9],[2,3,4],[0,2,3],[0,2,3,4],[0,2,3,4],[0,2,3,4,15],[0,2,3,4,15,16],[0,2,3,4,15,22],[2,3,4],[0,2,3,4,15],[0,2,3,4,15]]
@[simp] def XB:List (List Nat):=[[0],[0,6],[2,3,4],[0,2,3],[0,2,3,4],[0,2,3,4],[0,2,3,4,12],[0,2,3,4,12,13],[0,2,3,4,12,19],[2,3,4],[0,2,3,4,12],[0,2,3,4,12]]
@[simp] def XC:List (List Nat):=[[0,1,2,9],[0,2,4],[]]
@[simp] def XD:List (List Nat):=[[0,1,2],[0,1,2,7],[0,1,2,7,32],[0,1,2,7],[6]]
@[simp] def XE:List (List Nat):=[[0],[0,3],[0,3,4],[0,3,17],[0,3,5],[0,3,5,6],[0,3,5,6],[0,3,5,6],[0,3,5,6,39],[0,3,5,6,41],[0,3,5,6],[0,3,5,6,41,44],[0,3,5,6],[0,3,5,6,41,48],[0,3,5,6],[0,3,5,6,55],[0,3,5,6,7,8],[0,3,5,6],[0,3,5],[0,3,4],[2]]
@[simp] def XF:List (List Nat):=[[1],[1,5],[2],[2]]
@[simp] def XG:List (List Nat):=[[0],[3,4],[3,4,13],[2,3],[4,5],[4,5,6],[4,5,6,16],[4,5,6],[4,5,6],[5,28],[2,3],[2,3]]
@[simp] def XH:List (List Nat):=[[0,2],[0,2,4],[0,2,4,9],[2,3],[2,4,11,12,13],[2,4,11,12,13,14],[2,4,6,11,12,13],[2,4,6,11,12,13,22],[2,3],[2,4,11,12,13],[2,4,11,12,13],[2,3]]
@[simp] def XI:List (List Nat):=[[1,2],[1,2,3],[1,2,3],[1,2,3,4],[1,2,3,4,7],[1,2,3,4],[1,2,3,4],[2]]
@[simp] def XJ:List (List Nat):=[[0,1,9],[0,1],[0],[]]
@[simp] def XK:List (List Nat):=[[0,1],[0,1,5],[0,1,5,6],[0,1,5,6,16],[0,1,5,6],[0,1,5,6,29],[],[4],[0,1,5,6],[0,1,5,6],[4]]
@[simp] def XM:List (List Nat):=[[0],[0,2],[0,2,3],[0,2,29],[0,2],[0,2,4],[0,2,4,41],[0,2,4],[0,2,4]]
@[simp] def XO:List (List Nat):=[[0,1,2,11],[0,1,2,6],[0,1,2],[0,1,2,6,19],[0,1,2,6,29],[0,1,2]]
@[simp] def XP:List (List Nat):=[[0],[0,4,5,6],[0,4,5,6,36],[0,4,5,6],[0,4,5,6,7],[0,4,5,6,7,8],[0,4,5,7,8,41,42],[0,4,5,7,8,41,42,43],[0,4,5,7,8,9,41,42],[0,4,5,7,8,41,42],[0,4,5,7,8,41,42],[0,4,5,8,57],[2,3],[0,4,5,8,10,11],[0,4,5,8,68],[],[2,3],[0,4,12],[0,4,12,81],[2,3],[0,2,3],[0,2,3,13,14],[0,2,3,109],[0,2,3],[0,2,3,13,14],[0,2,3,132],[2,3],[2,3]]
@[simp] def XQ:List (List Nat):=[[0,1,8],[]]
@[simp] def XR:List (List Nat):=[[0,1,8],[0,1,18],[],[]]
@[simp] def XT:List (List Nat):=[[0,1],[0,1,12],[4],[0,5,6,7],[0,5,6,7,28],[0,5,6],[5],[4]]
@[simp] def XU:List (List Nat):=[[0,1,2,6],[0,1,2,6,44],[],[0,2,7],[0,7,8],[0,7,8,67],[0,7,8,69],[],[0,7,8,9],[0,7,8,9,75],[0,7,8,10],[0,7,9],[0,7,9,102],[0,7,9],[0,7,9,11],[0,7,9,11,114],[0,7,9,11],[0,7,9,11]]
@[simp] def XV:List (List Nat):=[[1,3,5],[1,3,5,7],[1,3,5,7,8],[1,3,5,7,8,24],[1,3,5,7,8,9],[1,3,5,7,8,9,28],[1,3,5,7,8],[1,3,5,7,8,9,28,33],[1,3,5,7,8,37],[1,3,5,7,8],[1,3,5,7,8,10],[1,3,5,7,8,10,47],[1,3,5,7,8],[1,3,5,7,8,9,28,57],[1,3,5,7,8,11],[1,3,5,7,8,11,66],[1,3,5,7,8],[1,3,5,7,8,9,70],[1,3,5,7,8,12],[1,3,5,7,8,12,79],[1,3,5,7,8],[6]]
@[simp] def XW:List (List Nat):=[[0],[0,3,4],[3,4,7,8,9],[3,4,7,8,9,10],[3,4,6,7,8,9],[3,4,6,7,8,9,14],[3,4,7,8,9],[3,4,7,8,9],[2]]
@[simp] def XY:List (List Nat):=[[0],[5,6,7],[5,6,7,8],[4,5,6,7],[5,6,7,12],[2],[5,6,7],[2]]
@[simp] def XZ:List (List Nat):=[[0,1,2],[0,1,2,10],[0,1,2,10,17],[6,7,8],[0,1,2,20],[6,7,8],[6,7,8]]
@[simp] def X3:List (List Nat):=[[0,1,2,4,12],[],[0,2,15,16],[0,2,15,16,17],[0,2,15,16],[0,2,15,16]]
@[simp] def X4:List (List Nat):=[[0,4,5],[0,4,5,7],[0,4,5,7,9],[0,4,5,7,9,10],[0,4,5,7,9,10,11],[4,5,7,9,10,11,21,22,23],[4,5,7,9,10,11,21,22,23,24],[4,5,7,9,10,11,12,13,21,22,23],[4,5,7,9,10,11,13,21,22,23],[4,5,7,9,10,11,21,22,23],[4,5,7,9,10,11,21,22,23],[6]]
@[simp] def X5:List (List Nat):=[[0,1,2,3,4,5],[0,1,2,3,4,5,9],[0,1,2,3,4,5,9,10],[0,1,2,3,4,5,9,10],[0,1,2,3,4,5,9,10,16],[6,7,8],[0,1,2,3,4,5,9,10,21],[6,7,8],[0,1,2,3,4,5,9,10],[0,1,2,3,4,5,9,10],[0,1,2,3,4,5,9,10,11],[0,1,2,3,4,5,9,10,11,50],[6,7,8]]
def acO:List (List (List Nat)):=[[],[],[],[],[],[],[],acM,acN,[],WR,[],WS,[],WT,WU,[],[],[],WV,[],[],WW,WX,WY,W9,Xa,[],Xc,Xd,Xe,Xf,Xg,Xh,Xi,Xj,Xk,[],[],Xl,Xm,Xn,Xo,Xp,Xq,[],[],[],[],Xr,Xt,Xu,Xv,Xw,Xx,Xy,Xz,XA,XB,XC,XD,[],[],[],[],[],[],[],[],[],[],XE,XF,XG,XH,XI,XJ,[],[],[],XK,XM,XO,XP,XQ,XR,XT,XU,XV,XW,XY,XZ,X3,X4,X5,[],[],[],[],[],[],[],[],[],[],[],[],[],[],[],[],[]]
noncomputable def X:AM.Ctx:={ P:=Try.prog,G:=fun _=>.none,rw:=fun f i=>(f==79&&i==0)||(f==13&&i==0),keep:=fun f i=>((acO[f]?).getD [])[i]?,norm:=fun _ _=>false,dr:=fun _ _=>true,dy:=fun f id=>[(22,8),(50,6),(50,7),(59,1),(62,1),(71,19),(83,9),(83,20),(87,3)].contains (f,id) }
def own:ownKnob Try.prog.godebug=.none:=by kernel_rfl
def full:∀ t e,t<Try.prog.types.size->Try.prog.underlying t=some (.slice e)->0<Try.prog.cellsOf e:=slices_full_of Try.prog (by kernel_rfl)
def af7:AM.Jb X:=AM.X6 (by kernel_rfl) (by kernel_rfl)
@[simp] def av6(f i:Nat):X.dr f i=true:=rfl
@[simp] def am7(f i:Nat):X.norm f i=false:=rfl
@[simp] def av7(f i:Nat):X.rw f i=((f==79&&i==0)||(f==13&&i==0)):=rfl
def bn{f:Nat}{l:List (List Nat)}(h:(acO[f]?).getD []=l)(i:Nat):X.keep f i=l[i]?:=by
 rw[<- h];rfl
@[simp] def as3(i:Nat):X.keep 7 i=acM[i]?:=bn (by kernel_rfl) i
@[simp] def as4(i:Nat):X.keep 8 i=acN[i]?:=bn (by kernel_rfl) i
@[simp] def am8(i:Nat):X.keep 10 i=WR[i]?:=bn (by kernel_rfl) i
@[simp] def am9(i:Nat):X.keep 12 i=WS[i]?:=bn (by kernel_rfl) i
@[simp] def ana(i:Nat):X.keep 14 i=WT[i]?:=bn (by kernel_rfl) i
@[simp] def anb(i:Nat):X.keep 15 i=WU[i]?:=bn (by kernel_rfl) i
@[simp] def anc(i:Nat):X.keep 19 i=WV[i]?:=bn (by kernel_rfl) i
@[simp] def ane(i:Nat):X.keep 22 i=WW[i]?:=bn (by kernel_rfl) i
@[simp] def anf(i:Nat):X.keep 23 i=WX[i]?:=bn (by kernel_rfl) i
@[simp] def ang(i:Nat):X.keep 24 i=WY[i]?:=bn (by kernel_rfl) i
@[simp] def anh(i:Nat):X.keep 25 i=W9[i]?:=bn (by kernel_rfl) i
@[simp] def ani(i:Nat):X.keep 26 i=Xa[i]?:=bn (by kernel_rfl) i
@[simp] def anj(i:Nat):X.keep 28 i=Xc[i]?:=bn (by kernel_rfl) i
@[simp] def ank(i:Nat):X.keep 29 i=Xd[i]?:=bn (by kernel_rfl) i
@[simp] def anl(i:Nat):X.keep 30 i=Xe[i]?:=bn (by kernel_rfl) i
@[simp] def anm(i:Nat):X.keep 31 i=Xf[i]?:=bn (by kernel_rfl) i
@[simp] def ano(i:Nat):X.keep 32 i=Xg[i]?:=bn (by kernel_rfl) i
@[simp] def anp(i:Nat):X.keep 33 i=Xh[i]?:=bn (by kernel_rfl) i
@[simp] def anq(i:Nat):X.keep 34 i=Xi[i]?:=bn (by kernel_rfl) i
@[simp] def anr(i:Nat):X.keep 35 i=Xj[i]?:=bn (by kernel_rfl) i
@[simp] def ant(i:Nat):X.keep 36 i=Xk[i]?:=bn (by kernel_rfl) i
@[simp] def anu(i:Nat):X.keep 39 i=Xl[i]?:=bn (by kernel_rfl) i
@[simp] def anv(i:Nat):X.keep 40 i=Xm[i]?:=bn (by kernel_rfl) i
@[simp] def anw(i:Nat):X.keep 41 i=Xn[i]?:=bn (by kernel_rfl) i
@[simp] def anx(i:Nat):X.keep 42 i=Xo[i]?:=bn (by kernel_rfl) i
@[simp] def anz(i:Nat):X.keep 43 i=Xp[i]?:=bn (by kernel_rfl) i
@[simp] def anA(i:Nat):X.keep 44 i=Xq[i]?:=bn (by kernel_rfl) i
@[simp] def anB(i:Nat):X.keep 49 i=Xr[i]?:=bn (by kernel_rfl) i
@[simp] def anC(i:Nat):X.keep 50 i=Xt[i]?:=bn (by kernel_rfl) i
@[simp] def anE(i:Nat):X.keep 52 i=Xv[i]?:=bn (by kernel_rfl) i
@[simp] def anG(i:Nat):X.keep 54 i=Xx[i]?:=bn (by kernel_rfl) i
@[simp] def anH(i:Nat):X.keep 55 i=Xy[i]?:=bn (by kernel_rfl) i
@[simp] def anI(i:Nat):X.keep 56 i=Xz[i]?:=bn (by kernel_rfl) i
@[simp] def anJ(i:Nat):X.keep 57 i=XA[i]?:=bn (by kernel_rfl) i
@[simp] def anK(i:Nat):X.keep 58 i=XB[i]?:=bn (by kernel_rfl) i
@[simp] def anL(i:Nat):X.keep 59 i=XC[i]?:=bn (by kernel_rfl) i
@[simp] def anM(i:Nat):X.keep 60 i=XD[i]?:=bn (by kernel_rfl) i
@[simp] def anN(i:Nat):X.keep 71 i=XE[i]?:=bn (by kernel_rfl) i
@[simp] def anO(i:Nat):X.keep 72 i=XF[i]?:=bn (by kernel_rfl) i
@[simp] def anP(i:Nat):X.keep 73 i=XG[i]?:=bn (by kernel_rfl) i
@[simp] def anQ(i:Nat):X.keep 74 i=XH[i]?:=bn (by kernel_rfl) i
@[simp] def anR(i:Nat):X.keep 75 i=XI[i]?:=bn (by kernel_rfl) i
@[simp] def anS(i:Nat):X.keep 76 i=XJ[i]?:=bn (by kernel_rfl) i
@[simp] def anT(i:Nat):X.keep 80 i=XK[i]?:=bn (by kernel_rfl) i
@[simp] def anU(i:Nat):X.keep 81 i=XM[i]?:=bn (by kernel_rfl) i
@[simp] def anV(i:Nat):X.keep 82 i=XO[i]?:=bn (by kernel_rfl) i
@[simp] def anX(i:Nat):X.keep 84 i=XQ[i]?:=bn (by kernel_rfl) i
@[simp] def anY(i:Nat):X.keep 85 i=XR[i]?:=bn (by kernel_rfl) i
@[simp] def anZ(i:Nat):X.keep 86 i=XT[i]?:=bn (by kernel_rfl) i
@[simp] def an0(i:Nat):X.keep 87 i=XU[i]?:=bn (by kernel_rfl) i
@[simp] def an4(i:Nat):X.keep 91 i=XZ[i]?:=bn (by kernel_rfl) i
@[simp] def an6(i:Nat):X.keep 93 i=X4[i]?:=bn (by kernel_rfl) i
@[simp] def an7(i:Nat):X.keep 94 i=X5[i]?:=bn (by kernel_rfl) i
attribute [go_sem] List.getElem?_cons_zero List.getElem?_cons_succ Go.AM.wH Go.AM.zG eqV ah
@[simp] def nt7:fF X 7=181/\fF X 8=22/\bodied X 8=true/\fF X 10=84/\bodied X 10=true:=by refine⟨?_,?_,?_,?_,?_⟩<;>kernel_rfl
@[simp] def af8:aI X 10=[22,5,3,3]:=by kernel_rfl
@[simp] def awf:fF X 12=10/\bodied X 12=true:=by refine⟨?_,?_⟩<;>kernel_rfl
@[simp] def af9:aI X 12=[22,22]:=by kernel_rfl
@[simp] def awg:fF X 14=13/\bodied X 14=true:=by refine⟨?_,?_⟩<;>kernel_rfl
@[simp] def afA:aI X 14=[3]:=by kernel_rfl
@[simp] def awh:fF X 15=64/\bodied X 15=true:=by refine⟨?_,?_⟩<;>kernel_rfl
@[simp] def afI:aI X 15=[30,22]:=by kernel_rfl
@[simp] def awi:fF X 19=40/\bodied X 19=true:=by refine⟨?_,?_⟩<;>kernel_rfl
@[simp] def aga:aI X 19=[22,36]:=by kernel_rfl
@[simp] def awj:fF X 22=46/\bodied X 22=true:=by refine⟨?_,?_⟩<;>kernel_rfl
@[simp] def agb:aI X 22=[22,5,3]:=by kernel_rfl
@[simp] def awk:fF X 23=21/\bodied X 23=true:=by refine⟨?_,?_⟩<;>kernel_rfl
@[simp] def agc:aI X 23=[3,3]:=by kernel_rfl
@[simp] def awl:fF X 24=130/\bodied X 24=true:=by refine⟨?_,?_⟩<;>kernel_rfl
@[simp] def agd:aI X 24=[48,22]:=by kernel_rfl
@[simp] def awm:fF X 25=25/\bodied X 25=true:=by refine⟨?_,?_⟩<;>kernel_rfl
@[simp] def agf:aI X 25=[22]:=by kernel_rfl
@[simp] def awn:fF X 26=43/\bodied X 26=true:=by refine⟨?_,?_⟩<;>kernel_rfl
@[simp] def agh:aI X 26=[22,58,3]:=by kernel_rfl
@[simp] def awo:fF X 28=12/\bodied X 28=true:=by refine⟨?_,?_⟩<;>kernel_rfl
@[simp] def afz:aI X 28=[30]:=by kernel_rfl
@[simp] def awp:fF X 29=110/\bodied X 29=true:=by refine⟨?_,?_⟩<;>kernel_rfl
@[simp] def afE:aI X 29=[30]:=by kernel_rfl
@[simp] def awq:fF X 30=14/\bodied X 30=true/\aI X 30=[3,3]/\fF X 31=9/\bodied X 31=true:=by refine⟨?_,?_,?_,?_,?_⟩<;>kernel_rfl
@[simp] def agi:aI X 31=[3]:=by kernel_rfl
@[simp] def awt:fF X 32=12/\bodied X 32=true:=by refine⟨?_,?_⟩<;>kernel_rfl
@[simp] def agj:aI X 32=[48]:=by kernel_rfl
@[simp] def awu:fF X 33=50/\bodied X 33=true:=by refine⟨?_,?_⟩<;>kernel_rfl
@[simp] def acP:aI X 33=[48]:=by kernel_rfl
@[simp] def awv:fF X 34=5/\bodied X 34=true:=by refine⟨?_,?_⟩<;>kernel_rfl
@[simp] def acQ:aI X 34=[22]:=by kernel_rfl
@[simp] def aww:fF X 35=21/\bodied X 35=true:=by refine⟨?_,?_⟩<;>kernel_rfl
@[simp] def agk:aI X 35=[22]:=by kernel_rfl
@[simp] def awx:fF X 36=8/\bodied X 36=true:=by refine⟨?_,?_⟩<;>kernel_rfl
@[simp] def agl:aI X 36=[22]:=by kernel_rfl
@[simp] def awy:fF X 39=34/\bodied X 39=true:=by refine⟨?_,?_⟩<;>kernel_rfl
@[simp] def acF:aI X 39=[22,3]:=by kernel_rfl
@[simp] def awz:fF X 40=66/\bodied X 40=true:=by refine⟨?_,?_⟩<;>kernel_rfl
@[simp] def afx:aI X 40=[22,3]:=by kernel_rfl
@[simp] def awC:fF X 41=38/\bodied X 41=true:=by refine⟨?_,?_⟩<;>kernel_rfl
@[simp] def agm:aI X 41=[68,22]:=by kernel_rfl
@[simp] def awD:fF X 42=128/\bodied X 42=true:=by refine⟨?_,?_⟩<;>kernel_rfl
@[simp] def agn:aI X 42=[75]:=by kernel_rfl
@[simp] def awE:fF X 43=104/\bodied X 43=true:=by refine⟨?_,?_⟩<;>kernel_rfl
@[simp] def agp:aI X 43=[22]:=by kernel_rfl
@[simp] def awF:fF X 44=63/\bodied X 44=true:=by refine⟨?_,?_⟩<;>kernel_rfl
@[simp] def agq:aI X 44=[22]:=by kernel_rfl
@[simp] def awG:fF X 49=40/\bodied X 49=true:=by refine⟨?_,?_⟩<;>kernel_rfl
@[simp] def agr:aI X 49=[22]:=by kernel_rfl
@[simp] def awH:fF X 50=35/\bodied X 50=true:=by refine⟨?_,?_⟩<;>kernel_rfl
@[simp] def ags:aI X 50=[22,3]:=by kernel_rfl
@[simp] def atz:bodied X 51=true/\aI X 51=[68]/\fF X 52=47/\bodied X 52=true:=by refine⟨?_,?_,?_,?_⟩<;>kernel_rfl
@[simp] def agt:aI X 52=[75]:=by kernel_rfl
@[simp] def atC:bodied X 53=true/\fF X 54=55/\bodied X 54=true/\aI X 54=[36]/\fF X 55=17/\bodied X 55=true:=by refine⟨?_,?_,?_,?_,?_,?_⟩<;>kernel_rfl
@[simp] def afR:aI X 55=[86,3,3]:=by kernel_rfl
@[simp] def awN:fF X 56=18/\bodied X 56=true:=by refine⟨?_,?_⟩<;>kernel_rfl
@[simp] def afS:aI X 56=[86,3,3]:=by kernel_rfl
@[simp] def awO:fF X 57=33/\bodied X 57=true:=by refine⟨?_,?_⟩<;>kernel_rfl
@[simp] def agu:aI X 57=[3]:=by kernel_rfl
@[simp] def awP:fF X 58=30/\bodied X 58=true:=by refine⟨?_,?_⟩<;>kernel_rfl
@[simp] def agv:aI X 58=[3]:=by kernel_rfl
@[simp] def awQ:fF X 59=33/\bodied X 59=true:=by refine⟨?_,?_⟩<;>kernel_rfl
@[simp] def agw:aI X 59=[3]:=by kernel_rfl
@[simp] def awR:fF X 60=36/\bodied X 60=true:=by refine⟨?_,?_⟩<;>kernel_rfl
@[simp] def afU:aI X 60=[22,3,3]:=by kernel_rfl
@[simp] def awS:fF X 71=81/\bodied X 71=true:=by refine⟨?_,?_⟩<;>kernel_rfl
@[simp] def agx:aI X 71=[104]:=by kernel_rfl
@[simp] def awT:fF X 72=32/\bodied X 72=true:=by refine⟨?_,?_⟩<;>kernel_rfl
@[simp] def agy:aI X 72=[91]:=by kernel_rfl
@[simp] def awU:fF X 73=31/\bodied X 73=true/\aI X 73=[36]/\fF X 74=31/\bodied X 74=true/\aI X 74=[36]/\fF X 75=22/\bodied X 75=true/\aI X 75=[112]/\fF X 76=48/\bodied X 76=true:=by refine⟨?_,?_,?_,?_,?_,?_,?_,?_,?_,?_,?_⟩<;>kernel_rfl
@[simp] def afP:aI X 76=[86,3]:=by kernel_rfl
@[simp] def awY:fF X 80=63/\bodied X 80=true:=by refine⟨?_,?_⟩<;>kernel_rfl
@[simp] def agz:aI X 80=[104,3]:=by kernel_rfl
@[simp] def awZ:fF X 81=49/\bodied X 81=true:=by refine⟨?_,?_⟩<;>kernel_rfl
@[simp] def agA:aI X 81=[104]:=by kernel_rfl
@[simp] def aw0:fF X 82=36/\bodied X 82=true:=by refine⟨?_,?_⟩<;>kernel_rfl
@[simp] def agB:aI X 82=[104,36,36]:=by kernel_rfl
@[simp] def aw2:fF X 84=13/\bodied X 84=true:=by refine⟨?_,?_⟩<;>kernel_rfl
@[simp] def af0:aI X 84=[104,25]:=by kernel_rfl
@[simp] def aw3:fF X 85=31/\bodied X 85=true:=by refine⟨?_,?_⟩<;>kernel_rfl
@[simp] def agC:aI X 85=[104,5]:=by kernel_rfl
@[simp] def aw4:fF X 86=41/\bodied X 86=true:=by refine⟨?_,?_⟩<;>kernel_rfl
@[simp] def agD:aI X 86=[104,36]:=by kernel_rfl
@[simp] def aw5:fF X 87=132/\bodied X 87=true:=by refine⟨?_,?_⟩<;>kernel_rfl
@[simp] def agE:aI X 87=[104,3,36]:=by kernel_rfl
@[simp] def aw9:fF X 91=29/\bodied X 91=true/\aI X 91=[36,22,3]/\fF X 93=41/\bodied X 93=true/\aI X 93=[36,22,3]/\fF X 94=58/\bodied X 94=true:=by refine⟨?_,?_,?_,?_,?_,?_,?_,?_⟩<;>kernel_rfl
@[simp] def X7:X.keep 22 8=some [0,1,2,9,10]:=by kernel_rfl
@[simp] def X8:X.keep 50 6=some [4,5,6]:=by kernel_rfl
@[simp] def FV:X.keep 50 7=some [4,5,6]:=by kernel_rfl
@[simp] def WI:X.keep 59 1=some [0,2,4]:=by kernel_rfl
@[simp] def Uy:X.keep 71 19=some [0,3,4]:=by kernel_rfl
@[simp] def X9:X.keep 87 3=some [0,2,7]:=by kernel_rfl
@[simp] def an8:X.dy 7 35=false/\X.dy 22 8=true/\X.dy 24 15=false/\X.dy 24 19=false/\X.dy 29 6=false/\X.dy 33 5=false/\X.dy 33 7=false/\X.dy 40 12=false/\X.dy 42 14=false/\X.dy 42 16=false/\X.dy 42 19=false/\X.dy 42 22=false/\X.dy 43 8=false/\X.dy 43 12=false/\X.dy 43 14=false/\X.dy 44 10=false/\X.dy 49 3=false/\X.dy 50 6=true/\X.dy 50 7=true/\X.dy 57 12=false/\X.dy 58 10=false/\X.dy 59 1=true/\X.dy 60 2=false/\X.dy 71 19=true/\X.dy 75 6=false/\X.dy 76 2=false/\X.dy 80 5=false/\X.dy 80 8=false/\X.dy 85 1=false/\X.dy 86 3=false/\X.dy 87 3=true/\X.dy 87 11=false/\X.dy 87 17=false/\X.dy 94 8=false/\und X 3=.int .i64:=by refine⟨?_,?_,?_,?_,?_,?_,?_,?_,?_,?_,?_,?_,?_,?_,?_,?_,?_,?_,?_,?_,?_,?_,?_,?_,?_,?_,?_,?_,?_,?_,?_,?_,?_,?_,?_⟩<;>kernel_rfl
@[simp] def size3:sizeT X 3=1:=by kernel_rfl
@[simp] def bytes3:bH X 3=8:=by kernel_rfl
@[simp] def axg:okT X 3=true/\bI X 3=false:=by refine⟨?_,?_⟩<;>kernel_rfl
@[simp] def Uw:bM X 3=true:=by kernel_rfl
@[simp] def zero3:bD X 3=.int .i64 0/\und X 4=.bool/\sizeT X 4=1/\okT X 4=true/\bI X 4=false:=by refine⟨?_,?_,?_,?_,?_⟩<;>kernel_rfl
@[simp] def Ai:und X 5=.int .u8:=by kernel_rfl
@[simp] def nO:sizeT X 5=1:=by kernel_rfl
@[simp] def bytes5:bH X 5=1:=by kernel_rfl
@[simp] def axk:okT X 5=true/\bI X 5=false/\gI X 5=true:=by refine⟨?_,?_,?_⟩<;>kernel_rfl
@[simp] def vN:bM X 5=true:=by kernel_rfl
@[simp] def auy:bD X 5=.int .u8 0/\und X 9=.string:=by refine⟨?_,?_⟩<;>kernel_rfl
@[simp] def lM:und X 22=.slice 5:=by kernel_rfl
@[simp] def Ya:sizeT X 22=1:=by kernel_rfl
@[simp] def ajO:bH X 22=24/\okT X 22=true/\bI X 22=false/\bZ X 22=false:=by refine⟨?_,?_,?_,?_⟩<;>kernel_rfl
@[simp] def agF:bM X 22=true:=by kernel_rfl
@[simp] def auC:und X 25=.int .i64/\sizeT X 25=1/\okT X 25=true/\bI X 25=false/\und X 30=.pointer 43:=by refine⟨?_,?_,?_,?_,?_⟩<;>kernel_rfl
@[simp] def I7:und X 36=.slice 3:=by kernel_rfl
@[simp] def aoO:sizeT X 36=1/\okT X 36=true/\bI X 36=false/\bZ X 36=false:=by refine⟨?_,?_,?_,?_⟩<;>kernel_rfl
@[simp] def acR:und X 38=.slice 22:=by kernel_rfl
@[simp] def auQ:okT X 38=true/\bZ X 38=false/\sizeT X 43=4/\und X 48=.pointer 65/\und X 51=.slice 55/\okT X 51=true/\bZ X 51=false/\sizeT X 55=3/\bH X 55=32/\bD X 55=.agg (.pc [.int .u8 0,.int .u8 0,.ro 0 .pn 0])/\und X 58=.int .u64/\okT X 58=true/\sizeT X 65=8/\und X 68=.int .u32/\okT X 68=true/\und X 75=.slice 91/\okT X 75=true/\bZ X 75=false/\und X 86=.pointer 88/\sizeT X 88=2/\sizeT X 91=3/\bH X 91=24/\okT X 91=true/\bI X 91=true/\cu X 91=false/\bM X 91=true/\bD X 91=.agg (.pc [.int .i64 0,.int .i64 0,.int .u8 0])/\sizeT X 94=1/\okT X 94=true/\bI X 94=false/\bD X 94=.iL/\sizeT X 95=3/\okT X 95=true/\bI X 95=true/\bD X 95=.agg (.pb [0,0,0])/\und X 104=.pointer 106/\sizeT X 106=5:=by refine⟨?_,?_,?_,?_,?_,?_,?_,?_,?_,?_,?_,?_,?_,?_,?_,?_,?_,?_,?_,?_,?_,?_,?_,?_,?_,?_,?_,?_,?_,?_,?_,?_,?_,?_,?_,?_,?_⟩<;>kernel_rfl
@[simp] def adv:und X 107=.slice 119:=by kernel_rfl
@[simp] def aqh:okT X 107=true/\bZ X 107=false/\und X 112=.array 16 3/\sizeT X 112=16/\okT X 112=true/\bI X 112=true/\bD X 112=.agg (.pi .i64 [0,0,0,0,0,0,0,0,0,0,0,0,0,0,0,0])/\und X 115=.array 17 3/\sizeT X 115=17/\okT X 115=true/\bI X 115=true/\bD X 115=.agg (.pi .i64 [0,0,0,0,0,0,0,0,0,0,0,0,0,0,0,0,0]):=by refine⟨?_,?_,?_,?_,?_,?_,?_,?_,?_,?_,?_,?_⟩<;>kernel_rfl
@[simp] def aaB:sizeT X 119=4:=by kernel_rfl
@[simp] def ahg:bH X 119=32/\okT X 119=true/\bI X 119=true:=by refine⟨?_,?_,?_⟩<;>kernel_rfl
@[simp] def adw:bM X 119=true:=by kernel_rfl
@[simp] def amn:bD X 119=.agg (.pc [.int .i64 0,.bool false,.int .i64 0,.int .i64 0])/\und X 130=.array 2 3/\sizeT X 130=2/\und X 131=.array 29 130/\sizeT X 131=58/\bI X 131=true/\bD X 131=.agg (.pr 2 [.pc [.int .i64 0,.int .i64 0],.pc [.int .i64 0,.int .i64 0],.pc [.int .i64 0,.int .i64 0],.pc [.int .i64 0,.int .i64 0],.pc [.int .i64 0,.int .i64 0],.pc [.int .i64 0,.int .i64 0],.pc [.int .i64 0,.int .i64 0],.pc [.int .i64 0,.int .i64 0],.pc [.int .i64 0,.int .i64 0],.pc [.int .i64 0,.int .i64 0],.pc [.int .i64 0,.int .i64 0],.pc [.int .i64 0,.int .i64 0],.pc [.int .i64 0,.int .i64 0],.pc [.int .i64 0,.int .i64 0],.pc [.int .i64 0,.int .i64 0],.pc [.int .i64 0,.int .i64 0],.pc [.int .i64 0,.int .i64 0],.pc [.int .i64 0,.int .i64 0],.pc [.int .i64 0,.int .i64 0],.pc [.int .i64 0,.int .i64 0],.pc [.int .i64 0,.int .i64 0],.pc [.int .i64 0,.int .i64 0],.pc [.int .i64 0,.int .i64 0],.pc [.int .i64 0,.int .i64 0],.pc [.int .i64 0,.int .i64 0],.pc [.int .i64 0,.int .i64 0],.pc [.int .i64 0,.int .i64 0],.pc [.int .i64 0,.int .i64 0],.pc [.int .i64 0,.int .i64 0]])/\und X 134=.array 16 36/\bD X 134=.agg (.pc [.ro 0 .pn 0,.ro 0 .pn 0,.ro 0 .pn 0,.ro 0 .pn 0,.ro 0 .pn 0,.ro 0 .pn 0,.ro 0 .pn 0,.ro 0 .pn 0,.ro 0 .pn 0,.ro 0 .pn 0,.ro 0 .pn 0,.ro 0 .pn 0,.ro 0 .pn 0,.ro 0 .pn 0,.ro 0 .pn 0,.ro 0 .pn 0]):=by refine⟨?_,?_,?_,?_,?_,?_,?_,?_,?_⟩<;>kernel_rfl
@[simp] def aqL(H:AM.Heap)(x:AV):bF X H 43 x 0=faV H x 0:=bJ (ty:=3) (by kernel_rfl) (by kernel_rfl) H x
@[simp] def aqN(H:AM.Heap)(x:AV):bF X H 43 x 1=faV H x 1:=bJ (ty:=5) (by kernel_rfl) (by kernel_rfl) H x
@[simp] def aqP(H:AM.Heap)(x:AV):bF X H 43 x 2=faV H x 2:=bJ (ty:=22) (by kernel_rfl) (by kernel_rfl) H x
@[simp] def aqR(H:AM.Heap)(x:AV):bF X H 43 x 3=faV H x 3:=bJ (ty:=25) (by kernel_rfl) (by kernel_rfl) H x
@[simp] def aqT(H:AM.Heap)(x:AV):bF X H 55 x 2=faV H x 2:=bJ (ty:=22) (by kernel_rfl) (by kernel_rfl) H x
@[simp] def aqV(H:AM.Heap)(x:AV):bF X H 65 x 0=faV H x 0:=bJ (ty:=3) (by kernel_rfl) (by kernel_rfl) H x
@[simp] def aqX(H:AM.Heap)(x:AV):bF X H 65 x 1=faV H x 1:=bJ (ty:=3) (by kernel_rfl) (by kernel_rfl) H x
@[simp] def aqZ(H:AM.Heap)(x:AV):bF X H 65 x 2=faV H x 2:=bJ (ty:=5) (by kernel_rfl) (by kernel_rfl) H x
@[simp] def aq1(H:AM.Heap)(x:AV):bF X H 65 x 3=faV H x 3:=bJ (ty:=22) (by kernel_rfl) (by kernel_rfl) H x
@[simp] def aq3(H:AM.Heap)(x:AV):bF X H 65 x 4=faV H x 4:=bJ (ty:=22) (by kernel_rfl) (by kernel_rfl) H x
@[simp] def aq5(H:AM.Heap)(x:AV):bF X H 65 x 5=faV H x 5:=bJ (ty:=5) (by kernel_rfl) (by kernel_rfl) H x
@[simp] def aq7(H:AM.Heap)(x:AV):bF X H 65 x 6=faV H x 6:=bJ (ty:=4) (by kernel_rfl) (by kernel_rfl) H x
@[simp] def aq9(H:AM.Heap)(x:AV):bF X H 65 x 7=faV H x 7:=bJ (ty:=25) (by kernel_rfl) (by kernel_rfl) H x
@[simp] def arb(H:AM.Heap)(x:AV):bF X H 88 x 0=faV H x 0:=bJ (ty:=22) (by kernel_rfl) (by kernel_rfl) H x
@[simp] def arf(H:AM.Heap)(x:AV):bF X H 88 x 1=faV H x 1:=bJ (ty:=3) (by kernel_rfl) (by kernel_rfl) H x
@[simp] def ari(H:AM.Heap)(x:AV):bF X H 91 x 0=faV H x 0:=bJ (ty:=3) (by kernel_rfl) (by kernel_rfl) H x
@[simp] def ark(H:AM.Heap)(x:AV):bF X H 91 x 1=faV H x 1:=bJ (ty:=3) (by kernel_rfl) (by kernel_rfl) H x
@[simp] def arn(H:AM.Heap)(x:AV):bF X H 91 x 2=faV H x 2:=bJ (ty:=5) (by kernel_rfl) (by kernel_rfl) H x
@[simp] def amM(H:AM.Heap)(x:AV):bF X H 106 x 0=faV H x 0:=bJ (ty:=22) (by kernel_rfl) (by kernel_rfl) H x
@[simp] def amO(H:AM.Heap)(x:AV):bF X H 106 x 1=faV H x 1:=bJ (ty:=3) (by kernel_rfl) (by kernel_rfl) H x
@[simp] def amQ(H:AM.Heap)(x:AV):bF X H 106 x 2=faV H x 2:=bJ (ty:=22) (by kernel_rfl) (by kernel_rfl) H x
@[simp] def amS(H:AM.Heap)(x:AV):bF X H 106 x 3=faV H x 3:=bJ (ty:=3) (by kernel_rfl) (by kernel_rfl) H x
@[simp] def amU(H:AM.Heap)(x:AV):bF X H 106 x 4=faV H x 4:=bJ (ty:=25) (by kernel_rfl) (by kernel_rfl) H x
@[simp] def amW(H:AM.Heap)(x:AV):bF X H 119 x 0=faV H x 0:=bJ (ty:=3) (by kernel_rfl) (by kernel_rfl) H x
@[simp] def amY(H:AM.Heap)(x:AV):bF X H 119 x 1=faV H x 1:=bJ (ty:=4) (by kernel_rfl) (by kernel_rfl) H x
@[simp] def am0(H:AM.Heap)(x:AV):bF X H 119 x 3=faV H x 3:=bJ (ty:=3) (by kernel_rfl) (by kernel_rfl) H x
end Go.Proofs.Ytbodincpjijdiaa
