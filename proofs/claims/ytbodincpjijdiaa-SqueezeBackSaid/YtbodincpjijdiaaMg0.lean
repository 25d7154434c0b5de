/- X to X: texts of this claim, one behind the other; what each shows stands at its head. -/
import Derived.Test.YtbodincpjijdiaaRows
import Derived.Test.YtbodincpjijdiaaAm4
set_option linter.unusedSimpArgs false
set_option linter.unusedVariables false
set_option maxRecDepth 100000
set_option maxHeartbeats 8000000
namespace Go.Proofs.Ytbodincpjijdiaa
open Go.AM
@[simp] def aay:List (List Nat):=[[0,1,2,3,4],[0,1,2,3,4,22],[10],[0,1,2,3,4,46],[10],[0,1,2,4,11,12,13],[0,1,2,4,11,12,13,14,15],[0,2,4,11,12,14,92],[10],[0,2,4,11,12,14,16],[0,2,12,14,16,17],[0,2,12,14,16,17,18],[0,2,12,14,16,17,18,99],[0,2,12,14,16,17,18],[0,2,12,14,16,17,18,19,20],[0,2,12,14,16,17,18,20],[0,2,12,14,16,17,18,122],[10],[10]]
@[simp] def aaz:List (List Nat):=[[],[1,2,3],[0]]
@[simp] def U7:List (List Nat):=[[0,1,2,3],[0,1,2,3,29],[8,9,10],[0,1,2,3,11],[0,1,2,3,11,36],[0,1,2,3,11,12],[0,1,2,3,11,12,13,14],[0,1,2,3,11,12,13,14,46],[0,1,2,3,11,12,13,14,15],[0,1,2,3,11,12,13,14,15,52],[0,1,2,3,11,12,13,14],[0,1,2,3,11,12,13,14],[0,1,2,3,11,12,13,14],[0,1,2,3,11,12,13],[0,1,2,3,11,12],[0,1,2,3,11,12],[0,1,2,3,11],[8,9,10]]
@[simp] def U8:List (List Nat):=[[0,1],[4]]
@[simp] def U9:List (List Nat):=[[0],[0,9],[2,3],[2,3]]
@[simp] def Va:List (List Nat):=[[0,1],[0,1,10],[4,5],[0,1,13],[4,5],[0],[0,6],[0,6,33],[0,6,7,8,9],[0,6,7,8,9,41],[6,9],[4,5],[0,6,7,52],[0,6],[0,6],[4,5]]
@[simp] def Vb:List (List Nat):=[[0],[0,4],[2],[2]]
@[simp] def Vd:List (List Nat):=[[0,1],[0,1,5],[4],[0,1,8],[4],[0,1,14],[4],[],[4]]
@[simp] def Ve:List (List Nat):=[[0,1],[0,1,5],[0,1,5,6],[0,1,5,6,16],[0,1,5,6],[0,1,5,6,7],[0,1,5,6,7],[0,1,5,6],[4]]
@[simp] def Vf:List (List Nat):=[[0],[0,4],[2],[2]]
@[simp] def Vg:List (List Nat):=[[0],[0,3],[3,4],[2]]
@[simp] def Vh:List (List Nat):=[[0,1,2],[0,1,2,26],[6,7],[1,2,8],[1,8,29,30],[1,8,29,30,31],[1,8,9,29,30],[1,8,29,30],[1,8,29,30],[6,7]]
@[simp] def Vj:List (List Nat):=[[0],[2]]
@[simp] def Vk:List (List Nat):=[[0],[0,5],[0,5,7],[0,9,10],[0,9,10,35],[2,3,4],[0,9,10,50],[2,3,4],[0,9,10,62],[2,3,4],[0,9,10,11],[10,11],[10,11,89],[2,3,4],[10,12,13],[10,12,13,97],[2,3,4],[12,100],[2,3,4],[2,3,4]]
@[simp] def Vl:List (List Nat):=[[0,1],[0,1],[0,1,9],[0],[4]]
@[simp] def Vm:List (List Nat):=[[0],[2]]
@[simp] def Vo:List (List Nat):=[[0],[0,3],[3,5],[3,5,18],[2],[2]]
@[simp] def Vp:List (List Nat):=[[0],[0,4],[2],[2]]
@[simp] def Vq:List (List Nat):=[[0,1],[0,1,13],[4,5],[0,1,17],[4,5],[0,1,6],[0,6,18,19],[0,6,18,19,20],[0,6,7,18,19],[0,6,18,19],[0,6,18,19],[4,5]]
@[simp] def Vr:List (List Nat):=[[0,1],[0,1,12],[4,5],[0,1,6],[0,1,6,16],[4,5],[0,7,8,9],[0,7,8,9,27],[4,5],[0,7],[0,7,35],[4,5],[0,7,10],[0,7,61],[4,5],[7,64],[4,5],[4,5]]
@[simp] def Vs:List (List Nat):=[[0,1],[1,5,6],[1,5,6],[5,6,18,19,20],[5,6,18,19,20,21],[5,6,8,18,19,20],[5,6,18,19,20],[5,6,18,19,20],[5,6,18,19,20],[4]]
@[simp] def Vt:List (List Nat):=[[0],[0,5],[0,5,24],[2,3],[0,6,7],[0,6,7,8],[0,6,7,8,10],[0,6,7,8,10,12],[0,6,7,8,10,12],[0,6,7,8,10,12],[6,7,8,10,12,46,47,48],[6,7,8,10,12,46,47,48,49],[6,7,8,10,12,14,46,47,48],[6,7,8,10,12,14,46,47,48,54],[6,7,8,10,12,46,47,48],[6,7,8,10,12,14,15,16,17,46,47,48],[6,7,8,10,12,14,16,17,46,47,48],[6,7,8,10,12,14,46,47,48],[6,7,8,10,12,14,15,16,17,46,47,48],[6,7,8,10,12,14,16,17,46,47,48],[6,7,8,10,12,46,47,48],[6,7,8,10,12,46,47,48],[12],[2,3]]
@[simp] def Vu:List (List Nat):=[[1],[1,3],[1,3,4],[1,3,4,5],[1,3,4,5,6],[1,3,4,5,6,18],[1,3,4,5,6,7,8],[1,3,4,5,6,7,8,23],[1,3,4,5,6,7,8,9],[1,3,4,5,6,7,8,9,10],[1,3,4,5,6,7,8,9,10,58],[1,3,4,5,6,7,8,9,10],[1,3,4,5,6,7,8,9,10,11],[1,3,4,5,6,7,8,9,10,11,70],[1,3,4,5,6,7,8,9,10],[1,3,4,5,6,7,8,12],[1,3,4,5,6,7,8,12,84],[1,3,4,5,6,12],[1,3,4,5,6,12],[1,3,4,5,6,94,95],[1,3,4,5,6,94,95,96],[1,3,4,5,6,94,95],[1,3,4,5,6,94,95],[1,3,4,5,6,94,95],[2]]
@[simp] def Vw:List (List Nat):=[[0],[0,3],[0,3,4],[0,3,4,5],[0,3,4,5,14],[0,3,4,5],[0,3,4,5],[0,3,4,5],[0,3,4,5],[0,3,4,5],[0,3,4,5],[0,3,4,5],[0,3,5],[0,3,58],[2]]
@[simp] def Vx:List (List Nat):=[[0],[0,5],[2],[39],[2],[2]]
@[simp] def Vy:List (List Nat):=[[0,1],[0,1,9],[4,5,6],[7],[7],[7,20],[4,5,6],[4,5,6]]
@[simp] def Vz:List (List Nat):=[[0],[2,3]]
@[simp] def VA:List (List Nat):=[[0],[0,4],[4,7,8,9],[4,7,8,9,10],[4,6,7,8,9],[4,6,7,8,9,15],[2,3],[4,6,7,8,9,18],[4,7,8,9],[4,6,7,8,9,28],[2,3],[4,6,7,8,9,30,31],[4,6,7,8,9,30,31,32],[4,6,7,8,9,30,31],[4,6,7,8,9,30,31],[4,7,8,9],[2,3]]
@[simp] def VB:List (List Nat):=[[0,1],[0,1,4],[0,1,4,5],[0,1,2,4],[0,1,2,3,4],[0,1,2,3,4,7],[0,1,3,4],[0,1,3,4,14],[0,1,3,4],[0,1,4],[0,1,4],[0,1,26],[0,1,26,27],[0,1,26],[0,1,26],[0,1]]
@[simp] def VD:List (List Nat):=[[0],[0,5],[0,5,18],[2,3],[0,6],[0,8],[0,8,9],[8,9,30,31,32],[8,9,30,31,32,33],[8,9,10,11,30,31,32],[8,9,10,11,30,31,32],[8,9,10,11,30,31,32,41],[8,9,11,30,31,32],[8,9,30,31,32],[8,9,30,31,32],[2,3]]
@[simp] def VE:List (List Nat):=[[0,1,7,8],[0,1,7,8,9],[0,1,6,7,8],[0,1,7,8],[0,1,7,8]]
@[simp] def VF:List (List Nat):=[[0,1,6],[0,1,6,10],[0,1,6],[0,1,6]]
@[simp] def VG:List (List Nat):=[[0],[0,6],[2,3,4],[0,9],[2,3,4],[0,2,3],[0,2,3,4],[0,2,3,4],[0,2,3,4,15],[0,2,3,4,15,16],[0,2,3,4,15,22],[2,3,4],[0,2,3,4,15],[0,2,3,4,15]]
@[simp] def VH:List (List Nat):=[[0],[0,6],[2,3,4],[0,2,3],[0,2,3,4],[0,2,3,4],[0,2,3,4,12],[0,2,3,4,12,13],[0,2,3,4,12,19],[2,3,4],[0,2,3,4,12],[0,2,3,4,12]]
@[simp] def VI:List (List Nat):=[[0,1,2,9],[0,2,4],[]]
@[simp] def VJ:List (List Nat):=[[0,1,2],[0,1,2,7],[0,1,2,7,32],[0,1,2,7],[6]]
@[simp] def VK:List (List Nat):=[[0],[0,3],[0,3,4],[0,3,17],[0,3,5],[0,3,5,6],[0,3,5,6],[0,3,5,6],[0,3,5,6,39],[0,3,5,6,41],[0,3,5,6],[0,3,5,6,41,44],[0,3,5,6],[0,3,5,6,41,48],[0,3,5,6],[0,3,5,6,55],[0,3,5,6,7,8],[0,3,5,6],[0,3,5],[0,3,4],[2]]
@[simp] def VL:List (List Nat):=[[1],[1,5],[2],[2]]
@[simp] def VN:List (List Nat):=[[0],[3,4],[3,4,13],[2,3],[4,5],[4,5,6],[4,5,6,16],[4,5,6],[4,5,6],[5,28],[2,3],[2,3]]
@[simp] def VO:List (List Nat):=[[0,2],[0,2,4],[0,2,4,9],[2,3],[2,4,11,12,13],[2,4,11,12,13,14],[2,4,6,11,12,13],[2,4,6,11,12,13,22],[2,3],[2,4,11,12,13],[2,4,11,12,13],[2,3]]
@[simp] def VP:List (List Nat):=[[1,2],[1,2,3],[1,2,3],[1,2,3,4],[1,2,3,4,7],[1,2,3,4],[1,2,3,4],[2]]
@[simp] def VQ:List (List Nat):=[[0,1,9],[0,1],[0],[]]
@[simp] def VR:List (List Nat):=[[0,1],[0,1,5],[0,1,5,6],[0,1,5,6,16],[0,1,5,6],[0,1,5,6,29],[],[4],[0,1,5,6],[0,1,5,6],[4]]
@[simp] def VT:List (List Nat):=[[0],[0,2],[0,2,3],[0,2,29],[0,2],[0,2,4],[0,2,4,41],[0,2,4],[0,2,4]]
@[simp] def VU:List (List Nat):=[[0,1,2,11],[0,1,2,6],[0,1,2],[0,1,2,6,19],[0,1,2,6,29],[0,1,2]]
@[simp] def VW:List (List Nat):=[[0],[0,4,5,6],[0,4,5,6,36],[0,4,5,6],[0,4,5,6,7],[0,4,5,6,7,8],[0,4,5,7,8,41,42],[0,4,5,7,8,41,42,43],[0,4,5,7,8,9,41,42],[0,4,5,7,8,41,42],[0,4,5,7,8,41,42],[0,4,5,8,57],[2,3],[0,4,5,8,10,11],[0,4,5,8,68],[],[2,3],[0,4,12],[0,4,12,81],[2,3],[0,2,3],[0,2,3,13,14],[0,2,3,109],[0,2,3],[0,2,3,13,14],[0,2,3,132],[2,3],[2,3]]
@[simp] def VX:List (List Nat):=[[0,1,8],[]]
@[simp] def VY:List (List Nat):=[[0,1,8],[0,1,18],[],[]]
@[simp] def VZ:List (List Nat):=[[0,1],[0,1,12],[4],[0,5,6,7],[0,5,6,7,28],[0,5,6],[5],[4]]
@[simp] def V3:List (List Nat):=[[0,1,2,6],[0,1,2,6,44],[],[0,2,7],[0,7,8],[0,7,8,67],[0,7,8,69],[],[0,7,8,9],[0,7,8,9,75],[0,7,8,10],[0,7,9],[0,7,9,102],[0,7,9],[0,7,9,11],[0,7,9,11,114],[0,7,9,11],[0,7,9,11]]
@[simp] def V4:List (List Nat):=[[1,3,5],[1,3,5,7],[1,3,5,7,8],[1,3,5,7,8,24],[1,3,5,7,8,9],[1,3,5,7,8,9,28],[1,3,5,7,8],[1,3,5,7,8,9,28,33],[1,3,5,7,8,37],[1,3,5,7,8],[1,3,5,7,8,10],[1,3,5,7,8,10,47],[1,3,5,7,8],[1,3,5,7,8,9,28,57],[1,3,5,7,8,11],[1,3,5,7,8,11,66],[1,3,5,7,8],[1,3,5,7,8,9,70],[1,3,5,7,8,12],[1,3,5,7,8,12,79],[1,3,5,7,8],[6]]
@[simp] def V5:List (List Nat):=[[0],[0,3,4],[3,4,7,8,9],[3,4,7,8,9,10],[3,4,6,7,8,9],[3,4,6,7,8,9,14],[3,4,7,8,9],[3,4,7,8,9],[2]]
@[simp] def V6:List (List Nat):=[[0],[5,6,7],[5,6,7,8],[4,5,6,7],[5,6,7,12],[2],[5,6,7],[2]]
@[simp] def V7:List (List Nat):=[[0,1,2],[0,1,2,10],[0,1,2,10,17],[6,7,8],[0,1,2,20],[6,7,8],[6,7,8]]
@[simp] def V8:List (List Nat):=[[0,1,2,4,12],[],[0,2,15,16],[0,2,15,16,17],[0,2,15,16],[0,2,15,16]]
@[simp] def V9:List (List Nat):=[[0,4,5],[0,4,5,7],[0,4,5,7,9],[0,4,5,7,9,10],[0,4,5,7,9,10,11],[4,5,7,9,10,11,21,22,23],[4,5,7,9,10,11,21,22,23,24],[4,5,7,9,10,11,12,13,21,22,23],[4,5,7,9,10,11,13,21,22,23],[4,5,7,9,10,11,21,22,23],[4,5,7,9,10,11,21,22,23],[6]]
@[simp] def Wh:List (List Nat):=[[0,1,2,3,4,5],[0,1,2,3,4,5,9],[0,1,2,3,4,5,9,10],[0,1,2,3,4,5,9,10],[0,1,2,3,4,5,9,10,16],[6,7,8],[0,1,2,3,4,5,9,10,21],[6,7,8],[0,1,2,3,4,5,9,10],[0,1,2,3,4,5,9,10],[0,1,2,3,4,5,9,10,11],[0,1,2,3,4,5,9,10,11,50],[6,7,8]]
def aaA:List (List (List Nat)):=[[],[],[],[],[],aay,[],[],aaz,[],U7,[],U8,[],U9,Va,Vb,[],Vd,Ve,Vf,[],[],[],[],Vg,Vh,[],Vj,Vk,Vl,[],[],[],Vm,Vo,Vp,[],[],Vq,Vr,Vs,Vt,Vu,Vw,[],[],[],[],Vx,Vy,Vz,VA,VB,VD,VE,VF,VG,VH,VI,VJ,[],[],[],[],[],[],[],[],[],[],VK,VL,VN,VO,VP,VQ,[],[],[],VR,VT,VU,VW,VX,VY,VZ,V3,V4,V5,V6,V7,V8,V9,Wh,[],[],[],[],[],[],[],[],[],[],[],[],[],[],[],[],[]]
noncomputable def X:AM.Ctx:={ P:=Try.prog,G:=fun _=>.none,rw:=fun f i=>(f == 79 && i == 0) || (f == 13 && i == 0),keep:=fun f i=>((aaA[f]?).getD [])[i]?,norm:=fun _ _=>false,dr:=fun _ _=>true,dy:=fun f id=>[(22,8),(50,6),(50,7),(59,1),(62,1),(71,19),(83,9),(83,20),(87,3)].contains (f,id) }
theorem own:ownKnob Try.prog.godebug = .none:=by kernel_rfl
theorem full:∀ t e,t < Try.prog.types.size→Try.prog.underlying t = some (.slice e)→0 < Try.prog.cellsOf e:=slices_full_of Try.prog (by kernel_rfl)
theorem adv:AM.Hw X:=AM.Wi (by kernel_rfl) (by kernel_rfl)
@[simp] theorem ar8 (f i:Nat):X.dr f i = true:=rfl
@[simp] theorem ajU (f i:Nat):X.norm f i = false:=rfl
@[simp] theorem ar9 (f i:Nat):X.rw f i = ((f == 79 && i == 0) || (f == 13 && i == 0)):=rfl
theorem bn {f:Nat} {l:List (List Nat)} (h:(aaA[f]?).getD [] = l) (i:Nat):X.keep f i = l[i]?:=by
  rw [← h];rfl
@[simp] theorem apc (i:Nat):X.keep 5 i = aay[i]?:=bn (by kernel_rfl) i
@[simp] theorem apd (i:Nat):X.keep 8 i = aaz[i]?:=bn (by kernel_rfl) i
@[simp] theorem ajV (i:Nat):X.keep 10 i = U7[i]?:=bn (by kernel_rfl) i
@[simp] theorem ajW (i:Nat):X.keep 12 i = U8[i]?:=bn (by kernel_rfl) i
@[simp] theorem ajX (i:Nat):X.keep 14 i = U9[i]?:=bn (by kernel_rfl) i
@[simp] theorem ajY (i:Nat):X.keep 15 i = Va[i]?:=bn (by kernel_rfl) i
@[simp] theorem ajZ (i:Nat):X.keep 16 i = Vb[i]?:=bn (by kernel_rfl) i
@[simp] theorem aj0 (i:Nat):X.keep 18 i = Vd[i]?:=bn (by kernel_rfl) i
@[simp] theorem aj1 (i:Nat):X.keep 19 i = Ve[i]?:=bn (by kernel_rfl) i
@[simp] theorem aj2 (i:Nat):X.keep 20 i = Vf[i]?:=bn (by kernel_rfl) i
@[simp] theorem aj3 (i:Nat):X.keep 25 i = Vg[i]?:=bn (by kernel_rfl) i
@[simp] theorem aj6 (i:Nat):X.keep 26 i = Vh[i]?:=bn (by kernel_rfl) i
@[simp] theorem aj7 (i:Nat):X.keep 28 i = Vj[i]?:=bn (by kernel_rfl) i
@[simp] theorem aj8 (i:Nat):X.keep 29 i = Vk[i]?:=bn (by kernel_rfl) i
@[simp] theorem aj9 (i:Nat):X.keep 30 i = Vl[i]?:=bn (by kernel_rfl) i
@[simp] theorem akb (i:Nat):X.keep 34 i = Vm[i]?:=bn (by kernel_rfl) i
@[simp] theorem akc (i:Nat):X.keep 35 i = Vo[i]?:=bn (by kernel_rfl) i
@[simp] theorem akd (i:Nat):X.keep 36 i = Vp[i]?:=bn (by kernel_rfl) i
@[simp] theorem ake (i:Nat):X.keep 39 i = Vq[i]?:=bn (by kernel_rfl) i
@[simp] theorem akf (i:Nat):X.keep 40 i = Vr[i]?:=bn (by kernel_rfl) i
@[simp] theorem akg (i:Nat):X.keep 41 i = Vs[i]?:=bn (by kernel_rfl) i
@[simp] theorem akh (i:Nat):X.keep 42 i = Vt[i]?:=bn (by kernel_rfl) i
@[simp] theorem aki (i:Nat):X.keep 43 i = Vu[i]?:=bn (by kernel_rfl) i
@[simp] theorem akj (i:Nat):X.keep 44 i = Vw[i]?:=bn (by kernel_rfl) i
@[simp] theorem akk (i:Nat):X.keep 49 i = Vx[i]?:=bn (by kernel_rfl) i
@[simp] theorem akl (i:Nat):X.keep 50 i = Vy[i]?:=bn (by kernel_rfl) i
@[simp] theorem akm (i:Nat):X.keep 51 i = Vz[i]?:=bn (by kernel_rfl) i
@[simp] theorem akn (i:Nat):X.keep 52 i = VA[i]?:=bn (by kernel_rfl) i
@[simp] theorem ako (i:Nat):X.keep 53 i = VB[i]?:=bn (by kernel_rfl) i
@[simp] theorem akp (i:Nat):X.keep 54 i = VD[i]?:=bn (by kernel_rfl) i
@[simp] theorem akq (i:Nat):X.keep 55 i = VE[i]?:=bn (by kernel_rfl) i
@[simp] theorem akr (i:Nat):X.keep 56 i = VF[i]?:=bn (by kernel_rfl) i
@[simp] theorem aks (i:Nat):X.keep 57 i = VG[i]?:=bn (by kernel_rfl) i
@[simp] theorem akt (i:Nat):X.keep 58 i = VH[i]?:=bn (by kernel_rfl) i
@[simp] theorem aku (i:Nat):X.keep 59 i = VI[i]?:=bn (by kernel_rfl) i
@[simp] theorem akv (i:Nat):X.keep 60 i = VJ[i]?:=bn (by kernel_rfl) i
@[simp] theorem akw (i:Nat):X.keep 71 i = VK[i]?:=bn (by kernel_rfl) i
@[simp] theorem akx (i:Nat):X.keep 72 i = VL[i]?:=bn (by kernel_rfl) i
@[simp] theorem aky (i:Nat):X.keep 73 i = VN[i]?:=bn (by kernel_rfl) i
@[simp] theorem akz (i:Nat):X.keep 74 i = VO[i]?:=bn (by kernel_rfl) i
@[simp] theorem akA (i:Nat):X.keep 75 i = VP[i]?:=bn (by kernel_rfl) i
@[simp] theorem akB (i:Nat):X.keep 76 i = VQ[i]?:=bn (by kernel_rfl) i
@[simp] theorem akC (i:Nat):X.keep 80 i = VR[i]?:=bn (by kernel_rfl) i
@[simp] theorem akD (i:Nat):X.keep 81 i = VT[i]?:=bn (by kernel_rfl) i
@[simp] theorem akE (i:Nat):X.keep 82 i = VU[i]?:=bn (by kernel_rfl) i
@[simp] theorem akF (i:Nat):X.keep 83 i = VW[i]?:=bn (by kernel_rfl) i
@[simp] theorem akG (i:Nat):X.keep 84 i = VX[i]?:=bn (by kernel_rfl) i
@[simp] theorem akH (i:Nat):X.keep 85 i = VY[i]?:=bn (by kernel_rfl) i
@[simp] theorem akI (i:Nat):X.keep 86 i = VZ[i]?:=bn (by kernel_rfl) i
@[simp] theorem akJ (i:Nat):X.keep 87 i = V3[i]?:=bn (by kernel_rfl) i
@[simp] theorem akK (i:Nat):X.keep 88 i = V4[i]?:=bn (by kernel_rfl) i
@[simp] theorem akL (i:Nat):X.keep 89 i = V5[i]?:=bn (by kernel_rfl) i
@[simp] theorem akM (i:Nat):X.keep 90 i = V6[i]?:=bn (by kernel_rfl) i
@[simp] theorem akN (i:Nat):X.keep 91 i = V7[i]?:=bn (by kernel_rfl) i
@[simp] theorem akO (i:Nat):X.keep 92 i = V8[i]?:=bn (by kernel_rfl) i
@[simp] theorem akP (i:Nat):X.keep 93 i = V9[i]?:=bn (by kernel_rfl) i
@[simp] theorem akQ (i:Nat):X.keep 94 i = Wh[i]?:=bn (by kernel_rfl) i
attribute [go_sem] List.getElem?_cons_zero List.getElem?_cons_succ Go.AM.vF Go.AM.yP
@[simp] theorem nt5:fE X 5 = 137:=by kernel_rfl
@[simp] theorem asa:bodied X 5 = true:=by kernel_rfl
@[simp] theorem asb:aI X 5 = [22,5,3,3,36]:=by kernel_rfl
@[simp] theorem nt8:fE X 8 = 22:=by kernel_rfl
@[simp] theorem asc:bodied X 8 = true:=by kernel_rfl
@[simp] theorem ase:aI X 8 = []:=by kernel_rfl
@[simp] theorem asf:fE X 10 = 84:=by kernel_rfl
@[simp] theorem ape:bodied X 10 = true:=by kernel_rfl
@[simp] theorem adw:aI X 10 = [22,5,3,3]:=by kernel_rfl
@[simp] theorem ash:fE X 12 = 10:=by kernel_rfl
@[simp] theorem apf:bodied X 12 = true:=by kernel_rfl
@[simp] theorem adx:aI X 12 = [22,22]:=by kernel_rfl
@[simp] theorem asi:fE X 14 = 13:=by kernel_rfl
@[simp] theorem apg:bodied X 14 = true:=by kernel_rfl
@[simp] theorem acU:aI X 14 = [3]:=by kernel_rfl
@[simp] theorem asj:fE X 15 = 64:=by kernel_rfl
@[simp] theorem aph:bodied X 15 = true:=by kernel_rfl
@[simp] theorem ac3:aI X 15 = [30,22]:=by kernel_rfl
@[simp] theorem asl:fE X 16 = 9:=by kernel_rfl
@[simp] theorem apj:bodied X 16 = true:=by kernel_rfl
@[simp] theorem acR:aI X 16 = [30]:=by kernel_rfl
@[simp] theorem asn:fE X 18 = 25:=by kernel_rfl
@[simp] theorem apk:bodied X 18 = true:=by kernel_rfl
@[simp] theorem acT:aI X 18 = [30,5]:=by kernel_rfl
@[simp] theorem aso:fE X 19 = 40:=by kernel_rfl
@[simp] theorem apl:bodied X 19 = true:=by kernel_rfl
@[simp] theorem ady:aI X 19 = [22,36]:=by kernel_rfl
@[simp] theorem asq:fE X 20 = 10:=by kernel_rfl
@[simp] theorem apm:bodied X 20 = true:=by kernel_rfl
@[simp] theorem acS:aI X 20 = [30]:=by kernel_rfl
@[simp] theorem asr:fE X 25 = 25:=by kernel_rfl
@[simp] theorem apn:bodied X 25 = true:=by kernel_rfl
@[simp] theorem adz:aI X 25 = [22]:=by kernel_rfl
@[simp] theorem asu:fE X 26 = 43:=by kernel_rfl
@[simp] theorem apo:bodied X 26 = true:=by kernel_rfl
@[simp] theorem adA:aI X 26 = [22,58,3]:=by kernel_rfl
@[simp] theorem asv:fE X 28 = 12:=by kernel_rfl
@[simp] theorem apq:bodied X 28 = true:=by kernel_rfl
@[simp] theorem acQ:aI X 28 = [30]:=by kernel_rfl
@[simp] theorem asw:fE X 29 = 110:=by kernel_rfl
@[simp] theorem apr:bodied X 29 = true:=by kernel_rfl
@[simp] theorem acZ:aI X 29 = [30]:=by kernel_rfl
@[simp] theorem asx:fE X 30 = 14:=by kernel_rfl
@[simp] theorem aps:bodied X 30 = true:=by kernel_rfl
@[simp] theorem apt:aI X 30 = [3,3]:=by kernel_rfl
@[simp] theorem asy:fE X 34 = 5:=by kernel_rfl
@[simp] theorem apu:bodied X 34 = true:=by kernel_rfl
@[simp] theorem aaB:aI X 34 = [22]:=by kernel_rfl
@[simp] theorem asz:fE X 35 = 21:=by kernel_rfl
@[simp] theorem apv:bodied X 35 = true:=by kernel_rfl
@[simp] theorem adB:aI X 35 = [22]:=by kernel_rfl
@[simp] theorem asA:fE X 36 = 8:=by kernel_rfl
@[simp] theorem apw:bodied X 36 = true:=by kernel_rfl
@[simp] theorem adC:aI X 36 = [22]:=by kernel_rfl
@[simp] theorem asB:fE X 39 = 34:=by kernel_rfl
@[simp] theorem apx:bodied X 39 = true:=by kernel_rfl
@[simp] theorem acV:aI X 39 = [22,3]:=by kernel_rfl
@[simp] theorem asC:fE X 40 = 66:=by kernel_rfl
@[simp] theorem apy:bodied X 40 = true:=by kernel_rfl
@[simp] theorem acP:aI X 40 = [22,3]:=by kernel_rfl
@[simp] theorem asD:fE X 41 = 38:=by kernel_rfl
@[simp] theorem apz:bodied X 41 = true:=by kernel_rfl
@[simp] theorem adD:aI X 41 = [68,22]:=by kernel_rfl
@[simp] theorem asE:fE X 42 = 128:=by kernel_rfl
@[simp] theorem apA:bodied X 42 = true:=by kernel_rfl
@[simp] theorem adE:aI X 42 = [75]:=by kernel_rfl
@[simp] theorem asF:fE X 43 = 104:=by kernel_rfl
@[simp] theorem apB:bodied X 43 = true:=by kernel_rfl
@[simp] theorem adF:aI X 43 = [22]:=by kernel_rfl
@[simp] theorem asG:fE X 44 = 63:=by kernel_rfl
@[simp] theorem apC:bodied X 44 = true:=by kernel_rfl
@[simp] theorem adG:aI X 44 = [22]:=by kernel_rfl
@[simp] theorem asH:fE X 49 = 40:=by kernel_rfl
@[simp] theorem apD:bodied X 49 = true:=by kernel_rfl
@[simp] theorem adH:aI X 49 = [22]:=by kernel_rfl
@[simp] theorem asI:fE X 50 = 35:=by kernel_rfl
@[simp] theorem apE:bodied X 50 = true:=by kernel_rfl
@[simp] theorem adI:aI X 50 = [22,3]:=by kernel_rfl
@[simp] theorem asJ:fE X 51 = 8:=by kernel_rfl
@[simp] theorem apF:bodied X 51 = true:=by kernel_rfl
@[simp] theorem apG:aI X 51 = [68]:=by kernel_rfl
@[simp] theorem asK:fE X 52 = 47:=by kernel_rfl
@[simp] theorem apH:bodied X 52 = true:=by kernel_rfl
@[simp] theorem adJ:aI X 52 = [75]:=by kernel_rfl
@[simp] theorem asL:fE X 53 = 34:=by kernel_rfl
@[simp] theorem apI:bodied X 53 = true:=by kernel_rfl
@[simp] theorem apJ:aI X 53 = []:=by kernel_rfl
@[simp] theorem asM:fE X 54 = 55:=by kernel_rfl
@[simp] theorem apK:bodied X 54 = true:=by kernel_rfl
@[simp] theorem apL:aI X 54 = [36]:=by kernel_rfl
@[simp] theorem asN:fE X 55 = 17:=by kernel_rfl
@[simp] theorem apM:bodied X 55 = true:=by kernel_rfl
@[simp] theorem ade:aI X 55 = [86,3,3]:=by kernel_rfl
@[simp] theorem asO:fE X 56 = 18:=by kernel_rfl
@[simp] theorem apN:bodied X 56 = true:=by kernel_rfl
@[simp] theorem adf:aI X 56 = [86,3,3]:=by kernel_rfl
@[simp] theorem asP:fE X 57 = 33:=by kernel_rfl
@[simp] theorem apO:bodied X 57 = true:=by kernel_rfl
@[simp] theorem adK:aI X 57 = [3]:=by kernel_rfl
@[simp] theorem asQ:fE X 58 = 30:=by kernel_rfl
@[simp] theorem apP:bodied X 58 = true:=by kernel_rfl
@[simp] theorem adL:aI X 58 = [3]:=by kernel_rfl
@[simp] theorem asR:fE X 59 = 33:=by kernel_rfl
@[simp] theorem apQ:bodied X 59 = true:=by kernel_rfl
@[simp] theorem adM:aI X 59 = [3]:=by kernel_rfl
@[simp] theorem asT:fE X 60 = 36:=by kernel_rfl
@[simp] theorem apR:bodied X 60 = true:=by kernel_rfl
@[simp] theorem adh:aI X 60 = [22,3,3]:=by kernel_rfl
@[simp] theorem asU:fE X 71 = 81:=by kernel_rfl
@[simp] theorem apS:bodied X 71 = true:=by kernel_rfl
@[simp] theorem adN:aI X 71 = [104]:=by kernel_rfl
@[simp] theorem asV:fE X 72 = 32:=by kernel_rfl
@[simp] theorem apT:bodied X 72 = true:=by kernel_rfl
@[simp] theorem adO:aI X 72 = [91]:=by kernel_rfl
@[simp] theorem asW:fE X 73 = 31:=by kernel_rfl
@[simp] theorem apU:bodied X 73 = true:=by kernel_rfl
@[simp] theorem apV:aI X 73 = [36]:=by kernel_rfl
@[simp] theorem asX:fE X 74 = 31:=by kernel_rfl
@[simp] theorem apW:bodied X 74 = true:=by kernel_rfl
@[simp] theorem apX:aI X 74 = [36]:=by kernel_rfl
@[simp] theorem asY:fE X 75 = 22:=by kernel_rfl
@[simp] theorem apY:bodied X 75 = true:=by kernel_rfl
@[simp] theorem apZ:aI X 75 = [112]:=by kernel_rfl
@[simp] theorem asZ:fE X 76 = 48:=by kernel_rfl
@[simp] theorem ap0:bodied X 76 = true:=by kernel_rfl
@[simp] theorem ada:aI X 76 = [86,3]:=by kernel_rfl
@[simp] theorem as1:fE X 80 = 63:=by kernel_rfl
@[simp] theorem ap1:bodied X 80 = true:=by kernel_rfl
@[simp] theorem adP:aI X 80 = [104,3]:=by kernel_rfl
@[simp] theorem as2:fE X 81 = 49:=by kernel_rfl
@[simp] theorem ap2:bodied X 81 = true:=by kernel_rfl
@[simp] theorem adQ:aI X 81 = [104]:=by kernel_rfl
@[simp] theorem as3:fE X 82 = 36:=by kernel_rfl
@[simp] theorem ap3:bodied X 82 = true:=by kernel_rfl
@[simp] theorem adR:aI X 82 = [104,36,36]:=by kernel_rfl
@[simp] theorem as4:fE X 83 = 137:=by kernel_rfl
@[simp] theorem ap4:bodied X 83 = true:=by kernel_rfl
@[simp] theorem ap5:aI X 83 = [104]:=by kernel_rfl
@[simp] theorem as5:fE X 84 = 13:=by kernel_rfl
@[simp] theorem ap6:bodied X 84 = true:=by kernel_rfl
@[simp] theorem adq:aI X 84 = [104,25]:=by kernel_rfl
@[simp] theorem as6:fE X 85 = 31:=by kernel_rfl
@[simp] theorem ap7:bodied X 85 = true:=by kernel_rfl
@[simp] theorem adS:aI X 85 = [104,5]:=by kernel_rfl
@[simp] theorem as7:fE X 86 = 41:=by kernel_rfl
@[simp] theorem ap8:bodied X 86 = true:=by kernel_rfl
@[simp] theorem adT:aI X 86 = [104,36]:=by kernel_rfl
@[simp] theorem as8:fE X 87 = 132:=by kernel_rfl
@[simp] theorem ap9:bodied X 87 = true:=by kernel_rfl
@[simp] theorem adU:aI X 87 = [104,3,36]:=by kernel_rfl
@[simp] theorem as9:fE X 88 = 84:=by kernel_rfl
@[simp] theorem aqa:bodied X 88 = true:=by kernel_rfl
@[simp] theorem aqb:aI X 88 = [104,36,3]:=by kernel_rfl
@[simp] theorem ata:fE X 89 = 27:=by kernel_rfl
@[simp] theorem aqc:bodied X 89 = true:=by kernel_rfl
@[simp] theorem aqd:aI X 89 = [36]:=by kernel_rfl
@[simp] theorem atb:fE X 90 = 14:=by kernel_rfl
@[simp] theorem aqe:bodied X 90 = true:=by kernel_rfl
@[simp] theorem aqf:aI X 90 = [36]:=by kernel_rfl
@[simp] theorem atc:fE X 91 = 29:=by kernel_rfl
@[simp] theorem aqg:bodied X 91 = true:=by kernel_rfl
@[simp] theorem aqh:aI X 91 = [36,22,3]:=by kernel_rfl
@[simp] theorem atd:fE X 92 = 23:=by kernel_rfl
@[simp] theorem aqi:bodied X 92 = true:=by kernel_rfl
@[simp] theorem aqj:aI X 92 = [3,3]:=by kernel_rfl
@[simp] theorem ate:fE X 93 = 41:=by kernel_rfl
@[simp] theorem aqk:bodied X 93 = true:=by kernel_rfl
@[simp] theorem aql:aI X 93 = [36,22,3]:=by kernel_rfl
@[simp] theorem atf:fE X 94 = 58:=by kernel_rfl
@[simp] theorem aqm:bodied X 94 = true:=by kernel_rfl
@[simp] theorem aqn:aI X 94 = []:=by kernel_rfl
@[simp] theorem Wj:X.keep 50 6 = some [4,5,6]:=by kernel_rfl
@[simp] theorem EN:X.keep 50 7 = some [4,5,6]:=by kernel_rfl
@[simp] theorem U0:X.keep 59 1 = some [0,2,4]:=by kernel_rfl
@[simp] theorem Sj:X.keep 71 19 = some [0,3,4]:=by kernel_rfl
@[simp] theorem Wn:X.keep 87 3 = some [0,2,7]:=by kernel_rfl
@[simp] theorem akR:X.dy 29 6 = false:=by kernel_rfl
@[simp] theorem ags:X.dy 40 12 = false:=by kernel_rfl
@[simp] theorem agt:X.dy 42 14 = false:=by kernel_rfl
@[simp] theorem agu:X.dy 42 16 = false:=by kernel_rfl
@[simp] theorem agv:X.dy 42 19 = false:=by kernel_rfl
@[simp] theorem agw:X.dy 42 22 = false:=by kernel_rfl
@[simp] theorem akS:X.dy 43 8 = false:=by kernel_rfl
@[simp] theorem agx:X.dy 43 12 = false:=by kernel_rfl
@[simp] theorem agy:X.dy 43 14 = false:=by kernel_rfl
@[simp] theorem agz:X.dy 44 10 = false:=by kernel_rfl
@[simp] theorem akT:X.dy 49 3 = false:=by kernel_rfl
@[simp] theorem akU:X.dy 50 6 = true:=by kernel_rfl
@[simp] theorem akV:X.dy 50 7 = true:=by kernel_rfl
@[simp] theorem agA:X.dy 57 12 = false:=by kernel_rfl
@[simp] theorem agB:X.dy 58 10 = false:=by kernel_rfl
@[simp] theorem akW:X.dy 59 1 = true:=by kernel_rfl
@[simp] theorem akX:X.dy 60 2 = false:=by kernel_rfl
@[simp] theorem agC:X.dy 71 19 = true:=by kernel_rfl
@[simp] theorem akY:X.dy 75 6 = false:=by kernel_rfl
@[simp] theorem akZ:X.dy 76 2 = false:=by kernel_rfl
@[simp] theorem ak0:X.dy 80 5 = false:=by kernel_rfl
@[simp] theorem ak1:X.dy 80 8 = false:=by kernel_rfl
@[simp] theorem ak2:X.dy 83 9 = true:=by kernel_rfl
@[simp] theorem agD:X.dy 83 20 = true:=by kernel_rfl
@[simp] theorem ak3:X.dy 85 1 = false:=by kernel_rfl
@[simp] theorem ak4:X.dy 86 3 = false:=by kernel_rfl
@[simp] theorem ak5:X.dy 87 3 = true:=by kernel_rfl
@[simp] theorem agE:X.dy 87 11 = false:=by kernel_rfl
@[simp] theorem agF:X.dy 87 17 = false:=by kernel_rfl
@[simp] theorem ak6:X.dy 94 8 = false:=by kernel_rfl
@[simp] theorem aqo:sizeT X 0 = 1:=by kernel_rfl
@[simp] theorem ak7:bD X 0 = 0:=by kernel_rfl
@[simp] theorem atg:okT X 0 = true:=by kernel_rfl
@[simp] theorem isAgg0:bf X 0 = false:=by kernel_rfl
@[simp] theorem ak8:bK X 0 = false:=by kernel_rfl
@[simp] theorem ak9:bP X 0 = false:=by kernel_rfl
@[simp] theorem aqp:fU X 0 = false:=by kernel_rfl
@[simp] theorem ath:bF X 0 = true:=by kernel_rfl
@[simp] theorem ati:und X 3 = .int .i64:=by kernel_rfl
@[simp] theorem size3:sizeT X 3 = 1:=by kernel_rfl
@[simp] theorem bytes3:bD X 3 = 8:=by kernel_rfl
@[simp] theorem atj:okT X 3 = true:=by kernel_rfl
@[simp] theorem isAgg3:bf X 3 = false:=by kernel_rfl
@[simp] theorem ala:bK X 3 = true:=by kernel_rfl
@[simp] theorem alb:bP X 3 = false:=by kernel_rfl
@[simp] theorem aqr:fU X 3 = false:=by kernel_rfl
@[simp] theorem RZ:bF X 3 = true:=by kernel_rfl
@[simp] theorem zero3:bg X 3 = .int .i64 0:=by kernel_rfl
@[simp] theorem atl:und X 4 = .bool:=by kernel_rfl
@[simp] theorem aqs:sizeT X 4 = 1:=by kernel_rfl
@[simp] theorem bytes4:bD X 4 = 1:=by kernel_rfl
@[simp] theorem atm:okT X 4 = true:=by kernel_rfl
@[simp] theorem isAgg4:bf X 4 = false:=by kernel_rfl
@[simp] theorem alc:bK X 4 = false:=by kernel_rfl
@[simp] theorem ald:bP X 4 = false:=by kernel_rfl
@[simp] theorem aqt:fU X 4 = false:=by kernel_rfl
@[simp] theorem atn:bF X 4 = true:=by kernel_rfl
@[simp] theorem aqu:bg X 4 = .bool false:=by kernel_rfl
@[simp] theorem DN:und X 5 = .int .u8:=by kernel_rfl
@[simp] theorem qx:sizeT X 5 = 1:=by kernel_rfl
@[simp] theorem bytes5:bD X 5 = 1:=by kernel_rfl
@[simp] theorem ato:okT X 5 = true:=by kernel_rfl
@[simp] theorem isAgg5:bf X 5 = false:=by kernel_rfl
@[simp] theorem ale:bK X 5 = true:=by kernel_rfl
@[simp] theorem alf:bP X 5 = false:=by kernel_rfl
@[simp] theorem aqv:fU X 5 = true:=by kernel_rfl
@[simp] theorem yh:bF X 5 = true:=by kernel_rfl
@[simp] theorem aqw:bg X 5 = .int .u8 0:=by kernel_rfl
@[simp] theorem atp:und X 9 = .string:=by kernel_rfl
@[simp] theorem aqx:sizeT X 9 = 1:=by kernel_rfl
@[simp] theorem bytes9:bD X 9 = 16:=by kernel_rfl
@[simp] theorem atq:okT X 9 = true:=by kernel_rfl
@[simp] theorem isAgg9:bf X 9 = false:=by kernel_rfl
@[simp] theorem alg:bK X 9 = false:=by kernel_rfl
@[simp] theorem alh:bP X 9 = false:=by kernel_rfl
@[simp] theorem aqy:fU X 9 = false:=by kernel_rfl
@[simp] theorem atr:bF X 9 = true:=by kernel_rfl
@[simp] theorem zero9:bg X 9 = .str []:=by kernel_rfl
@[simp] theorem nR:und X 22 = .slice 5:=by kernel_rfl
@[simp] theorem Wp:sizeT X 22 = 1:=by kernel_rfl
@[simp] theorem agG:bD X 22 = 24:=by kernel_rfl
@[simp] theorem aqz:okT X 22 = true:=by kernel_rfl
@[simp] theorem agH:bf X 22 = false:=by kernel_rfl
@[simp] theorem agI:bK X 22 = false:=by kernel_rfl
@[simp] theorem agJ:bP X 22 = false:=by kernel_rfl
@[simp] theorem ali:fU X 22 = false:=by kernel_rfl
@[simp] theorem adV:bF X 22 = true:=by kernel_rfl
@[simp] theorem zero22:bg X 22 = .ro 0 .pn 0:=by kernel_rfl
@[simp] theorem aqA:und X 25 = .int .i64:=by kernel_rfl
@[simp] theorem size25:sizeT X 25 = 1:=by kernel_rfl
@[simp] theorem bytes25:bD X 25 = 8:=by kernel_rfl
@[simp] theorem aqB:okT X 25 = true:=by kernel_rfl
@[simp] theorem isAgg25:bf X 25 = false:=by kernel_rfl
@[simp] theorem agK:bK X 25 = true:=by kernel_rfl
@[simp] theorem agL:bP X 25 = false:=by kernel_rfl
@[simp] theorem alj:fU X 25 = false:=by kernel_rfl
@[simp] theorem aqC:bF X 25 = true:=by kernel_rfl
@[simp] theorem alk:bg X 25 = .int .i64 0:=by kernel_rfl
@[simp] theorem alm:sizeT X 26 = 1:=by kernel_rfl
@[simp] theorem bytes26:bD X 26 = 0:=by kernel_rfl
@[simp] theorem aqD:okT X 26 = true:=by kernel_rfl
@[simp] theorem agM:bf X 26 = false:=by kernel_rfl
@[simp] theorem agN:bK X 26 = false:=by kernel_rfl
@[simp] theorem agO:bP X 26 = false:=by kernel_rfl
@[simp] theorem aln:fU X 26 = false:=by kernel_rfl
@[simp] theorem aqE:bF X 26 = true:=by kernel_rfl
@[simp] theorem aqF:und X 30 = .pointer 43:=by kernel_rfl
@[simp] theorem alo:sizeT X 30 = 1:=by kernel_rfl
@[simp] theorem bytes30:bD X 30 = 8:=by kernel_rfl
@[simp] theorem aqG:okT X 30 = true:=by kernel_rfl
@[simp] theorem isAgg30:bf X 30 = false:=by kernel_rfl
@[simp] theorem agP:bK X 30 = false:=by kernel_rfl
@[simp] theorem agQ:bP X 30 = false:=by kernel_rfl
@[simp] theorem alp:fU X 30 = false:=by kernel_rfl
@[simp] theorem aqH:bF X 30 = true:=by kernel_rfl
@[simp] theorem zero30:bg X 30 = .gI:=by kernel_rfl
@[simp] theorem alq:sizeT X 31 = 1:=by kernel_rfl
@[simp] theorem agR:bD X 31 = 0:=by kernel_rfl
@[simp] theorem aqI:okT X 31 = true:=by kernel_rfl
@[simp] theorem isAgg31:bf X 31 = false:=by kernel_rfl
@[simp] theorem agS:bK X 31 = false:=by kernel_rfl
@[simp] theorem agT:bP X 31 = false:=by kernel_rfl
@[simp] theorem alr:fU X 31 = false:=by kernel_rfl
@[simp] theorem aqJ:bF X 31 = true:=by kernel_rfl
@[simp] theorem als:sizeT X 33 = 1:=by kernel_rfl
@[simp] theorem agU:bD X 33 = 0:=by kernel_rfl
@[simp] theorem aqK:okT X 33 = true:=by kernel_rfl
@[simp] theorem isAgg33:bf X 33 = false:=by kernel_rfl
@[simp] theorem agV:bK X 33 = false:=by kernel_rfl
@[simp] theorem agW:bP X 33 = false:=by kernel_rfl
@[simp] theorem alu:fU X 33 = false:=by kernel_rfl
@[simp] theorem aqL:bF X 33 = true:=by kernel_rfl
@[simp] theorem Hq:und X 36 = .slice 3:=by kernel_rfl
@[simp] theorem alv:sizeT X 36 = 1:=by kernel_rfl
@[simp] theorem agX:bD X 36 = 24:=by kernel_rfl
@[simp] theorem aqM:okT X 36 = true:=by kernel_rfl
@[simp] theorem isAgg36:bf X 36 = false:=by kernel_rfl
@[simp] theorem agY:bK X 36 = false:=by kernel_rfl
@[simp] theorem agZ:bP X 36 = false:=by kernel_rfl
@[simp] theorem alx:fU X 36 = false:=by kernel_rfl
@[simp] theorem aqN:bF X 36 = true:=by kernel_rfl
@[simp] theorem aly:bg X 36 = .ro 0 .pn 0:=by kernel_rfl
@[simp] theorem aaC:und X 38 = .slice 22:=by kernel_rfl
@[simp] theorem alz:sizeT X 38 = 1:=by kernel_rfl
@[simp] theorem ag0:bD X 38 = 24:=by kernel_rfl
@[simp] theorem aqO:okT X 38 = true:=by kernel_rfl
@[simp] theorem isAgg38:bf X 38 = false:=by kernel_rfl
@[simp] theorem ag1:bK X 38 = false:=by kernel_rfl
@[simp] theorem ag2:bP X 38 = false:=by kernel_rfl
@[simp] theorem alA:fU X 38 = false:=by kernel_rfl
@[simp] theorem aqP:bF X 38 = true:=by kernel_rfl
@[simp] theorem alB:bg X 38 = .ro 0 .pn 0:=by kernel_rfl
@[simp] theorem alC:sizeT X 43 = 4:=by kernel_rfl
@[simp] theorem ag3:bD X 43 = 48:=by kernel_rfl
@[simp] theorem aqQ:okT X 43 = true:=by kernel_rfl
@[simp] theorem isAgg43:bf X 43 = true:=by kernel_rfl
@[simp] theorem ag4:bK X 43 = false:=by kernel_rfl
@[simp] theorem ag5:bP X 43 = false:=by kernel_rfl
@[simp] theorem alD:fU X 43 = false:=by kernel_rfl
@[simp] theorem aqR:bF X 43 = true:=by kernel_rfl
@[simp] theorem alE:bg X 43 = .agg (.pc [.int .i64 0,.int .u8 0,.ro 0 .pn 0,.int .i64 0]):=by kernel_rfl
@[simp] theorem aqS:und X 44 = .slice 30:=by kernel_rfl
@[simp] theorem alF:sizeT X 44 = 1:=by kernel_rfl
@[simp] theorem ag6:bD X 44 = 24:=by kernel_rfl
@[simp] theorem aqT:okT X 44 = true:=by kernel_rfl
@[simp] theorem isAgg44:bf X 44 = false:=by kernel_rfl
@[simp] theorem ag7:bK X 44 = false:=by kernel_rfl
@[simp] theorem ag8:bP X 44 = false:=by kernel_rfl
@[simp] theorem alG:fU X 44 = false:=by kernel_rfl
@[simp] theorem aqU:bF X 44 = true:=by kernel_rfl
@[simp] theorem alH:bg X 44 = .ro 0 .pn 0:=by kernel_rfl
@[simp] theorem aqV:und X 48 = .pointer 65:=by kernel_rfl
@[simp] theorem alI:sizeT X 48 = 1:=by kernel_rfl
@[simp] theorem ag9:bD X 48 = 8:=by kernel_rfl
@[simp] theorem aqW:okT X 48 = true:=by kernel_rfl
@[simp] theorem isAgg48:bf X 48 = false:=by kernel_rfl
@[simp] theorem aha:bK X 48 = false:=by kernel_rfl
@[simp] theorem ahb:bP X 48 = false:=by kernel_rfl
@[simp] theorem alJ:fU X 48 = false:=by kernel_rfl
@[simp] theorem aqX:bF X 48 = true:=by kernel_rfl
@[simp] theorem alK:bg X 48 = .gI:=by kernel_rfl
@[simp] theorem alL:sizeT X 49 = 1:=by kernel_rfl
@[simp] theorem ahc:bD X 49 = 0:=by kernel_rfl
@[simp] theorem aqY:okT X 49 = true:=by kernel_rfl
@[simp] theorem ahd:bf X 49 = false:=by kernel_rfl
@[simp] theorem ahe:bK X 49 = false:=by kernel_rfl
@[simp] theorem ahf:bP X 49 = false:=by kernel_rfl
@[simp] theorem alM:fU X 49 = false:=by kernel_rfl
@[simp] theorem aqZ:bF X 49 = true:=by kernel_rfl
@[simp] theorem aq0:und X 51 = .slice 55:=by kernel_rfl
@[simp] theorem alN:sizeT X 51 = 1:=by kernel_rfl
@[simp] theorem ahg:bD X 51 = 24:=by kernel_rfl
@[simp] theorem aq1:okT X 51 = true:=by kernel_rfl
@[simp] theorem isAgg51:bf X 51 = false:=by kernel_rfl
@[simp] theorem ahh:bK X 51 = false:=by kernel_rfl
@[simp] theorem ahi:bP X 51 = false:=by kernel_rfl
@[simp] theorem alO:fU X 51 = false:=by kernel_rfl
@[simp] theorem aq2:bF X 51 = true:=by kernel_rfl
@[simp] theorem alP:bg X 51 = .ro 0 .pn 0:=by kernel_rfl
@[simp] theorem alQ:sizeT X 52 = 1:=by kernel_rfl
@[simp] theorem ahj:bD X 52 = 0:=by kernel_rfl
@[simp] theorem aq3:okT X 52 = true:=by kernel_rfl
@[simp] theorem isAgg52:bf X 52 = false:=by kernel_rfl
@[simp] theorem ahk:bK X 52 = false:=by kernel_rfl
@[simp] theorem ahl:bP X 52 = false:=by kernel_rfl
@[simp] theorem alR:fU X 52 = false:=by kernel_rfl
@[simp] theorem aq4:bF X 52 = true:=by kernel_rfl
@[simp] theorem alS:sizeT X 55 = 3:=by kernel_rfl
@[simp] theorem ahm:bD X 55 = 32:=by kernel_rfl
@[simp] theorem aq5:okT X 55 = true:=by kernel_rfl
@[simp] theorem isAgg55:bf X 55 = true:=by kernel_rfl
@[simp] theorem ahn:bK X 55 = false:=by kernel_rfl
@[simp] theorem aho:bP X 55 = false:=by kernel_rfl
@[simp] theorem alT:fU X 55 = false:=by kernel_rfl
@[simp] theorem aq6:bF X 55 = true:=by kernel_rfl
@[simp] theorem alU:bg X 55 = .agg (.pc [.int .u8 0,.int .u8 0,.ro 0 .pn 0]):=by kernel_rfl
@[simp] theorem aq7:und X 58 = .int .u64:=by kernel_rfl
@[simp] theorem alV:sizeT X 58 = 1:=by kernel_rfl
@[simp] theorem ahp:bD X 58 = 8:=by kernel_rfl
@[simp] theorem aq8:okT X 58 = true:=by kernel_rfl
@[simp] theorem isAgg58:bf X 58 = false:=by kernel_rfl
@[simp] theorem ahq:bK X 58 = true:=by kernel_rfl
@[simp] theorem ahr:bP X 58 = false:=by kernel_rfl
@[simp] theorem alW:fU X 58 = false:=by kernel_rfl
@[simp] theorem aq9:bF X 58 = true:=by kernel_rfl
@[simp] theorem alX:bg X 58 = .int .u64 0:=by kernel_rfl
@[simp] theorem ara:und X 59 = .int .u64:=by kernel_rfl
@[simp] theorem alY:sizeT X 59 = 1:=by kernel_rfl
@[simp] theorem ahs:bD X 59 = 8:=by kernel_rfl
@[simp] theorem arb:okT X 59 = true:=by kernel_rfl
@[simp] theorem aht:bf X 59 = false:=by kernel_rfl
@[simp] theorem ahu:bK X 59 = true:=by kernel_rfl
@[simp] theorem ahv:bP X 59 = false:=by kernel_rfl
@[simp] theorem alZ:fU X 59 = false:=by kernel_rfl
@[simp] theorem ard:bF X 59 = true:=by kernel_rfl
@[simp] theorem al0:bg X 59 = .int .u64 0:=by kernel_rfl
@[simp] theorem al1:sizeT X 60 = 1:=by kernel_rfl
@[simp] theorem ahw:bD X 60 = 0:=by kernel_rfl
@[simp] theorem arf:okT X 60 = true:=by kernel_rfl
@[simp] theorem ahx:bf X 60 = false:=by kernel_rfl
@[simp] theorem ahy:bK X 60 = false:=by kernel_rfl
@[simp] theorem ahz:bP X 60 = false:=by kernel_rfl
@[simp] theorem al2:fU X 60 = false:=by kernel_rfl
@[simp] theorem arh:bF X 60 = true:=by kernel_rfl
@[simp] theorem al3:sizeT X 65 = 8:=by kernel_rfl
@[simp] theorem ahA:bD X 65 = 88:=by kernel_rfl
@[simp] theorem ari:okT X 65 = true:=by kernel_rfl
@[simp] theorem ahB:bf X 65 = true:=by kernel_rfl
@[simp] theorem ahC:bK X 65 = false:=by kernel_rfl
@[simp] theorem ahD:bP X 65 = false:=by kernel_rfl
@[simp] theorem al4:fU X 65 = false:=by kernel_rfl
@[simp] theorem arj:bF X 65 = true:=by kernel_rfl
@[simp] theorem al5:bg X 65 = .agg (.pc [.int .i64 0,.int .i64 0,.int .u8 0,.ro 0 .pn 0,.ro 0 .pn 0,.int .u8 0,.bool false,.int .i64 0]):=by kernel_rfl
@[simp] theorem al6:sizeT X 66 = 1:=by kernel_rfl
@[simp] theorem ahE:bD X 66 = 0:=by kernel_rfl
@[simp] theorem ark:okT X 66 = true:=by kernel_rfl
@[simp] theorem ahF:bf X 66 = false:=by kernel_rfl
@[simp] theorem ahG:bK X 66 = false:=by kernel_rfl
@[simp] theorem ahH:bP X 66 = false:=by kernel_rfl
@[simp] theorem al7:fU X 66 = false:=by kernel_rfl
@[simp] theorem arl:bF X 66 = true:=by kernel_rfl
@[simp] theorem arn:und X 68 = .int .u32:=by kernel_rfl
@[simp] theorem al8:sizeT X 68 = 1:=by kernel_rfl
@[simp] theorem ahI:bD X 68 = 4:=by kernel_rfl
@[simp] theorem aro:okT X 68 = true:=by kernel_rfl
@[simp] theorem ahJ:bf X 68 = false:=by kernel_rfl
@[simp] theorem ahK:bK X 68 = true:=by kernel_rfl
@[simp] theorem ahL:bP X 68 = false:=by kernel_rfl
@[simp] theorem al9:fU X 68 = false:=by kernel_rfl
@[simp] theorem arp:bF X 68 = true:=by kernel_rfl
@[simp] theorem ama:bg X 68 = .int .u32 0:=by kernel_rfl
@[simp] theorem amb:sizeT X 70 = 1:=by kernel_rfl
@[simp] theorem ahM:bD X 70 = 0:=by kernel_rfl
@[simp] theorem arq:okT X 70 = true:=by kernel_rfl
@[simp] theorem ahN:bf X 70 = false:=by kernel_rfl
@[simp] theorem ahO:bK X 70 = false:=by kernel_rfl
@[simp] theorem ahP:bP X 70 = false:=by kernel_rfl
@[simp] theorem amc:fU X 70 = false:=by kernel_rfl
@[simp] theorem ars:bF X 70 = true:=by kernel_rfl
@[simp] theorem aru:und X 75 = .slice 91:=by kernel_rfl
@[simp] theorem amd:sizeT X 75 = 1:=by kernel_rfl
@[simp] theorem ahQ:bD X 75 = 24:=by kernel_rfl
@[simp] theorem arv:okT X 75 = true:=by kernel_rfl
@[simp] theorem ahR:bf X 75 = false:=by kernel_rfl
@[simp] theorem ahS:bK X 75 = false:=by kernel_rfl
@[simp] theorem ahT:bP X 75 = false:=by kernel_rfl
@[simp] theorem ame:fU X 75 = false:=by kernel_rfl
@[simp] theorem arw:bF X 75 = true:=by kernel_rfl
@[simp] theorem amf:bg X 75 = .ro 0 .pn 0:=by kernel_rfl
@[simp] theorem amg:sizeT X 78 = 1:=by kernel_rfl
@[simp] theorem ahU:bD X 78 = 0:=by kernel_rfl
@[simp] theorem arx:okT X 78 = true:=by kernel_rfl
@[simp] theorem ahV:bf X 78 = false:=by kernel_rfl
@[simp] theorem ahW:bK X 78 = false:=by kernel_rfl
@[simp] theorem ahX:bP X 78 = false:=by kernel_rfl
@[simp] theorem amh:fU X 78 = false:=by kernel_rfl
@[simp] theorem arz:bF X 78 = true:=by kernel_rfl
@[simp] theorem ami:sizeT X 80 = 1:=by kernel_rfl
@[simp] theorem ahY:bD X 80 = 0:=by kernel_rfl
@[simp] theorem arA:okT X 80 = true:=by kernel_rfl
@[simp] theorem ahZ:bf X 80 = false:=by kernel_rfl
@[simp] theorem ah0:bK X 80 = false:=by kernel_rfl
@[simp] theorem ah1:bP X 80 = false:=by kernel_rfl
@[simp] theorem amj:fU X 80 = false:=by kernel_rfl
@[simp] theorem arB:bF X 80 = true:=by kernel_rfl
@[simp] theorem amk:sizeT X 82 = 1:=by kernel_rfl
@[simp] theorem ah2:bD X 82 = 0:=by kernel_rfl
@[simp] theorem arC:okT X 82 = true:=by kernel_rfl
@[simp] theorem ah3:bf X 82 = false:=by kernel_rfl
@[simp] theorem ah4:bK X 82 = false:=by kernel_rfl
@[simp] theorem ah5:bP X 82 = false:=by kernel_rfl
@[simp] theorem aml:fU X 82 = false:=by kernel_rfl
@[simp] theorem arD:bF X 82 = true:=by kernel_rfl
@[simp] theorem amm:sizeT X 84 = 1:=by kernel_rfl
@[simp] theorem ah6:bD X 84 = 0:=by kernel_rfl
@[simp] theorem arE:okT X 84 = true:=by kernel_rfl
@[simp] theorem ah7:bf X 84 = false:=by kernel_rfl
@[simp] theorem ah8:bK X 84 = false:=by kernel_rfl
@[simp] theorem ah9:bP X 84 = false:=by kernel_rfl
@[simp] theorem amn:fU X 84 = false:=by kernel_rfl
@[simp] theorem arF:bF X 84 = true:=by kernel_rfl
@[simp] theorem arG:und X 86 = .pointer 88:=by kernel_rfl
@[simp] theorem amo:sizeT X 86 = 1:=by kernel_rfl
@[simp] theorem aia:bD X 86 = 8:=by kernel_rfl
@[simp] theorem arH:okT X 86 = true:=by kernel_rfl
@[simp] theorem aib:bf X 86 = false:=by kernel_rfl
@[simp] theorem aic:bK X 86 = false:=by kernel_rfl
@[simp] theorem aie:bP X 86 = false:=by kernel_rfl
@[simp] theorem amq:fU X 86 = false:=by kernel_rfl
@[simp] theorem arI:bF X 86 = true:=by kernel_rfl
@[simp] theorem amr:bg X 86 = .gI:=by kernel_rfl
@[simp] theorem ams:sizeT X 88 = 2:=by kernel_rfl
@[simp] theorem aif:bD X 88 = 32:=by kernel_rfl
@[simp] theorem arJ:okT X 88 = true:=by kernel_rfl
@[simp] theorem aii:bf X 88 = true:=by kernel_rfl
@[simp] theorem aij:bK X 88 = false:=by kernel_rfl
@[simp] theorem aik:bP X 88 = false:=by kernel_rfl
@[simp] theorem amu:fU X 88 = false:=by kernel_rfl
@[simp] theorem arK:bF X 88 = true:=by kernel_rfl
@[simp] theorem amv:bg X 88 = .agg (.pc [.ro 0 .pn 0,.int .i64 0]):=by kernel_rfl
@[simp] theorem amw:sizeT X 89 = 1:=by kernel_rfl
@[simp] theorem ail:bD X 89 = 8:=by kernel_rfl
@[simp] theorem arL:okT X 89 = true:=by kernel_rfl
@[simp] theorem ain:bf X 89 = false:=by kernel_rfl
@[simp] theorem aio:bK X 89 = false:=by kernel_rfl
@[simp] theorem aip:bP X 89 = false:=by kernel_rfl
@[simp] theorem amx:fU X 89 = false:=by kernel_rfl
@[simp] theorem arM:bF X 89 = true:=by kernel_rfl
@[simp] theorem amy:bg X 89 = .jJ:=by kernel_rfl
@[simp] theorem amA:sizeT X 91 = 3:=by kernel_rfl
@[simp] theorem aiq:bD X 91 = 24:=by kernel_rfl
@[simp] theorem arN:okT X 91 = true:=by kernel_rfl
@[simp] theorem air:bf X 91 = true:=by kernel_rfl
@[simp] theorem ais:bK X 91 = false:=by kernel_rfl
@[simp] theorem ait:bP X 91 = false:=by kernel_rfl
@[simp] theorem amB:fU X 91 = false:=by kernel_rfl
@[simp] theorem arO:bF X 91 = true:=by kernel_rfl
@[simp] theorem amC:bg X 91 = .agg (.pc [.int .i64 0,.int .i64 0,.int .u8 0]):=by kernel_rfl
@[simp] theorem amD:sizeT X 92 = 1:=by kernel_rfl
@[simp] theorem aiu:bD X 92 = 0:=by kernel_rfl
@[simp] theorem arP:okT X 92 = true:=by kernel_rfl
@[simp] theorem aiv:bf X 92 = false:=by kernel_rfl
@[simp] theorem aiw:bK X 92 = false:=by kernel_rfl
@[simp] theorem aix:bP X 92 = false:=by kernel_rfl
@[simp] theorem amE:fU X 92 = false:=by kernel_rfl
@[simp] theorem arQ:bF X 92 = true:=by kernel_rfl
@[simp] theorem arR:und X 94 = .map 95 36:=by kernel_rfl
@[simp] theorem amF:sizeT X 94 = 1:=by kernel_rfl
@[simp] theorem aiy:bD X 94 = 8:=by kernel_rfl
@[simp] theorem arS:okT X 94 = true:=by kernel_rfl
@[simp] theorem aiz:bf X 94 = false:=by kernel_rfl
@[simp] theorem aiA:bK X 94 = false:=by kernel_rfl
@[simp] theorem aiB:bP X 94 = false:=by kernel_rfl
@[simp] theorem amG:fU X 94 = false:=by kernel_rfl
@[simp] theorem arT:bF X 94 = true:=by kernel_rfl
@[simp] theorem amH:bg X 94 = .iD:=by kernel_rfl
@[simp] theorem arU:und X 95 = .array 3 5:=by kernel_rfl
@[simp] theorem amI:sizeT X 95 = 3:=by kernel_rfl
@[simp] theorem aiC:bD X 95 = 3:=by kernel_rfl
@[simp] theorem arV:okT X 95 = true:=by kernel_rfl
@[simp] theorem aiD:bf X 95 = true:=by kernel_rfl
@[simp] theorem aiE:bK X 95 = false:=by kernel_rfl
@[simp] theorem aiF:bP X 95 = true:=by kernel_rfl
@[simp] theorem amJ:fU X 95 = false:=by kernel_rfl
@[simp] theorem arW:bF X 95 = true:=by kernel_rfl
@[simp] theorem amK:bg X 95 = .agg (.pb [0,0,0]):=by kernel_rfl
@[simp] theorem amL:sizeT X 96 = 1:=by kernel_rfl
@[simp] theorem aiG:bD X 96 = 8:=by kernel_rfl
@[simp] theorem arX:okT X 96 = true:=by kernel_rfl
@[simp] theorem aiH:bf X 96 = false:=by kernel_rfl
@[simp] theorem aiI:bK X 96 = false:=by kernel_rfl
@[simp] theorem aiJ:bP X 96 = false:=by kernel_rfl
@[simp] theorem amM:fU X 96 = false:=by kernel_rfl
@[simp] theorem arY:bF X 96 = true:=by kernel_rfl
@[simp] theorem amN:bg X 96 = .jJ:=by kernel_rfl
@[simp] theorem arZ:und X 98 = .pointer 100:=by kernel_rfl
@[simp] theorem amO:sizeT X 98 = 1:=by kernel_rfl
@[simp] theorem aiK:bD X 98 = 8:=by kernel_rfl
@[simp] theorem ar0:okT X 98 = true:=by kernel_rfl
@[simp] theorem aiL:bf X 98 = false:=by kernel_rfl
@[simp] theorem aiM:bK X 98 = false:=by kernel_rfl
@[simp] theorem aiN:bP X 98 = false:=by kernel_rfl
@[simp] theorem amP:fU X 98 = false:=by kernel_rfl
@[simp] theorem ar1:bF X 98 = true:=by kernel_rfl
@[simp] theorem amQ:bg X 98 = .gI:=by kernel_rfl
@[simp] theorem aiO:sizeT X 100 = 2:=by kernel_rfl
@[simp] theorem adW:bD X 100 = 32:=by kernel_rfl
@[simp] theorem amR:okT X 100 = true:=by kernel_rfl
@[simp] theorem adX:bf X 100 = true:=by kernel_rfl
@[simp] theorem adY:bK X 100 = false:=by kernel_rfl
@[simp] theorem adZ:bP X 100 = false:=by kernel_rfl
@[simp] theorem aiP:fU X 100 = false:=by kernel_rfl
@[simp] theorem amS:bF X 100 = true:=by kernel_rfl
@[simp] theorem aiQ:bg X 100 = .agg (.pc [.ro 0 .pn 0,.int .i64 0]):=by kernel_rfl
@[simp] theorem aiR:sizeT X 102 = 1:=by kernel_rfl
@[simp] theorem ad1:bD X 102 = 0:=by kernel_rfl
@[simp] theorem amT:okT X 102 = true:=by kernel_rfl
@[simp] theorem ad2:bf X 102 = false:=by kernel_rfl
@[simp] theorem ad3:bK X 102 = false:=by kernel_rfl
@[simp] theorem ad4:bP X 102 = false:=by kernel_rfl
@[simp] theorem aiS:fU X 102 = false:=by kernel_rfl
@[simp] theorem amU:bF X 102 = true:=by kernel_rfl
@[simp] theorem amV:und X 104 = .pointer 106:=by kernel_rfl
@[simp] theorem aiT:sizeT X 104 = 1:=by kernel_rfl
@[simp] theorem ad5:bD X 104 = 8:=by kernel_rfl
@[simp] theorem amW:okT X 104 = true:=by kernel_rfl
@[simp] theorem ad6:bf X 104 = false:=by kernel_rfl
@[simp] theorem ad7:bK X 104 = false:=by kernel_rfl
@[simp] theorem ad8:bP X 104 = false:=by kernel_rfl
@[simp] theorem aiU:fU X 104 = false:=by kernel_rfl
@[simp] theorem amX:bF X 104 = true:=by kernel_rfl
@[simp] theorem aiV:bg X 104 = .gI:=by kernel_rfl
@[simp] theorem aiW:sizeT X 106 = 5:=by kernel_rfl
@[simp] theorem ad9:bD X 106 = 72:=by kernel_rfl
@[simp] theorem amY:okT X 106 = true:=by kernel_rfl
@[simp] theorem aea:bf X 106 = true:=by kernel_rfl
@[simp] theorem aeb:bK X 106 = false:=by kernel_rfl
@[simp] theorem aec:bP X 106 = false:=by kernel_rfl
@[simp] theorem aiX:fU X 106 = false:=by kernel_rfl
@[simp] theorem amZ:bF X 106 = true:=by kernel_rfl
@[simp] theorem aiY:bg X 106 = .agg (.pc [.ro 0 .pn 0,.int .i64 0,.ro 0 .pn 0,.int .i64 0,.int .i64 0]):=by kernel_rfl
@[simp] theorem aa4:und X 107 = .slice 119:=by kernel_rfl
@[simp] theorem aiZ:sizeT X 107 = 1:=by kernel_rfl
@[simp] theorem aed:bD X 107 = 24:=by kernel_rfl
@[simp] theorem am0:okT X 107 = true:=by kernel_rfl
@[simp] theorem aee:bf X 107 = false:=by kernel_rfl
@[simp] theorem aef:bK X 107 = false:=by kernel_rfl
@[simp] theorem aeg:bP X 107 = false:=by kernel_rfl
@[simp] theorem ai0:fU X 107 = false:=by kernel_rfl
@[simp] theorem am1:bF X 107 = true:=by kernel_rfl
@[simp] theorem ai1:bg X 107 = .ro 0 .pn 0:=by kernel_rfl
@[simp] theorem ai2:sizeT X 110 = 1:=by kernel_rfl
@[simp] theorem aeh:bD X 110 = 0:=by kernel_rfl
@[simp] theorem am2:okT X 110 = true:=by kernel_rfl
@[simp] theorem aei:bf X 110 = false:=by kernel_rfl
@[simp] theorem aej:bK X 110 = false:=by kernel_rfl
@[simp] theorem aek:bP X 110 = false:=by kernel_rfl
@[simp] theorem ai3:fU X 110 = false:=by kernel_rfl
@[simp] theorem am3:bF X 110 = true:=by kernel_rfl
@[simp] theorem am4:und X 112 = .array 16 3:=by kernel_rfl
@[simp] theorem ai4:sizeT X 112 = 16:=by kernel_rfl
@[simp] theorem ael:bD X 112 = 128:=by kernel_rfl
@[simp] theorem am5:okT X 112 = true:=by kernel_rfl
@[simp] theorem aem:bf X 112 = true:=by kernel_rfl
@[simp] theorem aen:bK X 112 = false:=by kernel_rfl
@[simp] theorem aeo:bP X 112 = true:=by kernel_rfl
@[simp] theorem ai5:fU X 112 = false:=by kernel_rfl
@[simp] theorem am6:bF X 112 = true:=by kernel_rfl
@[simp] theorem ai6:bg X 112 = .agg (.pi .i64 [0,0,0,0,0,0,0,0,0,0,0,0,0,0,0,0]):=by kernel_rfl
@[simp] theorem ai7:sizeT X 113 = 1:=by kernel_rfl
@[simp] theorem aep:bD X 113 = 0:=by kernel_rfl
@[simp] theorem am7:okT X 113 = true:=by kernel_rfl
@[simp] theorem aer:bf X 113 = false:=by kernel_rfl
@[simp] theorem aes:bK X 113 = false:=by kernel_rfl
@[simp] theorem aeu:bP X 113 = false:=by kernel_rfl
@[simp] theorem ai8:fU X 113 = false:=by kernel_rfl
@[simp] theorem am8:bF X 113 = true:=by kernel_rfl
@[simp] theorem am9:und X 115 = .array 17 3:=by kernel_rfl
@[simp] theorem ai9:sizeT X 115 = 17:=by kernel_rfl
@[simp] theorem aev:bD X 115 = 136:=by kernel_rfl
@[simp] theorem ana:okT X 115 = true:=by kernel_rfl
@[simp] theorem aew:bf X 115 = true:=by kernel_rfl
@[simp] theorem aex:bK X 115 = false:=by kernel_rfl
@[simp] theorem aey:bP X 115 = true:=by kernel_rfl
@[simp] theorem aja:fU X 115 = false:=by kernel_rfl
@[simp] theorem anb:bF X 115 = true:=by kernel_rfl
@[simp] theorem ajb:bg X 115 = .agg (.pi .i64 [0,0,0,0,0,0,0,0,0,0,0,0,0,0,0,0,0]):=by kernel_rfl
@[simp] theorem YO:sizeT X 119 = 4:=by kernel_rfl
@[simp] theorem aez:bD X 119 = 32:=by kernel_rfl
@[simp] theorem anc:okT X 119 = true:=by kernel_rfl
@[simp] theorem aeA:bf X 119 = true:=by kernel_rfl
@[simp] theorem aeB:bK X 119 = false:=by kernel_rfl
@[simp] theorem aeC:bP X 119 = false:=by kernel_rfl
@[simp] theorem ajc:fU X 119 = false:=by kernel_rfl
@[simp] theorem aa5:bF X 119 = true:=by kernel_rfl
@[simp] theorem ajd:bg X 119 = .agg (.pc [.int .i64 0,.bool false,.int .i64 0,.int .i64 0]):=by kernel_rfl
@[simp] theorem ane:und X 125 = .array 19 3:=by kernel_rfl
@[simp] theorem aje:sizeT X 125 = 19:=by kernel_rfl
@[simp] theorem aeD:bD X 125 = 152:=by kernel_rfl
@[simp] theorem anf:okT X 125 = true:=by kernel_rfl
@[simp] theorem aeE:bf X 125 = true:=by kernel_rfl
@[simp] theorem aeF:bK X 125 = false:=by kernel_rfl
@[simp] theorem aeG:bP X 125 = true:=by kernel_rfl
@[simp] theorem ajf:fU X 125 = false:=by kernel_rfl
@[simp] theorem ang:bF X 125 = true:=by kernel_rfl
@[simp] theorem ajg:bg X 125 = .agg (.pi .i64 [0,0,0,0,0,0,0,0,0,0,0,0,0,0,0,0,0,0,0]):=by kernel_rfl
@[simp] theorem ajh:sizeT X 128 = 1:=by kernel_rfl
@[simp] theorem aeH:bD X 128 = 0:=by kernel_rfl
@[simp] theorem anh:okT X 128 = true:=by kernel_rfl
@[simp] theorem aeI:bf X 128 = false:=by kernel_rfl
@[simp] theorem aeJ:bK X 128 = false:=by kernel_rfl
@[simp] theorem aeK:bP X 128 = false:=by kernel_rfl
@[simp] theorem aji:fU X 128 = false:=by kernel_rfl
@[simp] theorem ani:bF X 128 = true:=by kernel_rfl
@[simp] theorem anj:und X 130 = .array 2 3:=by kernel_rfl
@[simp] theorem ajj:sizeT X 130 = 2:=by kernel_rfl
@[simp] theorem aeL:bD X 130 = 16:=by kernel_rfl
@[simp] theorem ank:okT X 130 = true:=by kernel_rfl
@[simp] theorem aeM:bf X 130 = true:=by kernel_rfl
@[simp] theorem aeN:bK X 130 = false:=by kernel_rfl
@[simp] theorem aeO:bP X 130 = true:=by kernel_rfl
@[simp] theorem ajk:fU X 130 = false:=by kernel_rfl
@[simp] theorem anl:bF X 130 = true:=by kernel_rfl
@[simp] theorem ajl:bg X 130 = .agg (.pi .i64 [0,0]):=by kernel_rfl
@[simp] theorem anm:und X 131 = .array 29 130:=by kernel_rfl
@[simp] theorem ajm:sizeT X 131 = 58:=by kernel_rfl
@[simp] theorem aeP:bD X 131 = 464:=by kernel_rfl
@[simp] theorem ano:okT X 131 = true:=by kernel_rfl
@[simp] theorem aeQ:bf X 131 = true:=by kernel_rfl
@[simp] theorem aeR:bK X 131 = false:=by kernel_rfl
@[simp] theorem aeS:bP X 131 = true:=by kernel_rfl
@[simp] theorem ajn:fU X 131 = false:=by kernel_rfl
@[simp] theorem anp:bF X 131 = true:=by kernel_rfl
@[simp] theorem ajo:bg X 131 = .agg (.pr 2 [.pc [.int .i64 0,.int .i64 0],.pc [.int .i64 0,.int .i64 0],.pc [.int .i64 0,.int .i64 0],.pc [.int .i64 0,.int .i64 0],.pc [.int .i64 0,.int .i64 0],.pc [.int .i64 0,.int .i64 0],.pc [.int .i64 0,.int .i64 0],.pc [.int .i64 0,.int .i64 0],.pc [.int .i64 0,.int .i64 0],.pc [.int .i64 0,.int .i64 0],.pc [.int .i64 0,.int .i64 0],.pc [.int .i64 0,.int .i64 0],.pc [.int .i64 0,.int .i64 0],.pc [.int .i64 0,.int .i64 0],.pc [.int .i64 0,.int .i64 0],.pc [.int .i64 0,.int .i64 0],.pc [.int .i64 0,.int .i64 0],.pc [.int .i64 0,.int .i64 0],.pc [.int .i64 0,.int .i64 0],.pc [.int .i64 0,.int .i64 0],.pc [.int .i64 0,.int .i64 0],.pc [.int .i64 0,.int .i64 0],.pc [.int .i64 0,.int .i64 0],.pc [.int .i64 0,.int .i64 0],.pc [.int .i64 0,.int .i64 0],.pc [.int .i64 0,.int .i64 0],.pc [.int .i64 0,.int .i64 0],.pc [.int .i64 0,.int .i64 0],.pc [.int .i64 0,.int .i64 0]]):=by kernel_rfl
@[simp] theorem ajp:sizeT X 132 = 1:=by kernel_rfl
@[simp] theorem aeT:bD X 132 = 8:=by kernel_rfl
@[simp] theorem anq:okT X 132 = true:=by kernel_rfl
@[simp] theorem aeU:bf X 132 = false:=by kernel_rfl
@[simp] theorem aeV:bK X 132 = false:=by kernel_rfl
@[simp] theorem aeW:bP X 132 = false:=by kernel_rfl
@[simp] theorem ajq:fU X 132 = false:=by kernel_rfl
@[simp] theorem anr:bF X 132 = true:=by kernel_rfl
@[simp] theorem ajr:bg X 132 = .jJ:=by kernel_rfl
@[simp] theorem ant:und X 134 = .array 16 36:=by kernel_rfl
@[simp] theorem ajs:sizeT X 134 = 16:=by kernel_rfl
@[simp] theorem aeX:bD X 134 = 384:=by kernel_rfl
@[simp] theorem anu:okT X 134 = true:=by kernel_rfl
@[simp] theorem aeY:bf X 134 = true:=by kernel_rfl
@[simp] theorem aeZ:bK X 134 = false:=by kernel_rfl
@[simp] theorem ae0:bP X 134 = true:=by kernel_rfl
@[simp] theorem ajt:fU X 134 = false:=by kernel_rfl
@[simp] theorem anv:bF X 134 = true:=by kernel_rfl
@[simp] theorem aju:bg X 134 = .agg (.pc [.ro 0 .pn 0,.ro 0 .pn 0,.ro 0 .pn 0,.ro 0 .pn 0,.ro 0 .pn 0,.ro 0 .pn 0,.ro 0 .pn 0,.ro 0 .pn 0,.ro 0 .pn 0,.ro 0 .pn 0,.ro 0 .pn 0,.ro 0 .pn 0,.ro 0 .pn 0,.ro 0 .pn 0,.ro 0 .pn 0,.ro 0 .pn 0]):=by kernel_rfl
@[simp] theorem anw (H:AM.Heap) (x:AV):aZ X H 43 x 0 = faV H x 0:=bC (ty:=3) (by kernel_rfl) (by kernel_rfl) H x
@[simp] theorem anx (x:AV):fG X 43 x 0 = fvV X x 0 3:=dH (by kernel_rfl) x
@[simp] theorem anz (H:AM.Heap) (x:AV):aZ X H 43 x 1 = faV H x 1:=bC (ty:=5) (by kernel_rfl) (by kernel_rfl) H x
@[simp] theorem anA (x:AV):fG X 43 x 1 = fvV X x 1 5:=dH (by kernel_rfl) x
@[simp] theorem anB (H:AM.Heap) (x:AV):aZ X H 43 x 2 = faV H x 2:=bC (ty:=22) (by kernel_rfl) (by kernel_rfl) H x
@[simp] theorem anC (x:AV):fG X 43 x 2 = fvV X x 2 22:=dH (by kernel_rfl) x
@[simp] theorem anD (H:AM.Heap) (x:AV):aZ X H 43 x 3 = faV H x 3:=bC (ty:=25) (by kernel_rfl) (by kernel_rfl) H x
@[simp] theorem anE (x:AV):fG X 43 x 3 = fvV X x 3 25:=dH (by kernel_rfl) x
@[simp] theorem anF (H:AM.Heap) (x:AV):aZ X H 55 x 2 = faV H x 2:=bC (ty:=22) (by kernel_rfl) (by kernel_rfl) H x
@[simp] theorem anG (x:AV):fG X 55 x 2 = fvV X x 2 22:=dH (by kernel_rfl) x
@[simp] theorem anH (H:AM.Heap) (x:AV):aZ X H 65 x 0 = faV H x 0:=bC (ty:=3) (by kernel_rfl) (by kernel_rfl) H x
@[simp] theorem anI (x:AV):fG X 65 x 0 = fvV X x 0 3:=dH (by kernel_rfl) x
@[simp] theorem anJ (H:AM.Heap) (x:AV):aZ X H 65 x 1 = faV H x 1:=bC (ty:=3) (by kernel_rfl) (by kernel_rfl) H x
@[simp] theorem anK (x:AV):fG X 65 x 1 = fvV X x 1 3:=dH (by kernel_rfl) x
@[simp] theorem anL (H:AM.Heap) (x:AV):aZ X H 65 x 2 = faV H x 2:=bC (ty:=5) (by kernel_rfl) (by kernel_rfl) H x
@[simp] theorem anM (x:AV):fG X 65 x 2 = fvV X x 2 5:=dH (by kernel_rfl) x
@[simp] theorem anN (H:AM.Heap) (x:AV):aZ X H 65 x 3 = faV H x 3:=bC (ty:=22) (by kernel_rfl) (by kernel_rfl) H x
@[simp] theorem anO (x:AV):fG X 65 x 3 = fvV X x 3 22:=dH (by kernel_rfl) x
@[simp] theorem anP (H:AM.Heap) (x:AV):aZ X H 65 x 4 = faV H x 4:=bC (ty:=22) (by kernel_rfl) (by kernel_rfl) H x
@[simp] theorem anQ (x:AV):fG X 65 x 4 = fvV X x 4 22:=dH (by kernel_rfl) x
@[simp] theorem anR (H:AM.Heap) (x:AV):aZ X H 65 x 5 = faV H x 5:=bC (ty:=5) (by kernel_rfl) (by kernel_rfl) H x
@[simp] theorem anS (x:AV):fG X 65 x 5 = fvV X x 5 5:=dH (by kernel_rfl) x
@[simp] theorem anT (H:AM.Heap) (x:AV):aZ X H 65 x 6 = faV H x 6:=bC (ty:=4) (by kernel_rfl) (by kernel_rfl) H x
@[simp] theorem anU (x:AV):fG X 65 x 6 = fvV X x 6 4:=dH (by kernel_rfl) x
@[simp] theorem anV (H:AM.Heap) (x:AV):aZ X H 65 x 7 = faV H x 7:=bC (ty:=25) (by kernel_rfl) (by kernel_rfl) H x
@[simp] theorem anW (x:AV):fG X 65 x 7 = fvV X x 7 25:=dH (by kernel_rfl) x
@[simp] theorem anX (H:AM.Heap) (x:AV):aZ X H 88 x 0 = faV H x 0:=bC (ty:=22) (by kernel_rfl) (by kernel_rfl) H x
@[simp] theorem anY (x:AV):fG X 88 x 0 = fvV X x 0 22:=dH (by kernel_rfl) x
@[simp] theorem anZ (H:AM.Heap) (x:AV):aZ X H 88 x 1 = faV H x 1:=bC (ty:=3) (by kernel_rfl) (by kernel_rfl) H x
@[simp] theorem an0 (x:AV):fG X 88 x 1 = fvV X x 1 3:=dH (by kernel_rfl) x
@[simp] theorem an1 (H:AM.Heap) (x:AV):aZ X H 91 x 0 = faV H x 0:=bC (ty:=3) (by kernel_rfl) (by kernel_rfl) H x
@[simp] theorem an2 (x:AV):fG X 91 x 0 = fvV X x 0 3:=dH (by kernel_rfl) x
@[simp] theorem an3 (H:AM.Heap) (x:AV):aZ X H 91 x 1 = faV H x 1:=bC (ty:=3) (by kernel_rfl) (by kernel_rfl) H x
@[simp] theorem an4 (x:AV):fG X 91 x 1 = fvV X x 1 3:=dH (by kernel_rfl) x
@[simp] theorem an5 (H:AM.Heap) (x:AV):aZ X H 91 x 2 = faV H x 2:=bC (ty:=5) (by kernel_rfl) (by kernel_rfl) H x
@[simp] theorem an6 (x:AV):fG X 91 x 2 = fvV X x 2 5:=dH (by kernel_rfl) x
@[simp] theorem ajv (H:AM.Heap) (x:AV):aZ X H 100 x 0 = faV H x 0:=bC (ty:=22) (by kernel_rfl) (by kernel_rfl) H x
@[simp] theorem ajw (x:AV):fG X 100 x 0 = fvV X x 0 22:=dH (by kernel_rfl) x
@[simp] theorem ajx (H:AM.Heap) (x:AV):aZ X H 100 x 1 = faV H x 1:=bC (ty:=3) (by kernel_rfl) (by kernel_rfl) H x
@[simp] theorem ajy (x:AV):fG X 100 x 1 = fvV X x 1 3:=dH (by kernel_rfl) x
@[simp] theorem ajz (H:AM.Heap) (x:AV):aZ X H 106 x 0 = faV H x 0:=bC (ty:=22) (by kernel_rfl) (by kernel_rfl) H x
@[simp] theorem ajA (x:AV):fG X 106 x 0 = fvV X x 0 22:=dH (by kernel_rfl) x
@[simp] theorem ajB (H:AM.Heap) (x:AV):aZ X H 106 x 1 = faV H x 1:=bC (ty:=3) (by kernel_rfl) (by kernel_rfl) H x
@[simp] theorem ajC (x:AV):fG X 106 x 1 = fvV X x 1 3:=dH (by kernel_rfl) x
@[simp] theorem ajD (H:AM.Heap) (x:AV):aZ X H 106 x 2 = faV H x 2:=bC (ty:=22) (by kernel_rfl) (by kernel_rfl) H x
@[simp] theorem ajE (x:AV):fG X 106 x 2 = fvV X x 2 22:=dH (by kernel_rfl) x
@[simp] theorem ajF (H:AM.Heap) (x:AV):aZ X H 106 x 3 = faV H x 3:=bC (ty:=3) (by kernel_rfl) (by kernel_rfl) H x
@[simp] theorem ajG (x:AV):fG X 106 x 3 = fvV X x 3 3:=dH (by kernel_rfl) x
@[simp] theorem ajH (H:AM.Heap) (x:AV):aZ X H 106 x 4 = faV H x 4:=bC (ty:=25) (by kernel_rfl) (by kernel_rfl) H x
@[simp] theorem ajI (x:AV):fG X 106 x 4 = fvV X x 4 25:=dH (by kernel_rfl) x
@[simp] theorem ajJ (H:AM.Heap) (x:AV):aZ X H 119 x 0 = faV H x 0:=bC (ty:=3) (by kernel_rfl) (by kernel_rfl) H x
@[simp] theorem ajK (x:AV):fG X 119 x 0 = fvV X x 0 3:=dH (by kernel_rfl) x
@[simp] theorem ajL (H:AM.Heap) (x:AV):aZ X H 119 x 1 = faV H x 1:=bC (ty:=4) (by kernel_rfl) (by kernel_rfl) H x
@[simp] theorem ajM (x:AV):fG X 119 x 1 = fvV X x 1 4:=dH (by kernel_rfl) x
@[simp] theorem ajN (H:AM.Heap) (x:AV):aZ X H 119 x 3 = faV H x 3:=bC (ty:=3) (by kernel_rfl) (by kernel_rfl) H x
@[simp] theorem ajO (x:AV):fG X 119 x 3 = fvV X x 3 3:=dH (by kernel_rfl) x
end Go.Proofs.Ytbodincpjijdiaa
