/- X to X: texts of this claim, one behind the other; what each shows stands at its head. -/
import Derived.Test.YteblpjhkgdpchaaRows
import Derived.Test.YteblpjhkgdpchaaAm4
set_option linter.unusedSimpArgs false
set_option linter.unusedVariables false
set_option maxRecDepth 100000
set_option maxHeartbeats 8000000
namespace Go.Proofs.Yteblpjhkgdpchaa
open Go.AM
def fH:List (List (List Nat)):=[[],[],[],[],[[0],[0,5],[2],[0,8],[2],[0,3],[2]],[],[],[],[],[[0,1],[0,1,10],[4],[0,1,5],[0,1,5,14],[0,1,5],[0,1,5,25],[4],[4]],[[1],[1,3],[1,3,4],[1,3,4,5],[1,3,4,5,6],[1,3,4,5,6,18],[1,3,4,5,6,7,8],[1,3,4,5,6,7,8,23],[1,3,4,5,6,7,8,9],[1,3,4,5,6,7,8,9,10],[1,3,4,5,6,7,8,9,10,58],[1,3,4,5,6,7,8,9,10],[1,3,4,5,6,7,8,9,10,11],[1,3,4,5,6,7,8,9,10,11,70],[1,3,4,5,6,7,8,9,10],[1,3,4,5,6,7,8,12],[1,3,4,5,6,7,8,12,84],[1,3,4,5,6,12],[1,3,4,5,6,12],[1,3,4,5,6,94,95],[1,3,4,5,6,94,95,96],[1,3,4,5,6,94,95],[1,3,4,5,6,94,95],[1,3,4,5,6,94,95],[2]],[[0,1],[4]],[[0],[0,3],[3,5],[3,5,18],[2],[2]],[[0],[0,3],[0,3,4],[0,3,4,5],[0,3,4,5,14],[0,3,4,5],[0,3,4,5],[0,3,4,5],[0,3,4,5],[0,3,4,5],[0,3,4,5],[0,3,4,5],[0,3,5],[0,3,58],[2]],[[0],[0,4],[4,7,8,9],[4,7,8,9,10],[4,6,7,8,9],[4,6,7,8,9,15],[2,3],[4,6,7,8,9,18],[4,7,8,9],[4,6,7,8,9,28],[2,3],[4,6,7,8,9,30,31],[4,6,7,8,9,30,31,32],[4,6,7,8,9,30,31],[4,6,7,8,9,30,31],[4,7,8,9],[2,3]],[[],[0]],[[0],[2]],[[0],[0,3],[0,3,4],[0,3,4,12],[0,3,4,5,6],[0,3,4,5,6,7],[0,3,4,5,6,7,23],[0,3,4,5,6,7],[0,3,4,5,6,7,8],[0,3,4,5,6,7,8,32],[0,3,4,5,6,7],[0,3,4,5,6,36],[0,3,4,5],[0,3,4],[0,3,4],[0,3,4],[2]],[[0],[0,3],[0,3,4],[0,3,4,14],[0,3,4,5],[0,3,4,5,6],[0,3,4,5,6,25],[0,3,4,5,6],[0,3,4,5,6],[0,3,4,5,6],[0,3,4,6],[0,3,4,54],[2],[2]],[[0],[0,3],[3,5],[3,5,18],[2],[2]],[[0,1],[0,1,18],[4],[5],[5,6],[5,6,33],[5,6],[5,6,40],[4],[4]],[],[[0],[0,5],[0,5,24],[2,3],[0,6,7],[0,6,7,8],[0,6,7,8,10],[0,6,7,8,10,12],[0,6,7,8,10,12],[0,6,7,8,10,12],[6,7,8,10,12,46,47,48],[6,7,8,10,12,46,47,48,49],[6,7,8,10,12,14,46,47,48],[6,7,8,10,12,14,46,47,48,54],[6,7,8,10,12,46,47,48],[6,7,8,10,12,14,15,16,17,46,47,48],[6,7,8,10,12,14,16,17,46,47,48],[6,7,8,10,12,14,46,47,48],[6,7,8,10,12,14,15,16,17,46,47,48],[6,7,8,10,12,14,16,17,46,47,48],[6,7,8,10,12,46,47,48],[6,7,8,10,12,46,47,48],[12],[2,3]],[[0,1,2,9],[0,2,4],[]],[[0,1,2],[0,1,2,7],[0,1,2,7,32],[0,1,2,7],[6]],[[0,1,7,8],[0,1,7,8,9],[0,1,6,7,8],[0,1,7,8],[0,1,7,8]],[[1],[1,5],[2],[2]],[[0,1,2],[0,1,2,7],[0,1,2,7,34],[0,1,2,7],[6]],[[0],[0,5],[0,5,24],[2,3],[0,6,7],[0,6,7,8],[0,6,7,8,10],[0,6,7,8,10,12],[0,6,7,8,10,12],[0,6,7,8,10,12],[0,6,7,8,10,12,13],[0,6,7,8,10,12,13,49],[0,6,7,8,10,12,13],[0,6,7,8,10,12,13,57],[0,6,7,8,10,12,13,14],[0,6,7,8,10,12,13],[0,6,7,8,10,12,13,15],[0,6,7,8,10,12,13,15,16,17],[0,6,7,8,10,12,13,16,17],[0,6,7,8,10,12,13],[0,6,7,8,10,12,13,15],[0,6,7,8,10,12,13,15,16,17],[0,6,7,8,10,12,13,16,17],[0,6,7,8,10,12,13],[12],[2,3]],[],[[0,1],[0,1,4],[0,1,4,5],[0,1,2,4],[0,1,2,3,4],[0,1,2,3,4,7],[0,1,3,4],[0,1,3,4,14],[0,1,3,4],[0,1,4],[0,1,4],[0,1,26],[0,1,26,27],[0,1,26],[0,1,26],[0,1]],[[0],[0,5],[0,5,18],[2,3],[0,6],[0,8],[0,8,9],[8,9,30,31,32],[8,9,30,31,32,33],[8,9,10,11,30,31,32],[8,9,10,11,30,31,32],[8,9,10,11,30,31,32,41],[8,9,11,30,31,32],[8,9,30,31,32],[8,9,30,31,32],[2,3]],[[0,1,6],[0,1,6,10],[0,1,6],[0,1,6]],[[0],[0,6],[2,3,4],[0,9],[2,3,4],[0,2,3],[0,2,3,4],[0,2,3,4],[0,2,3,4,15],[0,2,3,4,15,16],[0,2,3,4,15,22],[2,3,4],[0,2,3,4,15],[0,2,3,4,15]],[[0],[0,6],[2,3,4],[0,2,3],[0,2,3,4],[0,2,3,4],[0,2,3,4,12],[0,2,3,4,12,13],[0,2,3,4,12,19],[2,3,4],[0,2,3,4,12],[0,2,3,4,12]],[[0,1,9],[0,1],[0],[]],[[0],[0,4],[0,4,5],[0,4,5,10],[0,4,5],[0,4,5,18],[2,3],[0,4,5,24],[0,4,5],[0,4,5,40],[2,3],[0,4,5,6],[0,4,5,6,47],[0,4,5,6],[0,4,5,6],[2,3]],[[],[2,3],[2,3,4],[2,3,4,9],[2,3,4],[2,3,4],[2,3,4,16],[2,3,4],[2,3,4,21],[2,3,4],[2,3,4,26],[2,3,4],[2,3,5],[2,3,5,31],[2,3,5],[2,3,5],[0,1]],[[0],[0,5],[0,5,18],[2,3],[0,6],[0,6,7,8],[0,6,7,8,9],[0,6,7,8,9,24],[0,6,7,8,9],[0,6,7,8,9,10],[0,6,7,8,9,10,30],[0,6,7,8,9,10],[0,6,7,8,9,10,38],[0,6,7,8,9,10,40],[0,6,7,9,10],[0,6,7,8,9,10],[0,6,11],[0,6,11,56],[0,6,11],[0,6,11,63],[0,6,11],[2,3]],[[0,1,2,6],[0,1,2,6,9],[0,1,2,6],[0,1,2,6],[0,1,2,6]],[[0,1,6],[0,1,6,10],[0,1,6],[0,1,6],[0,1,6]],[[0],[0,8],[2],[0,3],[0,3,4],[0,3,4,10],[0,3,4],[0,3,4,5],[0,3,4,20],[0,3,4],[2]],[[0],[0,6],[2,3],[0,8],[2,3],[0,4],[2,3]],[[0],[0,3],[0,3,4],[0,3,4,8],[0,3,4],[0,3,4,5],[0,3,4,18],[0,3,4],[2]],[[0],[0,6],[2,3],[0,4],[2,3]],[],[],[],[],[],[[0],[3,4],[3,4,13],[2,3],[4,5],[4,5,6],[4,5,6,16],[4,5,6],[4,5,6],[5,28],[2,3],[2,3]],[[0,2],[0,2,4],[0,2,4,9],[2,3],[2,4,11,12,13],[2,4,11,12,13,14],[2,4,6,11,12,13],[2,4,6,11,12,13,22],[2,3],[2,4,11,12,13],[2,4,11,12,13],[2,3]],[[1,2],[1,2,3],[1,2,3],[1,2,3,4],[1,2,3,4,7],[1,2,3,4],[1,2,3,4],[2]],[[1],[1,5],[2],[2]],[[0],[0,8],[2,3],[0,4],[0,4,5],[0,4,5,12],[0,4,5],[0,4,5,26],[2,3],[0,4,5,31],[0,4,5],[4,42],[2,3],[2,3]],[[0,1,2],[0,1,2,9],[0,1,2],[0],[6]],[],[],[],[],[],[],[],[],[],[],[],[],[],[],[],[],[],[],[],[],[],[],[],[],[],[]]
noncomputable def X:AM.Ctx:={ P:=Try.prog,G:=fun _=>.none,rw:=fun f i=>(f == 55 && i == 0 || f == 20 && i == 0),keep:=fun f i=>((fH[f]?).getD [])[i]?,norm:=fun _ _=>false,dr:=fun _ _=>true,dy:=fun f id=>[(21,6),(21,7),(23,1),(29,19),(37,1),(48,9),(48,20),(58,3)].contains (f,id) }
theorem own:ownKnob Try.prog.godebug = .none:=by kernel_rfl
theorem full:∀ t e,t < Try.prog.types.size→Try.prog.underlying t = some (.slice e)→0 < Try.prog.cellsOf e:=slices_full_of Try.prog (by kernel_rfl)
theorem WC:AM.EW X:=AM.P5 (by kernel_rfl) (by kernel_rfl)
@[simp] theorem agP (f i:Nat):X.dr f i = true:=rfl
@[simp] theorem aaI (f i:Nat):X.norm f i = false:=rfl
@[simp] theorem agQ (f i:Nat):X.rw f i = ((f == 55 && i == 0 || f == 20 && i == 0)):=rfl
@[simp] theorem ael (i:Nat):X.keep 4 i = ([[0],[0,5],[2],[0,8],[2],[0,3],[2]]:List (List Nat))[i]?:=congrArg (fun (l:List (List Nat))=>l[i]?) (show (fH[4]?).getD [] = _ by kernel_rfl)
@[simp] theorem aem (i:Nat):X.keep 9 i = ([[0,1],[0,1,10],[4],[0,1,5],[0,1,5,14],[0,1,5],[0,1,5,25],[4],[4]]:List (List Nat))[i]?:=congrArg (fun (l:List (List Nat))=>l[i]?) (show (fH[9]?).getD [] = _ by kernel_rfl)
@[simp] theorem aaJ (i:Nat):X.keep 10 i = ([[1],[1,3],[1,3,4],[1,3,4,5],[1,3,4,5,6],[1,3,4,5,6,18],[1,3,4,5,6,7,8],[1,3,4,5,6,7,8,23],[1,3,4,5,6,7,8,9],[1,3,4,5,6,7,8,9,10],[1,3,4,5,6,7,8,9,10,58],[1,3,4,5,6,7,8,9,10],[1,3,4,5,6,7,8,9,10,11],[1,3,4,5,6,7,8,9,10,11,70],[1,3,4,5,6,7,8,9,10],[1,3,4,5,6,7,8,12],[1,3,4,5,6,7,8,12,84],[1,3,4,5,6,12],[1,3,4,5,6,12],[1,3,4,5,6,94,95],[1,3,4,5,6,94,95,96],[1,3,4,5,6,94,95],[1,3,4,5,6,94,95],[1,3,4,5,6,94,95],[2]]:List (List Nat))[i]?:=congrArg (fun (l:List (List Nat))=>l[i]?) (show (fH[10]?).getD [] = _ by kernel_rfl)
@[simp] theorem aaK (i:Nat):X.keep 11 i = ([[0,1],[4]]:List (List Nat))[i]?:=congrArg (fun (l:List (List Nat))=>l[i]?) (show (fH[11]?).getD [] = _ by kernel_rfl)
@[simp] theorem aaL (i:Nat):X.keep 12 i = ([[0],[0,3],[3,5],[3,5,18],[2],[2]]:List (List Nat))[i]?:=congrArg (fun (l:List (List Nat))=>l[i]?) (show (fH[12]?).getD [] = _ by kernel_rfl)
@[simp] theorem aaM (i:Nat):X.keep 13 i = ([[0],[0,3],[0,3,4],[0,3,4,5],[0,3,4,5,14],[0,3,4,5],[0,3,4,5],[0,3,4,5],[0,3,4,5],[0,3,4,5],[0,3,4,5],[0,3,4,5],[0,3,5],[0,3,58],[2]]:List (List Nat))[i]?:=congrArg (fun (l:List (List Nat))=>l[i]?) (show (fH[13]?).getD [] = _ by kernel_rfl)
@[simp] theorem aaN (i:Nat):X.keep 14 i = ([[0],[0,4],[4,7,8,9],[4,7,8,9,10],[4,6,7,8,9],[4,6,7,8,9,15],[2,3],[4,6,7,8,9,18],[4,7,8,9],[4,6,7,8,9,28],[2,3],[4,6,7,8,9,30,31],[4,6,7,8,9,30,31,32],[4,6,7,8,9,30,31],[4,6,7,8,9,30,31],[4,7,8,9],[2,3]]:List (List Nat))[i]?:=congrArg (fun (l:List (List Nat))=>l[i]?) (show (fH[14]?).getD [] = _ by kernel_rfl)
@[simp] theorem aaO (i:Nat):X.keep 15 i = ([[],[0]]:List (List Nat))[i]?:=congrArg (fun (l:List (List Nat))=>l[i]?) (show (fH[15]?).getD [] = _ by kernel_rfl)
@[simp] theorem aaP (i:Nat):X.keep 16 i = ([[0],[2]]:List (List Nat))[i]?:=congrArg (fun (l:List (List Nat))=>l[i]?) (show (fH[16]?).getD [] = _ by kernel_rfl)
@[simp] theorem aaQ (i:Nat):X.keep 17 i = ([[0],[0,3],[0,3,4],[0,3,4,12],[0,3,4,5,6],[0,3,4,5,6,7],[0,3,4,5,6,7,23],[0,3,4,5,6,7],[0,3,4,5,6,7,8],[0,3,4,5,6,7,8,32],[0,3,4,5,6,7],[0,3,4,5,6,36],[0,3,4,5],[0,3,4],[0,3,4],[0,3,4],[2]]:List (List Nat))[i]?:=congrArg (fun (l:List (List Nat))=>l[i]?) (show (fH[17]?).getD [] = _ by kernel_rfl)
@[simp] theorem aaR (i:Nat):X.keep 18 i = ([[0],[0,3],[0,3,4],[0,3,4,14],[0,3,4,5],[0,3,4,5,6],[0,3,4,5,6,25],[0,3,4,5,6],[0,3,4,5,6],[0,3,4,5,6],[0,3,4,6],[0,3,4,54],[2],[2]]:List (List Nat))[i]?:=congrArg (fun (l:List (List Nat))=>l[i]?) (show (fH[18]?).getD [] = _ by kernel_rfl)
@[simp] theorem aaS (i:Nat):X.keep 19 i = ([[0],[0,3],[3,5],[3,5,18],[2],[2]]:List (List Nat))[i]?:=congrArg (fun (l:List (List Nat))=>l[i]?) (show (fH[19]?).getD [] = _ by kernel_rfl)
@[simp] theorem aaT (i:Nat):X.keep 20 i = ([[0,1],[0,1,18],[4],[5],[5,6],[5,6,33],[5,6],[5,6,40],[4],[4]]:List (List Nat))[i]?:=congrArg (fun (l:List (List Nat))=>l[i]?) (show (fH[20]?).getD [] = _ by kernel_rfl)
@[simp] theorem aaU (i:Nat):X.keep 22 i = ([[0],[0,5],[0,5,24],[2,3],[0,6,7],[0,6,7,8],[0,6,7,8,10],[0,6,7,8,10,12],[0,6,7,8,10,12],[0,6,7,8,10,12],[6,7,8,10,12,46,47,48],[6,7,8,10,12,46,47,48,49],[6,7,8,10,12,14,46,47,48],[6,7,8,10,12,14,46,47,48,54],[6,7,8,10,12,46,47,48],[6,7,8,10,12,14,15,16,17,46,47,48],[6,7,8,10,12,14,16,17,46,47,48],[6,7,8,10,12,14,46,47,48],[6,7,8,10,12,14,15,16,17,46,47,48],[6,7,8,10,12,14,16,17,46,47,48],[6,7,8,10,12,46,47,48],[6,7,8,10,12,46,47,48],[12],[2,3]]:List (List Nat))[i]?:=congrArg (fun (l:List (List Nat))=>l[i]?) (show (fH[22]?).getD [] = _ by kernel_rfl)
@[simp] theorem aaV (i:Nat):X.keep 23 i = ([[0,1,2,9],[0,2,4],[]]:List (List Nat))[i]?:=congrArg (fun (l:List (List Nat))=>l[i]?) (show (fH[23]?).getD [] = _ by kernel_rfl)
@[simp] theorem aaW (i:Nat):X.keep 24 i = ([[0,1,2],[0,1,2,7],[0,1,2,7,32],[0,1,2,7],[6]]:List (List Nat))[i]?:=congrArg (fun (l:List (List Nat))=>l[i]?) (show (fH[24]?).getD [] = _ by kernel_rfl)
@[simp] theorem aaX (i:Nat):X.keep 25 i = ([[0,1,7,8],[0,1,7,8,9],[0,1,6,7,8],[0,1,7,8],[0,1,7,8]]:List (List Nat))[i]?:=congrArg (fun (l:List (List Nat))=>l[i]?) (show (fH[25]?).getD [] = _ by kernel_rfl)
@[simp] theorem aaY (i:Nat):X.keep 26 i = ([[1],[1,5],[2],[2]]:List (List Nat))[i]?:=congrArg (fun (l:List (List Nat))=>l[i]?) (show (fH[26]?).getD [] = _ by kernel_rfl)
@[simp] theorem aaZ (i:Nat):X.keep 27 i = ([[0,1,2],[0,1,2,7],[0,1,2,7,34],[0,1,2,7],[6]]:List (List Nat))[i]?:=congrArg (fun (l:List (List Nat))=>l[i]?) (show (fH[27]?).getD [] = _ by kernel_rfl)
@[simp] theorem aa0 (i:Nat):X.keep 28 i = ([[0],[0,5],[0,5,24],[2,3],[0,6,7],[0,6,7,8],[0,6,7,8,10],[0,6,7,8,10,12],[0,6,7,8,10,12],[0,6,7,8,10,12],[0,6,7,8,10,12,13],[0,6,7,8,10,12,13,49],[0,6,7,8,10,12,13],[0,6,7,8,10,12,13,57],[0,6,7,8,10,12,13,14],[0,6,7,8,10,12,13],[0,6,7,8,10,12,13,15],[0,6,7,8,10,12,13,15,16,17],[0,6,7,8,10,12,13,16,17],[0,6,7,8,10,12,13],[0,6,7,8,10,12,13,15],[0,6,7,8,10,12,13,15,16,17],[0,6,7,8,10,12,13,16,17],[0,6,7,8,10,12,13],[12],[2,3]]:List (List Nat))[i]?:=congrArg (fun (l:List (List Nat))=>l[i]?) (show (fH[28]?).getD [] = _ by kernel_rfl)
@[simp] theorem aa1 (i:Nat):X.keep 30 i = ([[0,1],[0,1,4],[0,1,4,5],[0,1,2,4],[0,1,2,3,4],[0,1,2,3,4,7],[0,1,3,4],[0,1,3,4,14],[0,1,3,4],[0,1,4],[0,1,4],[0,1,26],[0,1,26,27],[0,1,26],[0,1,26],[0,1]]:List (List Nat))[i]?:=congrArg (fun (l:List (List Nat))=>l[i]?) (show (fH[30]?).getD [] = _ by kernel_rfl)
@[simp] theorem aa2 (i:Nat):X.keep 31 i = ([[0],[0,5],[0,5,18],[2,3],[0,6],[0,8],[0,8,9],[8,9,30,31,32],[8,9,30,31,32,33],[8,9,10,11,30,31,32],[8,9,10,11,30,31,32],[8,9,10,11,30,31,32,41],[8,9,11,30,31,32],[8,9,30,31,32],[8,9,30,31,32],[2,3]]:List (List Nat))[i]?:=congrArg (fun (l:List (List Nat))=>l[i]?) (show (fH[31]?).getD [] = _ by kernel_rfl)
@[simp] theorem aa3 (i:Nat):X.keep 32 i = ([[0,1,6],[0,1,6,10],[0,1,6],[0,1,6]]:List (List Nat))[i]?:=congrArg (fun (l:List (List Nat))=>l[i]?) (show (fH[32]?).getD [] = _ by kernel_rfl)
@[simp] theorem aa4 (i:Nat):X.keep 33 i = ([[0],[0,6],[2,3,4],[0,9],[2,3,4],[0,2,3],[0,2,3,4],[0,2,3,4],[0,2,3,4,15],[0,2,3,4,15,16],[0,2,3,4,15,22],[2,3,4],[0,2,3,4,15],[0,2,3,4,15]]:List (List Nat))[i]?:=congrArg (fun (l:List (List Nat))=>l[i]?) (show (fH[33]?).getD [] = _ by kernel_rfl)
@[simp] theorem aa5 (i:Nat):X.keep 34 i = ([[0],[0,6],[2,3,4],[0,2,3],[0,2,3,4],[0,2,3,4],[0,2,3,4,12],[0,2,3,4,12,13],[0,2,3,4,12,19],[2,3,4],[0,2,3,4,12],[0,2,3,4,12]]:List (List Nat))[i]?:=congrArg (fun (l:List (List Nat))=>l[i]?) (show (fH[34]?).getD [] = _ by kernel_rfl)
@[simp] theorem aa6 (i:Nat):X.keep 35 i = ([[0,1,9],[0,1],[0],[]]:List (List Nat))[i]?:=congrArg (fun (l:List (List Nat))=>l[i]?) (show (fH[35]?).getD [] = _ by kernel_rfl)
@[simp] theorem aa7 (i:Nat):X.keep 36 i = ([[0],[0,4],[0,4,5],[0,4,5,10],[0,4,5],[0,4,5,18],[2,3],[0,4,5,24],[0,4,5],[0,4,5,40],[2,3],[0,4,5,6],[0,4,5,6,47],[0,4,5,6],[0,4,5,6],[2,3]]:List (List Nat))[i]?:=congrArg (fun (l:List (List Nat))=>l[i]?) (show (fH[36]?).getD [] = _ by kernel_rfl)
@[simp] theorem aa8 (i:Nat):X.keep 37 i = ([[],[2,3],[2,3,4],[2,3,4,9],[2,3,4],[2,3,4],[2,3,4,16],[2,3,4],[2,3,4,21],[2,3,4],[2,3,4,26],[2,3,4],[2,3,5],[2,3,5,31],[2,3,5],[2,3,5],[0,1]]:List (List Nat))[i]?:=congrArg (fun (l:List (List Nat))=>l[i]?) (show (fH[37]?).getD [] = _ by kernel_rfl)
@[simp] theorem abd (i:Nat):X.keep 38 i = ([[0],[0,5],[0,5,18],[2,3],[0,6],[0,6,7,8],[0,6,7,8,9],[0,6,7,8,9,24],[0,6,7,8,9],[0,6,7,8,9,10],[0,6,7,8,9,10,30],[0,6,7,8,9,10],[0,6,7,8,9,10,38],[0,6,7,8,9,10,40],[0,6,7,9,10],[0,6,7,8,9,10],[0,6,11],[0,6,11,56],[0,6,11],[0,6,11,63],[0,6,11],[2,3]]:List (List Nat))[i]?:=congrArg (fun (l:List (List Nat))=>l[i]?) (show (fH[38]?).getD [] = _ by kernel_rfl)
@[simp] theorem abe (i:Nat):X.keep 39 i = ([[0,1,2,6],[0,1,2,6,9],[0,1,2,6],[0,1,2,6],[0,1,2,6]]:List (List Nat))[i]?:=congrArg (fun (l:List (List Nat))=>l[i]?) (show (fH[39]?).getD [] = _ by kernel_rfl)
@[simp] theorem abf (i:Nat):X.keep 40 i = ([[0,1,6],[0,1,6,10],[0,1,6],[0,1,6],[0,1,6]]:List (List Nat))[i]?:=congrArg (fun (l:List (List Nat))=>l[i]?) (show (fH[40]?).getD [] = _ by kernel_rfl)
@[simp] theorem abg (i:Nat):X.keep 41 i = ([[0],[0,8],[2],[0,3],[0,3,4],[0,3,4,10],[0,3,4],[0,3,4,5],[0,3,4,20],[0,3,4],[2]]:List (List Nat))[i]?:=congrArg (fun (l:List (List Nat))=>l[i]?) (show (fH[41]?).getD [] = _ by kernel_rfl)
@[simp] theorem abh (i:Nat):X.keep 42 i = ([[0],[0,6],[2,3],[0,8],[2,3],[0,4],[2,3]]:List (List Nat))[i]?:=congrArg (fun (l:List (List Nat))=>l[i]?) (show (fH[42]?).getD [] = _ by kernel_rfl)
@[simp] theorem abj (i:Nat):X.keep 43 i = ([[0],[0,3],[0,3,4],[0,3,4,8],[0,3,4],[0,3,4,5],[0,3,4,18],[0,3,4],[2]]:List (List Nat))[i]?:=congrArg (fun (l:List (List Nat))=>l[i]?) (show (fH[43]?).getD [] = _ by kernel_rfl)
@[simp] theorem abk (i:Nat):X.keep 44 i = ([[0],[0,6],[2,3],[0,4],[2,3]]:List (List Nat))[i]?:=congrArg (fun (l:List (List Nat))=>l[i]?) (show (fH[44]?).getD [] = _ by kernel_rfl)
@[simp] theorem abl (i:Nat):X.keep 50 i = ([[0],[3,4],[3,4,13],[2,3],[4,5],[4,5,6],[4,5,6,16],[4,5,6],[4,5,6],[5,28],[2,3],[2,3]]:List (List Nat))[i]?:=congrArg (fun (l:List (List Nat))=>l[i]?) (show (fH[50]?).getD [] = _ by kernel_rfl)
@[simp] theorem abm (i:Nat):X.keep 51 i = ([[0,2],[0,2,4],[0,2,4,9],[2,3],[2,4,11,12,13],[2,4,11,12,13,14],[2,4,6,11,12,13],[2,4,6,11,12,13,22],[2,3],[2,4,11,12,13],[2,4,11,12,13],[2,3]]:List (List Nat))[i]?:=congrArg (fun (l:List (List Nat))=>l[i]?) (show (fH[51]?).getD [] = _ by kernel_rfl)
@[simp] theorem abn (i:Nat):X.keep 52 i = ([[1,2],[1,2,3],[1,2,3],[1,2,3,4],[1,2,3,4,7],[1,2,3,4],[1,2,3,4],[2]]:List (List Nat))[i]?:=congrArg (fun (l:List (List Nat))=>l[i]?) (show (fH[52]?).getD [] = _ by kernel_rfl)
@[simp] theorem abo (i:Nat):X.keep 53 i = ([[1],[1,5],[2],[2]]:List (List Nat))[i]?:=congrArg (fun (l:List (List Nat))=>l[i]?) (show (fH[53]?).getD [] = _ by kernel_rfl)
@[simp] theorem abp (i:Nat):X.keep 54 i = ([[0],[0,8],[2,3],[0,4],[0,4,5],[0,4,5,12],[0,4,5],[0,4,5,26],[2,3],[0,4,5,31],[0,4,5],[4,42],[2,3],[2,3]]:List (List Nat))[i]?:=congrArg (fun (l:List (List Nat))=>l[i]?) (show (fH[54]?).getD [] = _ by kernel_rfl)
@[simp] theorem abq (i:Nat):X.keep 55 i = ([[0,1,2],[0,1,2,9],[0,1,2],[0],[6]]:List (List Nat))[i]?:=congrArg (fun (l:List (List Nat))=>l[i]?) (show (fH[55]?).getD [] = _ by kernel_rfl)
attribute [go_sem] List.getElem?_cons_zero List.getElem?_cons_succ Go.AM.sV Go.AM.wY
@[simp] theorem nt4:gU X 4 = 35:=by kernel_rfl
@[simp] theorem agR:bodied X 4 = true:=by kernel_rfl
@[simp] theorem agS:aV X 4 = [28]:=by kernel_rfl
@[simp] theorem nt9:gU X 9 = 26:=by kernel_rfl
@[simp] theorem agT:bodied X 9 = true:=by kernel_rfl
@[simp] theorem abr:aV X 9 = [22,22]:=by kernel_rfl
@[simp] theorem agU:gU X 10 = 104:=by kernel_rfl
@[simp] theorem aen:bodied X 10 = true:=by kernel_rfl
@[simp] theorem VB:aV X 10 = [28]:=by kernel_rfl
@[simp] theorem agV:gU X 11 = 10:=by kernel_rfl
@[simp] theorem aeo:bodied X 11 = true:=by kernel_rfl
@[simp] theorem WE:aV X 11 = [28,28]:=by kernel_rfl
@[simp] theorem agW:gU X 12 = 21:=by kernel_rfl
@[simp] theorem aep:bodied X 12 = true:=by kernel_rfl
@[simp] theorem WG:aV X 12 = [28]:=by kernel_rfl
@[simp] theorem agX:gU X 13 = 63:=by kernel_rfl
@[simp] theorem aer:bodied X 13 = true:=by kernel_rfl
@[simp] theorem WH:aV X 13 = [28]:=by kernel_rfl
@[simp] theorem agY:gU X 14 = 47:=by kernel_rfl
@[simp] theorem aes:bodied X 14 = true:=by kernel_rfl
@[simp] theorem VI:aV X 14 = [22]:=by kernel_rfl
@[simp] theorem agZ:gU X 15 = 13:=by kernel_rfl
@[simp] theorem aeu:bodied X 15 = true:=by kernel_rfl
@[simp] theorem aev:aV X 15 = []:=by kernel_rfl
@[simp] theorem ag0:gU X 16 = 14:=by kernel_rfl
@[simp] theorem aew:bodied X 16 = true:=by kernel_rfl
@[simp] theorem WI:aV X 16 = [28]:=by kernel_rfl
@[simp] theorem ag1:gU X 17 = 57:=by kernel_rfl
@[simp] theorem aex:bodied X 17 = true:=by kernel_rfl
@[simp] theorem WJ:aV X 17 = [28]:=by kernel_rfl
@[simp] theorem ag2:gU X 18 = 57:=by kernel_rfl
@[simp] theorem aey:bodied X 18 = true:=by kernel_rfl
@[simp] theorem WL:aV X 18 = [28]:=by kernel_rfl
@[simp] theorem ag3:gU X 19 = 21:=by kernel_rfl
@[simp] theorem aez:bodied X 19 = true:=by kernel_rfl
@[simp] theorem WM:aV X 19 = [28]:=by kernel_rfl
@[simp] theorem ag4:gU X 20 = 41:=by kernel_rfl
@[simp] theorem aeA:bodied X 20 = true:=by kernel_rfl
@[simp] theorem WO:aV X 20 = [28,28]:=by kernel_rfl
@[simp] theorem ag5:gU X 22 = 128:=by kernel_rfl
@[simp] theorem aeB:bodied X 22 = true:=by kernel_rfl
@[simp] theorem WQ:aV X 22 = [22]:=by kernel_rfl
@[simp] theorem ag6:gU X 23 = 33:=by kernel_rfl
@[simp] theorem aeC:bodied X 23 = true:=by kernel_rfl
@[simp] theorem WR:aV X 23 = [3]:=by kernel_rfl
@[simp] theorem ag7:gU X 24 = 36:=by kernel_rfl
@[simp] theorem aeD:bodied X 24 = true:=by kernel_rfl
@[simp] theorem Wy:aV X 24 = [28,3,3]:=by kernel_rfl
@[simp] theorem ag8:gU X 25 = 17:=by kernel_rfl
@[simp] theorem aeE:bodied X 25 = true:=by kernel_rfl
@[simp] theorem Wi:aV X 25 = [44,3,3]:=by kernel_rfl
@[simp] theorem ag9:gU X 26 = 32:=by kernel_rfl
@[simp] theorem aeF:bodied X 26 = true:=by kernel_rfl
@[simp] theorem VD:aV X 26 = [25]:=by kernel_rfl
@[simp] theorem aha:gU X 27 = 38:=by kernel_rfl
@[simp] theorem aeG:bodied X 27 = true:=by kernel_rfl
@[simp] theorem WS:aV X 27 = [28,3,3]:=by kernel_rfl
@[simp] theorem ahb:gU X 28 = 148:=by kernel_rfl
@[simp] theorem aeH:bodied X 28 = true:=by kernel_rfl
@[simp] theorem WT:aV X 28 = [22]:=by kernel_rfl
@[simp] theorem ahc:gU X 30 = 34:=by kernel_rfl
@[simp] theorem aeI:bodied X 30 = true:=by kernel_rfl
@[simp] theorem aeJ:aV X 30 = []:=by kernel_rfl
@[simp] theorem ahd:gU X 31 = 55:=by kernel_rfl
@[simp] theorem aeK:bodied X 31 = true:=by kernel_rfl
@[simp] theorem aeL:aV X 31 = [41]:=by kernel_rfl
@[simp] theorem ahe:gU X 32 = 18:=by kernel_rfl
@[simp] theorem aeM:bodied X 32 = true:=by kernel_rfl
@[simp] theorem Wj:aV X 32 = [44,3,3]:=by kernel_rfl
@[simp] theorem ahf:gU X 33 = 33:=by kernel_rfl
@[simp] theorem aeN:bodied X 33 = true:=by kernel_rfl
@[simp] theorem VK:aV X 33 = [3]:=by kernel_rfl
@[simp] theorem ahg:gU X 34 = 30:=by kernel_rfl
@[simp] theorem aeO:bodied X 34 = true:=by kernel_rfl
@[simp] theorem VN:aV X 34 = [3]:=by kernel_rfl
@[simp] theorem ahh:gU X 35 = 48:=by kernel_rfl
@[simp] theorem aeP:bodied X 35 = true:=by kernel_rfl
@[simp] theorem V9:aV X 35 = [44,3]:=by kernel_rfl
@[simp] theorem ahi:gU X 36 = 65:=by kernel_rfl
@[simp] theorem aeQ:bodied X 36 = true:=by kernel_rfl
@[simp] theorem WU:aV X 36 = [22]:=by kernel_rfl
@[simp] theorem ahj:gU X 37 = 39:=by kernel_rfl
@[simp] theorem aeR:bodied X 37 = true:=by kernel_rfl
@[simp] theorem aeS:aV X 37 = []:=by kernel_rfl
@[simp] theorem ahk:gU X 38 = 68:=by kernel_rfl
@[simp] theorem aeT:bodied X 38 = true:=by kernel_rfl
@[simp] theorem aeU:aV X 38 = [41]:=by kernel_rfl
@[simp] theorem ahl:gU X 39 = 36:=by kernel_rfl
@[simp] theorem aeV:bodied X 39 = true:=by kernel_rfl
@[simp] theorem Wu:aV X 39 = [61,3,3]:=by kernel_rfl
@[simp] theorem ahm:gU X 40 = 37:=by kernel_rfl
@[simp] theorem aeW:bodied X 40 = true:=by kernel_rfl
@[simp] theorem Wv:aV X 40 = [61,3,3]:=by kernel_rfl
@[simp] theorem ahn:gU X 41 = 23:=by kernel_rfl
@[simp] theorem aeX:bodied X 41 = true:=by kernel_rfl
@[simp] theorem TA:aV X 41 = [3]:=by kernel_rfl
@[simp] theorem aho:gU X 42 = 23:=by kernel_rfl
@[simp] theorem aeY:bodied X 42 = true:=by kernel_rfl
@[simp] theorem aeZ:aV X 42 = [3]:=by kernel_rfl
@[simp] theorem ahp:gU X 43 = 21:=by kernel_rfl
@[simp] theorem ae0:bodied X 43 = true:=by kernel_rfl
@[simp] theorem WV:aV X 43 = [3]:=by kernel_rfl
@[simp] theorem ahq:gU X 44 = 20:=by kernel_rfl
@[simp] theorem ae1:bodied X 44 = true:=by kernel_rfl
@[simp] theorem ae2:aV X 44 = [3]:=by kernel_rfl
@[simp] theorem ahr:gU X 50 = 31:=by kernel_rfl
@[simp] theorem ae3:bodied X 50 = true:=by kernel_rfl
@[simp] theorem ae4:aV X 50 = [41]:=by kernel_rfl
@[simp] theorem ahs:gU X 51 = 31:=by kernel_rfl
@[simp] theorem ae5:bodied X 51 = true:=by kernel_rfl
@[simp] theorem ae6:aV X 51 = [41]:=by kernel_rfl
@[simp] theorem aht:gU X 52 = 22:=by kernel_rfl
@[simp] theorem ae7:bodied X 52 = true:=by kernel_rfl
@[simp] theorem ae8:aV X 52 = [73]:=by kernel_rfl
@[simp] theorem ahu:gU X 53 = 32:=by kernel_rfl
@[simp] theorem ae9:bodied X 53 = true:=by kernel_rfl
@[simp] theorem WW:aV X 53 = [25]:=by kernel_rfl
@[simp] theorem ahv:gU X 54 = 45:=by kernel_rfl
@[simp] theorem afa:bodied X 54 = true:=by kernel_rfl
@[simp] theorem WX:aV X 54 = [41]:=by kernel_rfl
@[simp] theorem ahw:gU X 55 = 30:=by kernel_rfl
@[simp] theorem afb:bodied X 55 = true:=by kernel_rfl
@[simp] theorem Tz:aV X 55 = [28,3,3]:=by kernel_rfl
@[simp] theorem P6:X.keep 23 1 = some [0,2,4]:=by kernel_rfl
@[simp] theorem afc:X.dy 9 6 = false:=by kernel_rfl
@[simp] theorem abt:X.dy 10 8 = false:=by kernel_rfl
@[simp] theorem XO:X.dy 10 12 = false:=by kernel_rfl
@[simp] theorem XP:X.dy 10 14 = false:=by kernel_rfl
@[simp] theorem XQ:X.dy 13 10 = false:=by kernel_rfl
@[simp] theorem XR:X.dy 22 14 = false:=by kernel_rfl
@[simp] theorem XT:X.dy 22 16 = false:=by kernel_rfl
@[simp] theorem XU:X.dy 22 19 = false:=by kernel_rfl
@[simp] theorem XV:X.dy 22 22 = false:=by kernel_rfl
@[simp] theorem abu:X.dy 23 1 = true:=by kernel_rfl
@[simp] theorem abv:X.dy 24 2 = false:=by kernel_rfl
@[simp] theorem abw:X.dy 27 2 = false:=by kernel_rfl
@[simp] theorem XW:X.dy 28 15 = false:=by kernel_rfl
@[simp] theorem XY:X.dy 28 18 = false:=by kernel_rfl
@[simp] theorem XZ:X.dy 28 22 = false:=by kernel_rfl
@[simp] theorem X0:X.dy 28 24 = false:=by kernel_rfl
@[simp] theorem X3:X.dy 33 12 = false:=by kernel_rfl
@[simp] theorem X4:X.dy 34 10 = false:=by kernel_rfl
@[simp] theorem abx:X.dy 35 2 = false:=by kernel_rfl
@[simp] theorem aby:X.dy 37 1 = true:=by kernel_rfl
@[simp] theorem abz:X.dy 39 3 = false:=by kernel_rfl
@[simp] theorem abA:X.dy 40 3 = false:=by kernel_rfl
@[simp] theorem abB:X.dy 52 6 = false:=by kernel_rfl
@[simp] theorem afd:sizeT X 0 = 1:=by kernel_rfl
@[simp] theorem abC:bQ X 0 = 0:=by kernel_rfl
@[simp] theorem ahx:okT X 0 = true:=by kernel_rfl
@[simp] theorem isAgg0:bK X 0 = false:=by kernel_rfl
@[simp] theorem abD:dP X 0 = false:=by kernel_rfl
@[simp] theorem abE:dR X 0 = false:=by kernel_rfl
@[simp] theorem afe:iL X 0 = false:=by kernel_rfl
@[simp] theorem ahy:bY X 0 = true:=by kernel_rfl
@[simp] theorem ahz:und X 3 = .int .i64:=by kernel_rfl
@[simp] theorem size3:sizeT X 3 = 1:=by kernel_rfl
@[simp] theorem bytes3:bQ X 3 = 8:=by kernel_rfl
@[simp] theorem ahA:okT X 3 = true:=by kernel_rfl
@[simp] theorem isAgg3:bK X 3 = false:=by kernel_rfl
@[simp] theorem abG:dP X 3 = true:=by kernel_rfl
@[simp] theorem abH:dR X 3 = false:=by kernel_rfl
@[simp] theorem aff:iL X 3 = false:=by kernel_rfl
@[simp] theorem WY:bY X 3 = true:=by kernel_rfl
@[simp] theorem zero3:bG X 3 = .int .i64 0:=by kernel_rfl
@[simp] theorem ahB:und X 4 = .bool:=by kernel_rfl
@[simp] theorem afg:sizeT X 4 = 1:=by kernel_rfl
@[simp] theorem bytes4:bQ X 4 = 1:=by kernel_rfl
@[simp] theorem ahC:okT X 4 = true:=by kernel_rfl
@[simp] theorem isAgg4:bK X 4 = false:=by kernel_rfl
@[simp] theorem abI:dP X 4 = false:=by kernel_rfl
@[simp] theorem abJ:dR X 4 = false:=by kernel_rfl
@[simp] theorem afh:iL X 4 = false:=by kernel_rfl
@[simp] theorem ahD:bY X 4 = true:=by kernel_rfl
@[simp] theorem afi:bG X 4 = .bool false:=by kernel_rfl
@[simp] theorem BA:und X 5 = .int .u8:=by kernel_rfl
@[simp] theorem ug:sizeT X 5 = 1:=by kernel_rfl
@[simp] theorem bytes5:bQ X 5 = 1:=by kernel_rfl
@[simp] theorem ahE:okT X 5 = true:=by kernel_rfl
@[simp] theorem isAgg5:bK X 5 = false:=by kernel_rfl
@[simp] theorem abK:dP X 5 = true:=by kernel_rfl
@[simp] theorem abL:dR X 5 = false:=by kernel_rfl
@[simp] theorem afj:iL X 5 = true:=by kernel_rfl
@[simp] theorem BD:bY X 5 = true:=by kernel_rfl
@[simp] theorem afk:bG X 5 = .int .u8 0:=by kernel_rfl
@[simp] theorem ahF:und X 9 = .string:=by kernel_rfl
@[simp] theorem afl:sizeT X 9 = 1:=by kernel_rfl
@[simp] theorem bytes9:bQ X 9 = 16:=by kernel_rfl
@[simp] theorem ahG:okT X 9 = true:=by kernel_rfl
@[simp] theorem isAgg9:bK X 9 = false:=by kernel_rfl
@[simp] theorem abM:dP X 9 = false:=by kernel_rfl
@[simp] theorem abN:dR X 9 = false:=by kernel_rfl
@[simp] theorem afm:iL X 9 = false:=by kernel_rfl
@[simp] theorem ahH:bY X 9 = true:=by kernel_rfl
@[simp] theorem zero9:bG X 9 = .str []:=by kernel_rfl
@[simp] theorem afn:und X 22 = .slice 25:=by kernel_rfl
@[simp] theorem abO:sizeT X 22 = 1:=by kernel_rfl
@[simp] theorem X5:bQ X 22 = 24:=by kernel_rfl
@[simp] theorem afo:okT X 22 = true:=by kernel_rfl
@[simp] theorem X6:bK X 22 = false:=by kernel_rfl
@[simp] theorem X7:dP X 22 = false:=by kernel_rfl
@[simp] theorem X8:dR X 22 = false:=by kernel_rfl
@[simp] theorem abP:iL X 22 = false:=by kernel_rfl
@[simp] theorem afp:bY X 22 = true:=by kernel_rfl
@[simp] theorem zero22:bG X 22 = .ro 0 .pn 0:=by kernel_rfl
@[simp] theorem size25:sizeT X 25 = 3:=by kernel_rfl
@[simp] theorem bytes25:bQ X 25 = 24:=by kernel_rfl
@[simp] theorem afq:okT X 25 = true:=by kernel_rfl
@[simp] theorem isAgg25:bK X 25 = true:=by kernel_rfl
@[simp] theorem X9:dP X 25 = false:=by kernel_rfl
@[simp] theorem Ya:dR X 25 = false:=by kernel_rfl
@[simp] theorem abQ:iL X 25 = false:=by kernel_rfl
@[simp] theorem afr:bY X 25 = true:=by kernel_rfl
@[simp] theorem abR:bG X 25 = .agg (.pc [.int .i64 0,.int .i64 0,.int .u8 0]):=by kernel_rfl
@[simp] theorem uf:und X 28 = .slice 5:=by kernel_rfl
@[simp] theorem abS:sizeT X 28 = 1:=by kernel_rfl
@[simp] theorem bytes28:bQ X 28 = 24:=by kernel_rfl
@[simp] theorem afs:okT X 28 = true:=by kernel_rfl
@[simp] theorem isAgg28:bK X 28 = false:=by kernel_rfl
@[simp] theorem Yb:dP X 28 = false:=by kernel_rfl
@[simp] theorem Yc:dR X 28 = false:=by kernel_rfl
@[simp] theorem abT:iL X 28 = false:=by kernel_rfl
@[simp] theorem aft:bY X 28 = true:=by kernel_rfl
@[simp] theorem abU:bG X 28 = .ro 0 .pn 0:=by kernel_rfl
@[simp] theorem afu:und X 31 = .int .i64:=by kernel_rfl
@[simp] theorem abV:sizeT X 31 = 1:=by kernel_rfl
@[simp] theorem Yd:bQ X 31 = 8:=by kernel_rfl
@[simp] theorem afv:okT X 31 = true:=by kernel_rfl
@[simp] theorem isAgg31:bK X 31 = false:=by kernel_rfl
@[simp] theorem Ye:dP X 31 = true:=by kernel_rfl
@[simp] theorem Yf:dR X 31 = false:=by kernel_rfl
@[simp] theorem abW:iL X 31 = false:=by kernel_rfl
@[simp] theorem afw:bY X 31 = true:=by kernel_rfl
@[simp] theorem abX:bG X 31 = .int .i64 0:=by kernel_rfl
@[simp] theorem abY:sizeT X 32 = 1:=by kernel_rfl
@[simp] theorem Yg:bQ X 32 = 0:=by kernel_rfl
@[simp] theorem afx:okT X 32 = true:=by kernel_rfl
@[simp] theorem isAgg32:bK X 32 = false:=by kernel_rfl
@[simp] theorem Yh:dP X 32 = false:=by kernel_rfl
@[simp] theorem Yi:dR X 32 = false:=by kernel_rfl
@[simp] theorem abZ:iL X 32 = false:=by kernel_rfl
@[simp] theorem afy:bY X 32 = true:=by kernel_rfl
@[simp] theorem ab1:sizeT X 36 = 1:=by kernel_rfl
@[simp] theorem Yj:bQ X 36 = 0:=by kernel_rfl
@[simp] theorem afz:okT X 36 = true:=by kernel_rfl
@[simp] theorem isAgg36:bK X 36 = false:=by kernel_rfl
@[simp] theorem Yk:dP X 36 = false:=by kernel_rfl
@[simp] theorem Yl:dR X 36 = false:=by kernel_rfl
@[simp] theorem ab2:iL X 36 = false:=by kernel_rfl
@[simp] theorem afA:bY X 36 = true:=by kernel_rfl
@[simp] theorem afB:und X 39 = .map 40 41:=by kernel_rfl
@[simp] theorem ab3:sizeT X 39 = 1:=by kernel_rfl
@[simp] theorem Ym:bQ X 39 = 8:=by kernel_rfl
@[simp] theorem afC:okT X 39 = true:=by kernel_rfl
@[simp] theorem isAgg39:bK X 39 = false:=by kernel_rfl
@[simp] theorem Yn:dP X 39 = false:=by kernel_rfl
@[simp] theorem Yo:dR X 39 = false:=by kernel_rfl
@[simp] theorem ab4:iL X 39 = false:=by kernel_rfl
@[simp] theorem afD:bY X 39 = true:=by kernel_rfl
@[simp] theorem ab5:bG X 39 = .ig:=by kernel_rfl
@[simp] theorem afE:und X 40 = .array 3 5:=by kernel_rfl
@[simp] theorem ab6:sizeT X 40 = 3:=by kernel_rfl
@[simp] theorem Yp:bQ X 40 = 3:=by kernel_rfl
@[simp] theorem afF:okT X 40 = true:=by kernel_rfl
@[simp] theorem isAgg40:bK X 40 = true:=by kernel_rfl
@[simp] theorem Yq:dP X 40 = false:=by kernel_rfl
@[simp] theorem Yr:dR X 40 = true:=by kernel_rfl
@[simp] theorem ab7:iL X 40 = false:=by kernel_rfl
@[simp] theorem afG:bY X 40 = true:=by kernel_rfl
@[simp] theorem ab8:bG X 40 = .agg (.pb [0,0,0]):=by kernel_rfl
@[simp] theorem TB:und X 41 = .slice 3:=by kernel_rfl
@[simp] theorem ab9:sizeT X 41 = 1:=by kernel_rfl
@[simp] theorem Yt:bQ X 41 = 24:=by kernel_rfl
@[simp] theorem afH:okT X 41 = true:=by kernel_rfl
@[simp] theorem isAgg41:bK X 41 = false:=by kernel_rfl
@[simp] theorem Yu:dP X 41 = false:=by kernel_rfl
@[simp] theorem Yv:dR X 41 = false:=by kernel_rfl
@[simp] theorem acd:iL X 41 = false:=by kernel_rfl
@[simp] theorem afI:bY X 41 = true:=by kernel_rfl
@[simp] theorem ace:bG X 41 = .ro 0 .pn 0:=by kernel_rfl
@[simp] theorem acf:sizeT X 42 = 1:=by kernel_rfl
@[simp] theorem Yw:bQ X 42 = 8:=by kernel_rfl
@[simp] theorem afJ:okT X 42 = true:=by kernel_rfl
@[simp] theorem isAgg42:bK X 42 = false:=by kernel_rfl
@[simp] theorem Yx:dP X 42 = false:=by kernel_rfl
@[simp] theorem Yy:dR X 42 = false:=by kernel_rfl
@[simp] theorem acg:iL X 42 = false:=by kernel_rfl
@[simp] theorem afK:bY X 42 = true:=by kernel_rfl
@[simp] theorem ach:bG X 42 = .jv:=by kernel_rfl
@[simp] theorem afL:und X 44 = .pointer 46:=by kernel_rfl
@[simp] theorem aci:sizeT X 44 = 1:=by kernel_rfl
@[simp] theorem Yz:bQ X 44 = 8:=by kernel_rfl
@[simp] theorem afM:okT X 44 = true:=by kernel_rfl
@[simp] theorem isAgg44:bK X 44 = false:=by kernel_rfl
@[simp] theorem YA:dP X 44 = false:=by kernel_rfl
@[simp] theorem YB:dR X 44 = false:=by kernel_rfl
@[simp] theorem acj:iL X 44 = false:=by kernel_rfl
@[simp] theorem afN:bY X 44 = true:=by kernel_rfl
@[simp] theorem acn:bG X 44 = .gZ:=by kernel_rfl
@[simp] theorem aco:sizeT X 46 = 2:=by kernel_rfl
@[simp] theorem YC:bQ X 46 = 32:=by kernel_rfl
@[simp] theorem afO:okT X 46 = true:=by kernel_rfl
@[simp] theorem isAgg46:bK X 46 = true:=by kernel_rfl
@[simp] theorem YD:dP X 46 = false:=by kernel_rfl
@[simp] theorem YE:dR X 46 = false:=by kernel_rfl
@[simp] theorem acp:iL X 46 = false:=by kernel_rfl
@[simp] theorem afP:bY X 46 = true:=by kernel_rfl
@[simp] theorem acr:bG X 46 = .agg (.pc [.ro 0 .pn 0,.int .i64 0]):=by kernel_rfl
@[simp] theorem acs:sizeT X 47 = 1:=by kernel_rfl
@[simp] theorem YF:bQ X 47 = 8:=by kernel_rfl
@[simp] theorem afQ:okT X 47 = true:=by kernel_rfl
@[simp] theorem isAgg47:bK X 47 = false:=by kernel_rfl
@[simp] theorem YG:dP X 47 = false:=by kernel_rfl
@[simp] theorem YH:dR X 47 = false:=by kernel_rfl
@[simp] theorem acu:iL X 47 = false:=by kernel_rfl
@[simp] theorem afR:bY X 47 = true:=by kernel_rfl
@[simp] theorem acv:bG X 47 = .jv:=by kernel_rfl
@[simp] theorem afS:und X 49 = .int .u64:=by kernel_rfl
@[simp] theorem acw:sizeT X 49 = 1:=by kernel_rfl
@[simp] theorem YI:bQ X 49 = 8:=by kernel_rfl
@[simp] theorem afT:okT X 49 = true:=by kernel_rfl
@[simp] theorem YJ:bK X 49 = false:=by kernel_rfl
@[simp] theorem YK:dP X 49 = true:=by kernel_rfl
@[simp] theorem YL:dR X 49 = false:=by kernel_rfl
@[simp] theorem acy:iL X 49 = false:=by kernel_rfl
@[simp] theorem afU:bY X 49 = true:=by kernel_rfl
@[simp] theorem acz:bG X 49 = .int .u64 0:=by kernel_rfl
@[simp] theorem afV:und X 50 = .pointer 52:=by kernel_rfl
@[simp] theorem acA:sizeT X 50 = 1:=by kernel_rfl
@[simp] theorem YM:bQ X 50 = 8:=by kernel_rfl
@[simp] theorem afW:okT X 50 = true:=by kernel_rfl
@[simp] theorem isAgg50:bK X 50 = false:=by kernel_rfl
@[simp] theorem YN:dP X 50 = false:=by kernel_rfl
@[simp] theorem YO:dR X 50 = false:=by kernel_rfl
@[simp] theorem acB:iL X 50 = false:=by kernel_rfl
@[simp] theorem afX:bY X 50 = true:=by kernel_rfl
@[simp] theorem acC:bG X 50 = .gZ:=by kernel_rfl
@[simp] theorem acD:sizeT X 52 = 5:=by kernel_rfl
@[simp] theorem YP:bQ X 52 = 72:=by kernel_rfl
@[simp] theorem afY:okT X 52 = true:=by kernel_rfl
@[simp] theorem isAgg52:bK X 52 = true:=by kernel_rfl
@[simp] theorem YQ:dP X 52 = false:=by kernel_rfl
@[simp] theorem YR:dR X 52 = false:=by kernel_rfl
@[simp] theorem acE:iL X 52 = false:=by kernel_rfl
@[simp] theorem afZ:bY X 52 = true:=by kernel_rfl
@[simp] theorem acF:bG X 52 = .agg (.pc [.ro 0 .pn 0,.int .i64 0,.ro 0 .pn 0,.int .i64 0,.int .i64 0]):=by kernel_rfl
@[simp] theorem af0:und X 53 = .slice 68:=by kernel_rfl
@[simp] theorem acG:sizeT X 53 = 1:=by kernel_rfl
@[simp] theorem YS:bQ X 53 = 24:=by kernel_rfl
@[simp] theorem af2:okT X 53 = true:=by kernel_rfl
@[simp] theorem isAgg53:bK X 53 = false:=by kernel_rfl
@[simp] theorem YT:dP X 53 = false:=by kernel_rfl
@[simp] theorem YU:dR X 53 = false:=by kernel_rfl
@[simp] theorem acH:iL X 53 = false:=by kernel_rfl
@[simp] theorem af4:bY X 53 = true:=by kernel_rfl
@[simp] theorem acI:bG X 53 = .ro 0 .pn 0:=by kernel_rfl
@[simp] theorem acJ:sizeT X 55 = 1:=by kernel_rfl
@[simp] theorem YV:bQ X 55 = 0:=by kernel_rfl
@[simp] theorem af5:okT X 55 = true:=by kernel_rfl
@[simp] theorem isAgg55:bK X 55 = false:=by kernel_rfl
@[simp] theorem YW:dP X 55 = false:=by kernel_rfl
@[simp] theorem YX:dR X 55 = false:=by kernel_rfl
@[simp] theorem acK:iL X 55 = false:=by kernel_rfl
@[simp] theorem af6:bY X 55 = true:=by kernel_rfl
@[simp] theorem acL:sizeT X 57 = 1:=by kernel_rfl
@[simp] theorem YZ:bQ X 57 = 0:=by kernel_rfl
@[simp] theorem af7:okT X 57 = true:=by kernel_rfl
@[simp] theorem isAgg57:bK X 57 = false:=by kernel_rfl
@[simp] theorem Y0:dP X 57 = false:=by kernel_rfl
@[simp] theorem Y1:dR X 57 = false:=by kernel_rfl
@[simp] theorem acM:iL X 57 = false:=by kernel_rfl
@[simp] theorem af8:bY X 57 = true:=by kernel_rfl
@[simp] theorem acN:sizeT X 59 = 1:=by kernel_rfl
@[simp] theorem Y2:bQ X 59 = 0:=by kernel_rfl
@[simp] theorem af9:okT X 59 = true:=by kernel_rfl
@[simp] theorem Y4:bK X 59 = false:=by kernel_rfl
@[simp] theorem Y5:dP X 59 = false:=by kernel_rfl
@[simp] theorem Y6:dR X 59 = false:=by kernel_rfl
@[simp] theorem acO:iL X 59 = false:=by kernel_rfl
@[simp] theorem aga:bY X 59 = true:=by kernel_rfl
@[simp] theorem agb:und X 61 = .pointer 63:=by kernel_rfl
@[simp] theorem acP:sizeT X 61 = 1:=by kernel_rfl
@[simp] theorem Y7:bQ X 61 = 8:=by kernel_rfl
@[simp] theorem agc:okT X 61 = true:=by kernel_rfl
@[simp] theorem Y8:bK X 61 = false:=by kernel_rfl
@[simp] theorem Y9:dP X 61 = false:=by kernel_rfl
@[simp] theorem Za:dR X 61 = false:=by kernel_rfl
@[simp] theorem acQ:iL X 61 = false:=by kernel_rfl
@[simp] theorem agd:bY X 61 = true:=by kernel_rfl
@[simp] theorem acR:bG X 61 = .gZ:=by kernel_rfl
@[simp] theorem acS:sizeT X 63 = 2:=by kernel_rfl
@[simp] theorem Zb:bQ X 63 = 32:=by kernel_rfl
@[simp] theorem agf:okT X 63 = true:=by kernel_rfl
@[simp] theorem Zc:bK X 63 = true:=by kernel_rfl
@[simp] theorem Zd:dP X 63 = false:=by kernel_rfl
@[simp] theorem Ze:dR X 63 = false:=by kernel_rfl
@[simp] theorem acT:iL X 63 = false:=by kernel_rfl
@[simp] theorem agh:bY X 63 = true:=by kernel_rfl
@[simp] theorem acU:bG X 63 = .agg (.pc [.ro 0 .pn 0,.int .i64 0]):=by kernel_rfl
@[simp] theorem acV:sizeT X 65 = 1:=by kernel_rfl
@[simp] theorem Zf:bQ X 65 = 0:=by kernel_rfl
@[simp] theorem agi:okT X 65 = true:=by kernel_rfl
@[simp] theorem Zg:bK X 65 = false:=by kernel_rfl
@[simp] theorem Zh:dP X 65 = false:=by kernel_rfl
@[simp] theorem Zi:dR X 65 = false:=by kernel_rfl
@[simp] theorem acW:iL X 65 = false:=by kernel_rfl
@[simp] theorem agj:bY X 65 = true:=by kernel_rfl
@[simp] theorem acX:sizeT X 68 = 4:=by kernel_rfl
@[simp] theorem Zj:bQ X 68 = 32:=by kernel_rfl
@[simp] theorem agk:okT X 68 = true:=by kernel_rfl
@[simp] theorem Zk:bK X 68 = true:=by kernel_rfl
@[simp] theorem Zl:dP X 68 = false:=by kernel_rfl
@[simp] theorem Zm:dR X 68 = false:=by kernel_rfl
@[simp] theorem acY:iL X 68 = false:=by kernel_rfl
@[simp] theorem agl:bY X 68 = true:=by kernel_rfl
@[simp] theorem acZ:bG X 68 = .agg (.pc [.int .i64 0,.bool false,.int .i64 0,.int .i64 0]):=by kernel_rfl
@[simp] theorem ac0:sizeT X 71 = 1:=by kernel_rfl
@[simp] theorem Zn:bQ X 71 = 0:=by kernel_rfl
@[simp] theorem agm:okT X 71 = true:=by kernel_rfl
@[simp] theorem Zo:bK X 71 = false:=by kernel_rfl
@[simp] theorem Zp:dP X 71 = false:=by kernel_rfl
@[simp] theorem Zq:dR X 71 = false:=by kernel_rfl
@[simp] theorem ac1:iL X 71 = false:=by kernel_rfl
@[simp] theorem agn:bY X 71 = true:=by kernel_rfl
@[simp] theorem agp:und X 73 = .array 16 3:=by kernel_rfl
@[simp] theorem ac2:sizeT X 73 = 16:=by kernel_rfl
@[simp] theorem Zr:bQ X 73 = 128:=by kernel_rfl
@[simp] theorem agq:okT X 73 = true:=by kernel_rfl
@[simp] theorem Zt:bK X 73 = true:=by kernel_rfl
@[simp] theorem Zu:dP X 73 = false:=by kernel_rfl
@[simp] theorem Zv:dR X 73 = true:=by kernel_rfl
@[simp] theorem ac3:iL X 73 = false:=by kernel_rfl
@[simp] theorem agr:bY X 73 = true:=by kernel_rfl
@[simp] theorem ac4:bG X 73 = .agg (.pi .i64 [0,0,0,0,0,0,0,0,0,0,0,0,0,0,0,0]):=by kernel_rfl
@[simp] theorem ac5:sizeT X 74 = 1:=by kernel_rfl
@[simp] theorem Zw:bQ X 74 = 0:=by kernel_rfl
@[simp] theorem ags:okT X 74 = true:=by kernel_rfl
@[simp] theorem Zx:bK X 74 = false:=by kernel_rfl
@[simp] theorem Zy:dP X 74 = false:=by kernel_rfl
@[simp] theorem Zz:dR X 74 = false:=by kernel_rfl
@[simp] theorem ac6:iL X 74 = false:=by kernel_rfl
@[simp] theorem agt:bY X 74 = true:=by kernel_rfl
@[simp] theorem agu:und X 76 = .array 17 3:=by kernel_rfl
@[simp] theorem ac7:sizeT X 76 = 17:=by kernel_rfl
@[simp] theorem ZA:bQ X 76 = 136:=by kernel_rfl
@[simp] theorem agv:okT X 76 = true:=by kernel_rfl
@[simp] theorem ZB:bK X 76 = true:=by kernel_rfl
@[simp] theorem ZC:dP X 76 = false:=by kernel_rfl
@[simp] theorem ZE:dR X 76 = true:=by kernel_rfl
@[simp] theorem ac8:iL X 76 = false:=by kernel_rfl
@[simp] theorem agw:bY X 76 = true:=by kernel_rfl
@[simp] theorem ac9:bG X 76 = .agg (.pi .i64 [0,0,0,0,0,0,0,0,0,0,0,0,0,0,0,0,0]):=by kernel_rfl
@[simp] theorem agx:und X 82 = .array 19 3:=by kernel_rfl
@[simp] theorem ada:sizeT X 82 = 19:=by kernel_rfl
@[simp] theorem ZF:bQ X 82 = 152:=by kernel_rfl
@[simp] theorem agy:okT X 82 = true:=by kernel_rfl
@[simp] theorem ZG:bK X 82 = true:=by kernel_rfl
@[simp] theorem ZH:dP X 82 = false:=by kernel_rfl
@[simp] theorem ZI:dR X 82 = true:=by kernel_rfl
@[simp] theorem adb:iL X 82 = false:=by kernel_rfl
@[simp] theorem agz:bY X 82 = true:=by kernel_rfl
@[simp] theorem ade:bG X 82 = .agg (.pi .i64 [0,0,0,0,0,0,0,0,0,0,0,0,0,0,0,0,0,0,0]):=by kernel_rfl
@[simp] theorem adf:sizeT X 85 = 1:=by kernel_rfl
@[simp] theorem ZJ:bQ X 85 = 0:=by kernel_rfl
@[simp] theorem agA:okT X 85 = true:=by kernel_rfl
@[simp] theorem ZK:bK X 85 = false:=by kernel_rfl
@[simp] theorem ZL:dP X 85 = false:=by kernel_rfl
@[simp] theorem ZM:dR X 85 = false:=by kernel_rfl
@[simp] theorem adg:iL X 85 = false:=by kernel_rfl
@[simp] theorem agB:bY X 85 = true:=by kernel_rfl
@[simp] theorem agC:und X 87 = .array 2 3:=by kernel_rfl
@[simp] theorem size87:sizeT X 87 = 2:=by kernel_rfl
@[simp] theorem ZN:bQ X 87 = 16:=by kernel_rfl
@[simp] theorem agD:okT X 87 = true:=by kernel_rfl
@[simp] theorem ZO:bK X 87 = true:=by kernel_rfl
@[simp] theorem ZP:dP X 87 = false:=by kernel_rfl
@[simp] theorem ZQ:dR X 87 = true:=by kernel_rfl
@[simp] theorem adh:iL X 87 = false:=by kernel_rfl
@[simp] theorem agE:bY X 87 = true:=by kernel_rfl
@[simp] theorem adi:bG X 87 = .agg (.pi .i64 [0,0]):=by kernel_rfl
@[simp] theorem agF:und X 88 = .array 29 87:=by kernel_rfl
@[simp] theorem adk:sizeT X 88 = 58:=by kernel_rfl
@[simp] theorem ZR:bQ X 88 = 464:=by kernel_rfl
@[simp] theorem agG:okT X 88 = true:=by kernel_rfl
@[simp] theorem ZT:bK X 88 = true:=by kernel_rfl
@[simp] theorem ZU:dP X 88 = false:=by kernel_rfl
@[simp] theorem ZV:dR X 88 = true:=by kernel_rfl
@[simp] theorem adl:iL X 88 = false:=by kernel_rfl
@[simp] theorem agH:bY X 88 = true:=by kernel_rfl
@[simp] theorem adn:bG X 88 = .agg (.pr 2 [.pc [.int .i64 0,.int .i64 0],.pc [.int .i64 0,.int .i64 0],.pc [.int .i64 0,.int .i64 0],.pc [.int .i64 0,.int .i64 0],.pc [.int .i64 0,.int .i64 0],.pc [.int .i64 0,.int .i64 0],.pc [.int .i64 0,.int .i64 0],.pc [.int .i64 0,.int .i64 0],.pc [.int .i64 0,.int .i64 0],.pc [.int .i64 0,.int .i64 0],.pc [.int .i64 0,.int .i64 0],.pc [.int .i64 0,.int .i64 0],.pc [.int .i64 0,.int .i64 0],.pc [.int .i64 0,.int .i64 0],.pc [.int .i64 0,.int .i64 0],.pc [.int .i64 0,.int .i64 0],.pc [.int .i64 0,.int .i64 0],.pc [.int .i64 0,.int .i64 0],.pc [.int .i64 0,.int .i64 0],.pc [.int .i64 0,.int .i64 0],.pc [.int .i64 0,.int .i64 0],.pc [.int .i64 0,.int .i64 0],.pc [.int .i64 0,.int .i64 0],.pc [.int .i64 0,.int .i64 0],.pc [.int .i64 0,.int .i64 0],.pc [.int .i64 0,.int .i64 0],.pc [.int .i64 0,.int .i64 0],.pc [.int .i64 0,.int .i64 0],.pc [.int .i64 0,.int .i64 0]]):=by kernel_rfl
@[simp] theorem ado:sizeT X 89 = 1:=by kernel_rfl
@[simp] theorem ZW:bQ X 89 = 8:=by kernel_rfl
@[simp] theorem agI:okT X 89 = true:=by kernel_rfl
@[simp] theorem ZX:bK X 89 = false:=by kernel_rfl
@[simp] theorem ZY:dP X 89 = false:=by kernel_rfl
@[simp] theorem Z4:dR X 89 = false:=by kernel_rfl
@[simp] theorem adp:iL X 89 = false:=by kernel_rfl
@[simp] theorem agJ:bY X 89 = true:=by kernel_rfl
@[simp] theorem adq:bG X 89 = .jv:=by kernel_rfl
@[simp] theorem agK:und X 91 = .array 16 41:=by kernel_rfl
@[simp] theorem adr:sizeT X 91 = 16:=by kernel_rfl
@[simp] theorem Z5:bQ X 91 = 384:=by kernel_rfl
@[simp] theorem agL:okT X 91 = true:=by kernel_rfl
@[simp] theorem Z7:bK X 91 = true:=by kernel_rfl
@[simp] theorem Z8:dP X 91 = false:=by kernel_rfl
@[simp] theorem Z9:dR X 91 = true:=by kernel_rfl
@[simp] theorem ads:iL X 91 = false:=by kernel_rfl
@[simp] theorem agM:bY X 91 = true:=by kernel_rfl
@[simp] theorem adt:bG X 91 = .agg (.pc [.ro 0 .pn 0,.ro 0 .pn 0,.ro 0 .pn 0,.ro 0 .pn 0,.ro 0 .pn 0,.ro 0 .pn 0,.ro 0 .pn 0,.ro 0 .pn 0,.ro 0 .pn 0,.ro 0 .pn 0,.ro 0 .pn 0,.ro 0 .pn 0,.ro 0 .pn 0,.ro 0 .pn 0,.ro 0 .pn 0,.ro 0 .pn 0]):=by kernel_rfl
@[simp] theorem adu (H:AM.Heap) (x:AV):cO X H 25 x 0 = faV H x 0:=dW (ty:=3) (by kernel_rfl) (by kernel_rfl) H x
@[simp] theorem adv (x:AV):jf X 25 x 0 = fvV X x 0 3:=iI (by kernel_rfl) x
@[simp] theorem adw (H:AM.Heap) (x:AV):cO X H 25 x 1 = faV H x 1:=dW (ty:=3) (by kernel_rfl) (by kernel_rfl) H x
@[simp] theorem adx (x:AV):jf X 25 x 1 = fvV X x 1 3:=iI (by kernel_rfl) x
@[simp] theorem ady (H:AM.Heap) (x:AV):cO X H 25 x 2 = faV H x 2:=dW (ty:=5) (by kernel_rfl) (by kernel_rfl) H x
@[simp] theorem adz (x:AV):jf X 25 x 2 = fvV X x 2 5:=iI (by kernel_rfl) x
@[simp] theorem adA (H:AM.Heap) (x:AV):cO X H 46 x 0 = faV H x 0:=dW (ty:=28) (by kernel_rfl) (by kernel_rfl) H x
@[simp] theorem adB (x:AV):jf X 46 x 0 = fvV X x 0 28:=iI (by kernel_rfl) x
@[simp] theorem adC (H:AM.Heap) (x:AV):cO X H 46 x 1 = faV H x 1:=dW (ty:=3) (by kernel_rfl) (by kernel_rfl) H x
@[simp] theorem adD (x:AV):jf X 46 x 1 = fvV X x 1 3:=iI (by kernel_rfl) x
@[simp] theorem adE (H:AM.Heap) (x:AV):cO X H 52 x 0 = faV H x 0:=dW (ty:=28) (by kernel_rfl) (by kernel_rfl) H x
@[simp] theorem adF (x:AV):jf X 52 x 0 = fvV X x 0 28:=iI (by kernel_rfl) x
@[simp] theorem adG (H:AM.Heap) (x:AV):cO X H 52 x 1 = faV H x 1:=dW (ty:=3) (by kernel_rfl) (by kernel_rfl) H x
@[simp] theorem adH (x:AV):jf X 52 x 1 = fvV X x 1 3:=iI (by kernel_rfl) x
@[simp] theorem adI (H:AM.Heap) (x:AV):cO X H 52 x 2 = faV H x 2:=dW (ty:=28) (by kernel_rfl) (by kernel_rfl) H x
@[simp] theorem adJ (x:AV):jf X 52 x 2 = fvV X x 2 28:=iI (by kernel_rfl) x
@[simp] theorem adK (H:AM.Heap) (x:AV):cO X H 52 x 3 = faV H x 3:=dW (ty:=3) (by kernel_rfl) (by kernel_rfl) H x
@[simp] theorem adL (x:AV):jf X 52 x 3 = fvV X x 3 3:=iI (by kernel_rfl) x
@[simp] theorem adM (H:AM.Heap) (x:AV):cO X H 52 x 4 = faV H x 4:=dW (ty:=31) (by kernel_rfl) (by kernel_rfl) H x
@[simp] theorem adN (x:AV):jf X 52 x 4 = fvV X x 4 31:=iI (by kernel_rfl) x
@[simp] theorem adO (H:AM.Heap) (x:AV):cO X H 63 x 0 = faV H x 0:=dW (ty:=28) (by kernel_rfl) (by kernel_rfl) H x
@[simp] theorem adP (x:AV):jf X 63 x 0 = fvV X x 0 28:=iI (by kernel_rfl) x
@[simp] theorem adQ (H:AM.Heap) (x:AV):cO X H 63 x 1 = faV H x 1:=dW (ty:=3) (by kernel_rfl) (by kernel_rfl) H x
@[simp] theorem adR (x:AV):jf X 63 x 1 = fvV X x 1 3:=iI (by kernel_rfl) x
@[simp] theorem adS (H:AM.Heap) (x:AV):cO X H 68 x 0 = faV H x 0:=dW (ty:=3) (by kernel_rfl) (by kernel_rfl) H x
@[simp] theorem adT (x:AV):jf X 68 x 0 = fvV X x 0 3:=iI (by kernel_rfl) x
@[simp] theorem adU (H:AM.Heap) (x:AV):cO X H 68 x 1 = faV H x 1:=dW (ty:=4) (by kernel_rfl) (by kernel_rfl) H x
@[simp] theorem adV (x:AV):jf X 68 x 1 = fvV X x 1 4:=iI (by kernel_rfl) x
@[simp] theorem adW (H:AM.Heap) (x:AV):cO X H 68 x 3 = faV H x 3:=dW (ty:=3) (by kernel_rfl) (by kernel_rfl) H x
@[simp] theorem adX (x:AV):jf X 68 x 3 = fvV X x 3 3:=iI (by kernel_rfl) x
end Go.Proofs.Yteblpjhkgdpchaa
