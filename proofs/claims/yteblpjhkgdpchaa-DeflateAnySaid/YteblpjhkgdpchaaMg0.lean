/- X to X: texts of this claim, one behind the other; what each shows stands at its head. -/
import Derived.Test.YteblpjhkgdpchaaRows
import Derived.Test.YteblpjhkgdpchaaAm4
set_option linter.unusedSimpArgs false
set_option linter.unusedVariables false
set_option maxRecDepth 100000
set_option maxHeartbeats 8000000
namespace Go.Proofs.Yteblpjhkgdpchaa
open Go.AM
def bY:List (List (List Nat)):=[[],[],[[]],[[],[1],[1,2],[3],[3,4],[3,4,6],[3,4,6,8],[0]],[[0],[0,5],[2],[0,8],[2],[0,3],[2]],[[0],[0,10],[2],[0,13],[2],[0,3],[0,3,4],[0,3,4,5],[0,3,4,5,19],[0,3,4,5],[0,3,4,5,6],[0,3,4,5,6,53],[2],[0,3,4,5,6,7],[0,3,4,5,6,7,56],[0,3,4,5,6,7],[0,3,4,5,6,7,8],[0,3,4,5,6,7,8,85],[0,3,4,5,6,7,8],[0,3,4,5,6,7,116],[2],[0,3,4,5],[2]],[[0],[0,14],[2],[0,17],[2],[0,3,4],[0,3,4,5,6],[0,3,4,5,6,7,8,9],[0,3,4,5,6,7,8,9,10,11,12],[2]],[[0],[0,11],[2],[0,14],[2],[0,3,4],[3,4,5,6],[3,4,5,27],[2],[3,5,29],[2],[3,5,7,8,9],[2]],[[0],[0,3],[0,3,4],[0,3,4,8],[0,3,4],[0,3,4],[2]],[[0,1],[0,1,10],[4],[0,1,5],[0,1,5,14],[0,1,5],[0,1,5,25],[4],[4]],[[1],[1,3],[1,3,4],[1,3,4,5],[1,3,4,5,6],[1,3,4,5,6,18],[1,3,4,5,6,7,8],[1,3,4,5,6,7,8,23],[1,3,4,5,6,7,8,9],[1,3,4,5,6,7,8,9,10],[1,3,4,5,6,7,8,9,10,58],[1,3,4,5,6,7,8,9,10],[1,3,4,5,6,7,8,9,10,11],[1,3,4,5,6,7,8,9,10,11,70],[1,3,4,5,6,7,8,9,10],[1,3,4,5,6,7,8,12],[1,3,4,5,6,7,8,12,84],[1,3,4,5,6,12],[1,3,4,5,6,12],[1,3,4,5,6,94,95],[1,3,4,5,6,94,95,96],[1,3,4,5,6,94,95],[1,3,4,5,6,94,95],[1,3,4,5,6,94,95],[2]],[[0,1],[4]],[[0],[0,3],[3,5],[3,5,18],[2],[2]],[[0],[0,3],[0,3,4],[0,3,4,5],[0,3,4,5,14],[0,3,4,5],[0,3,4,5],[0,3,4,5],[0,3,4,5],[0,3,4,5],[0,3,4,5],[0,3,4,5],[0,3,5],[0,3,58],[2]],[[0],[0,4],[4,7,8,9],[4,7,8,9,10],[4,6,7,8,9],[4,6,7,8,9,15],[2,3],[4,6,7,8,9,18],[4,7,8,9],[4,6,7,8,9,28],[2,3],[4,6,7,8,9,30,31],[4,6,7,8,9,30,31,32],[4,6,7,8,9,30,31],[4,6,7,8,9,30,31],[4,7,8,9],[2,3]],[[],[0]],[[0],[2]],[[0],[0,3],[0,3,4],[0,3,4,12],[0,3,4,5,6],[0,3,4,5,6,7],[0,3,4,5,6,7,23],[0,3,4,5,6,7],[0,3,4,5,6,7,8],[0,3,4,5,6,7,8,32],[0,3,4,5,6,7],[0,3,4,5,6,36],[0,3,4,5],[0,3,4],[0,3,4],[0,3,4],[2]],[[0],[0,3],[0,3,4],[0,3,4,14],[0,3,4,5],[0,3,4,5,6],[0,3,4,5,6,25],[0,3,4,5,6],[0,3,4,5,6],[0,3,4,5,6],[0,3,4,6],[0,3,4,54],[2],[2]],[[0],[0,3],[3,5],[3,5,18],[2],[2]],[[0,1],[0,1,18],[4],[5],[5,6],[5,6,33],[5,6],[5,6,40],[4],[4]],[[0,1],[0,1,9],[4,5,6],[7],[7],[7,20],[4,5,6],[4,5,6]],[[0],[0,5],[0,5,24],[2,3],[0,6,7],[0,6,7,8],[0,6,7,8,10],[0,6,7,8,10,12],[0,6,7,8,10,12],[0,6,7,8,10,12],[6,7,8,10,12,46,47,48],[6,7,8,10,12,46,47,48,49],[6,7,8,10,12,14,46,47,48],[6,7,8,10,12,14,46,47,48,54],[6,7,8,10,12,46,47,48],[6,7,8,10,12,14,15,16,17,46,47,48],[6,7,8,10,12,14,16,17,46,47,48],[6,7,8,10,12,14,46,47,48],[6,7,8,10,12,14,15,16,17,46,47,48],[6,7,8,10,12,14,16,17,46,47,48],[6,7,8,10,12,46,47,48],[6,7,8,10,12,46,47,48],[12],[2,3]],[[0,1,2,9],[0,2,4],[]],[[0,1,2],[0,1,2,7],[0,1,2,7,32],[0,1,2,7],[6]],[[0,1,7,8],[0,1,7,8,9],[0,1,6,7,8],[0,1,7,8],[0,1,7,8]],[[1],[1,5],[2],[2]],[[0,1,2],[0,1,2,7],[0,1,2,7,34],[0,1,2,7],[6]],[[0],[0,5],[0,5,24],[2,3],[0,6,7],[0,6,7,8],[0,6,7,8,10],[0,6,7,8,10,12],[0,6,7,8,10,12],[0,6,7,8,10,12],[0,6,7,8,10,12,13],[0,6,7,8,10,12,13,49],[0,6,7,8,10,12,13],[0,6,7,8,10,12,13,57],[0,6,7,8,10,12,13,14],[0,6,7,8,10,12,13],[0,6,7,8,10,12,13,15],[0,6,7,8,10,12,13,15,16,17],[0,6,7,8,10,12,13,16,17],[0,6,7,8,10,12,13],[0,6,7,8,10,12,13,15],[0,6,7,8,10,12,13,15,16,17],[0,6,7,8,10,12,13,16,17],[0,6,7,8,10,12,13],[12],[2,3]],[[0],[0,3],[0,3,4],[0,3,17],[0,3,5],[0,3,5,6],[0,3,5,6],[0,3,5,6],[0,3,5,6,39],[0,3,5,6,41],[0,3,5,6],[0,3,5,6,41,44],[0,3,5,6],[0,3,5,6,41,48],[0,3,5,6],[0,3,5,6,55],[0,3,5,6,7,8],[0,3,5,6],[0,3,5],[0,3,4],[2]],[[0,1],[0,1,4],[0,1,4,5],[0,1,2,4],[0,1,2,3,4],[0,1,2,3,4,7],[0,1,3,4],[0,1,3,4,14],[0,1,3,4],[0,1,4],[0,1,4],[0,1,26],[0,1,26,27],[0,1,26],[0,1,26],[0,1]],[[0],[0,5],[0,5,18],[2,3],[0,6],[0,8],[0,8,9],[8,9,30,31,32],[8,9,30,31,32,33],[8,9,10,11,30,31,32],[8,9,10,11,30,31,32],[8,9,10,11,30,31,32,41],[8,9,11,30,31,32],[8,9,30,31,32],[8,9,30,31,32],[2,3]],[[0,1,6],[0,1,6,10],[0,1,6],[0,1,6]],[[0],[0,6],[2,3,4],[0,9],[2,3,4],[0,2,3],[0,2,3,4],[0,2,3,4],[0,2,3,4,15],[0,2,3,4,15,16],[0,2,3,4,15,22],[2,3,4],[0,2,3,4,15],[0,2,3,4,15]],[[0],[0,6],[2,3,4],[0,2,3],[0,2,3,4],[0,2,3,4],[0,2,3,4,12],[0,2,3,4,12,13],[0,2,3,4,12,19],[2,3,4],[0,2,3,4,12],[0,2,3,4,12]],[[0,1,9],[0,1],[0],[]],[[0],[0,4],[0,4,5],[0,4,5,10],[0,4,5],[0,4,5,18],[2,3],[0,4,5,24],[0,4,5],[0,4,5,40],[2,3],[0,4,5,6],[0,4,5,6,47],[0,4,5,6],[0,4,5,6],[2,3]],[[],[2,3],[2,3,4],[2,3,4,9],[2,3,4],[2,3,4],[2,3,4,16],[2,3,4],[2,3,4,21],[2,3,4],[2,3,4,26],[2,3,4],[2,3,5],[2,3,5,31],[2,3,5],[2,3,5],[0,1]],[[0],[0,5],[0,5,18],[2,3],[0,6],[0,6,7,8],[0,6,7,8,9],[0,6,7,8,9,24],[0,6,7,8,9],[0,6,7,8,9,10],[0,6,7,8,9,10,30],[0,6,7,8,9,10],[0,6,7,8,9,10,38],[0,6,7,8,9,10,40],[0,6,7,9,10],[0,6,7,8,9,10],[0,6,11],[0,6,11,56],[0,6,11],[0,6,11,63],[0,6,11],[2,3]],[[0,1,2,6],[0,1,2,6,9],[0,1,2,6],[0,1,2,6],[0,1,2,6]],[[0,1,6],[0,1,6,10],[0,1,6],[0,1,6],[0,1,6]],[[0],[0,8],[2],[0,3],[0,3,4],[0,3,4,10],[0,3,4],[0,3,4,5],[0,3,4,20],[0,3,4],[2]],[[0],[0,6],[2,3],[0,8],[2,3],[0,4],[2,3]],[[0],[0,3],[0,3,4],[0,3,4,8],[0,3,4],[0,3,4,5],[0,3,4,18],[0,3,4],[2]],[[0],[0,6],[2,3],[0,4],[2,3]],[[0,1],[0,1,5],[0,1,5,6],[0,1,5,6,16],[0,1,5,6],[0,1,5,6,29],[],[4],[0,1,5,6],[0,1,5,6],[4]],[[0],[0,2],[0,2,3],[0,2,29],[0,2],[0,2,4],[0,2,4,41],[0,2,4],[0,2,4]],[[0,1,2,11],[0,1,2,6],[0,1,2],[0,1,2,6,19],[0,1,2,6,29],[0,1,2]],[[0],[0,4,5,6],[0,4,5,6,36],[0,4,5,6],[0,4,5,6,7],[0,4,5,6,7,8],[0,4,5,7,8,41,42],[0,4,5,7,8,41,42,43],[0,4,5,7,8,9,41,42],[0,4,5,7,8,41,42],[0,4,5,7,8,41,42],[0,4,5,8,57],[2,3],[0,4,5,8,10,11],[0,4,5,8,68],[],[2,3],[0,4,12],[0,4,12,81],[2,3],[0,2,3],[0,2,3,13,14],[0,2,3,109],[0,2,3],[0,2,3,13,14],[0,2,3,132],[2,3],[2,3]],[[0,1,8],[]],[[0],[3,4],[3,4,13],[2,3],[4,5],[4,5,6],[4,5,6,16],[4,5,6],[4,5,6],[5,28],[2,3],[2,3]],[[0,2],[0,2,4],[0,2,4,9],[2,3],[2,4,11,12,13],[2,4,11,12,13,14],[2,4,6,11,12,13],[2,4,6,11,12,13,22],[2,3],[2,4,11,12,13],[2,4,11,12,13],[2,3]],[[1,2],[1,2,3],[1,2,3],[1,2,3,4],[1,2,3,4,7],[1,2,3,4],[1,2,3,4],[2]],[[1],[1,5],[2],[2]],[[0],[0,8],[2,3],[0,4],[0,4,5],[0,4,5,12],[0,4,5],[0,4,5,26],[2,3],[0,4,5,31],[0,4,5],[4,42],[2,3],[2,3]],[[0,1,2],[0,1,2,9],[0,1,2],[0],[6]],[[0,1,8],[0,1,18],[],[]],[[0,1],[0,1,12],[4],[0,5,6,7],[0,5,6,7,28],[0,5,6],[5],[4]],[[0,1,2,6],[0,1,2,6,44],[],[0,2,7],[0,7,8],[0,7,8,67],[0,7,8,69],[],[0,7,8,9],[0,7,8,9,75],[0,7,8,10],[0,7,9],[0,7,9,102],[0,7,9],[0,7,9,11],[0,7,9,11,114],[0,7,9,11],[0,7,9,11]],[[1,3,5],[1,3,5,7],[1,3,5,7,8],[1,3,5,7,8,24],[1,3,5,7,8,9],[1,3,5,7,8,9,28],[1,3,5,7,8],[1,3,5,7,8,9,28,33],[1,3,5,7,8,37],[1,3,5,7,8],[1,3,5,7,8,10],[1,3,5,7,8,10,47],[1,3,5,7,8],[1,3,5,7,8,9,28,57],[1,3,5,7,8,11],[1,3,5,7,8,11,66],[1,3,5,7,8],[1,3,5,7,8,9,70],[1,3,5,7,8,12],[1,3,5,7,8,12,79],[1,3,5,7,8],[6]],[[0],[0,3,4],[3,4,7,8,9],[3,4,7,8,9,10],[3,4,6,7,8,9],[3,4,6,7,8,9,14],[3,4,7,8,9],[3,4,7,8,9],[2]],[[0],[5,6,7],[5,6,7,8],[4,5,6,7],[5,6,7,12],[2],[5,6,7],[2]],[[0,1,2],[0,1,2,10],[0,1,2,10,17],[6,7,8],[0,1,2,20],[6,7,8],[6,7,8]],[[0,1,2,4,12],[],[0,2,15,16],[0,2,15,16,17],[0,2,15,16],[0,2,15,16]],[[0,4,5],[0,4,5,7],[0,4,5,7,9],[0,4,5,7,9,10],[0,4,5,7,9,10,11],[4,5,7,9,10,11,21,22,23],[4,5,7,9,10,11,21,22,23,24],[4,5,7,9,10,11,12,13,21,22,23],[4,5,7,9,10,11,13,21,22,23],[4,5,7,9,10,11,21,22,23],[4,5,7,9,10,11,21,22,23],[6]],[[0,1,2,3,4,5],[0,1,2,3,4,5,9],[0,1,2,3,4,5,9,10],[0,1,2,3,4,5,9,10],[0,1,2,3,4,5,9,10,16],[6,7,8],[0,1,2,3,4,5,9,10,21],[6,7,8],[0,1,2,3,4,5,9,10],[0,1,2,3,4,5,9,10],[0,1,2,3,4,5,9,10,11],[0,1,2,3,4,5,9,10,11,50],[6,7,8]],[],[],[],[],[],[],[],[],[],[],[],[],[],[],[],[]]
noncomputable def X:AM.Ctx:={ P:=Try.prog,G:=fun _=>.none,rw:=fun _ _=>false,keep:=fun f i=>((bY[f]?).getD [])[i]?,norm:=fun _ _=>false,dr:=fun _ _=>true,dy:=fun f id=>[(21,6),(21,7),(23,1),(29,19),(37,1),(48,9),(48,20),(58,3)].contains (f,id) }
theorem own:ownKnob Try.prog.godebug = .none:=by kernel_rfl
theorem full:∀ t e,t < Try.prog.types.size→Try.prog.underlying t = some (.slice e)→0 < Try.prog.cellsOf e:=slices_full_of Try.prog (by kernel_rfl)
theorem aaW:AM.Hu X:=AM.UZ (by kernel_rfl) (by kernel_rfl)
@[simp] theorem amc (f i:Nat):X.dr f i = true:=rfl
@[simp] theorem aeW (f i:Nat):X.norm f i = false:=rfl
@[simp] theorem amd (f i:Nat):X.rw f i = (false):=rfl
@[simp] theorem aiZ (i:Nat):X.keep 3 i = ([[],[1],[1,2],[3],[3,4],[3,4,6],[3,4,6,8],[0]]:List (List Nat))[i]?:=congrArg (fun (l:List (List Nat))=>l[i]?) (show (bY[3]?).getD [] = _ by kernel_rfl)
@[simp] theorem ai0 (i:Nat):X.keep 4 i = ([[0],[0,5],[2],[0,8],[2],[0,3],[2]]:List (List Nat))[i]?:=congrArg (fun (l:List (List Nat))=>l[i]?) (show (bY[4]?).getD [] = _ by kernel_rfl)
@[simp] theorem ai1 (i:Nat):X.keep 5 i = ([[0],[0,10],[2],[0,13],[2],[0,3],[0,3,4],[0,3,4,5],[0,3,4,5,19],[0,3,4,5],[0,3,4,5,6],[0,3,4,5,6,53],[2],[0,3,4,5,6,7],[0,3,4,5,6,7,56],[0,3,4,5,6,7],[0,3,4,5,6,7,8],[0,3,4,5,6,7,8,85],[0,3,4,5,6,7,8],[0,3,4,5,6,7,116],[2],[0,3,4,5],[2]]:List (List Nat))[i]?:=congrArg (fun (l:List (List Nat))=>l[i]?) (show (bY[5]?).getD [] = _ by kernel_rfl)
@[simp] theorem ai2 (i:Nat):X.keep 6 i = ([[0],[0,14],[2],[0,17],[2],[0,3,4],[0,3,4,5,6],[0,3,4,5,6,7,8,9],[0,3,4,5,6,7,8,9,10,11,12],[2]]:List (List Nat))[i]?:=congrArg (fun (l:List (List Nat))=>l[i]?) (show (bY[6]?).getD [] = _ by kernel_rfl)
@[simp] theorem ai3 (i:Nat):X.keep 7 i = ([[0],[0,11],[2],[0,14],[2],[0,3,4],[3,4,5,6],[3,4,5,27],[2],[3,5,29],[2],[3,5,7,8,9],[2]]:List (List Nat))[i]?:=congrArg (fun (l:List (List Nat))=>l[i]?) (show (bY[7]?).getD [] = _ by kernel_rfl)
@[simp] theorem ai4 (i:Nat):X.keep 8 i = ([[0],[0,3],[0,3,4],[0,3,4,8],[0,3,4],[0,3,4],[2]]:List (List Nat))[i]?:=congrArg (fun (l:List (List Nat))=>l[i]?) (show (bY[8]?).getD [] = _ by kernel_rfl)
@[simp] theorem ai5 (i:Nat):X.keep 9 i = ([[0,1],[0,1,10],[4],[0,1,5],[0,1,5,14],[0,1,5],[0,1,5,25],[4],[4]]:List (List Nat))[i]?:=congrArg (fun (l:List (List Nat))=>l[i]?) (show (bY[9]?).getD [] = _ by kernel_rfl)
@[simp] theorem aeX (i:Nat):X.keep 10 i = ([[1],[1,3],[1,3,4],[1,3,4,5],[1,3,4,5,6],[1,3,4,5,6,18],[1,3,4,5,6,7,8],[1,3,4,5,6,7,8,23],[1,3,4,5,6,7,8,9],[1,3,4,5,6,7,8,9,10],[1,3,4,5,6,7,8,9,10,58],[1,3,4,5,6,7,8,9,10],[1,3,4,5,6,7,8,9,10,11],[1,3,4,5,6,7,8,9,10,11,70],[1,3,4,5,6,7,8,9,10],[1,3,4,5,6,7,8,12],[1,3,4,5,6,7,8,12,84],[1,3,4,5,6,12],[1,3,4,5,6,12],[1,3,4,5,6,94,95],[1,3,4,5,6,94,95,96],[1,3,4,5,6,94,95],[1,3,4,5,6,94,95],[1,3,4,5,6,94,95],[2]]:List (List Nat))[i]?:=congrArg (fun (l:List (List Nat))=>l[i]?) (show (bY[10]?).getD [] = _ by kernel_rfl)
@[simp] theorem aeY (i:Nat):X.keep 11 i = ([[0,1],[4]]:List (List Nat))[i]?:=congrArg (fun (l:List (List Nat))=>l[i]?) (show (bY[11]?).getD [] = _ by kernel_rfl)
@[simp] theorem aeZ (i:Nat):X.keep 12 i = ([[0],[0,3],[3,5],[3,5,18],[2],[2]]:List (List Nat))[i]?:=congrArg (fun (l:List (List Nat))=>l[i]?) (show (bY[12]?).getD [] = _ by kernel_rfl)
@[simp] theorem ae0 (i:Nat):X.keep 13 i = ([[0],[0,3],[0,3,4],[0,3,4,5],[0,3,4,5,14],[0,3,4,5],[0,3,4,5],[0,3,4,5],[0,3,4,5],[0,3,4,5],[0,3,4,5],[0,3,4,5],[0,3,5],[0,3,58],[2]]:List (List Nat))[i]?:=congrArg (fun (l:List (List Nat))=>l[i]?) (show (bY[13]?).getD [] = _ by kernel_rfl)
@[simp] theorem ae1 (i:Nat):X.keep 14 i = ([[0],[0,4],[4,7,8,9],[4,7,8,9,10],[4,6,7,8,9],[4,6,7,8,9,15],[2,3],[4,6,7,8,9,18],[4,7,8,9],[4,6,7,8,9,28],[2,3],[4,6,7,8,9,30,31],[4,6,7,8,9,30,31,32],[4,6,7,8,9,30,31],[4,6,7,8,9,30,31],[4,7,8,9],[2,3]]:List (List Nat))[i]?:=congrArg (fun (l:List (List Nat))=>l[i]?) (show (bY[14]?).getD [] = _ by kernel_rfl)
@[simp] theorem ae2 (i:Nat):X.keep 15 i = ([[],[0]]:List (List Nat))[i]?:=congrArg (fun (l:List (List Nat))=>l[i]?) (show (bY[15]?).getD [] = _ by kernel_rfl)
@[simp] theorem ae3 (i:Nat):X.keep 16 i = ([[0],[2]]:List (List Nat))[i]?:=congrArg (fun (l:List (List Nat))=>l[i]?) (show (bY[16]?).getD [] = _ by kernel_rfl)
@[simp] theorem ae4 (i:Nat):X.keep 17 i = ([[0],[0,3],[0,3,4],[0,3,4,12],[0,3,4,5,6],[0,3,4,5,6,7],[0,3,4,5,6,7,23],[0,3,4,5,6,7],[0,3,4,5,6,7,8],[0,3,4,5,6,7,8,32],[0,3,4,5,6,7],[0,3,4,5,6,36],[0,3,4,5],[0,3,4],[0,3,4],[0,3,4],[2]]:List (List Nat))[i]?:=congrArg (fun (l:List (List Nat))=>l[i]?) (show (bY[17]?).getD [] = _ by kernel_rfl)
@[simp] theorem ae5 (i:Nat):X.keep 18 i = ([[0],[0,3],[0,3,4],[0,3,4,14],[0,3,4,5],[0,3,4,5,6],[0,3,4,5,6,25],[0,3,4,5,6],[0,3,4,5,6],[0,3,4,5,6],[0,3,4,6],[0,3,4,54],[2],[2]]:List (List Nat))[i]?:=congrArg (fun (l:List (List Nat))=>l[i]?) (show (bY[18]?).getD [] = _ by kernel_rfl)
@[simp] theorem ae6 (i:Nat):X.keep 19 i = ([[0],[0,3],[3,5],[3,5,18],[2],[2]]:List (List Nat))[i]?:=congrArg (fun (l:List (List Nat))=>l[i]?) (show (bY[19]?).getD [] = _ by kernel_rfl)
@[simp] theorem ae7 (i:Nat):X.keep 20 i = ([[0,1],[0,1,18],[4],[5],[5,6],[5,6,33],[5,6],[5,6,40],[4],[4]]:List (List Nat))[i]?:=congrArg (fun (l:List (List Nat))=>l[i]?) (show (bY[20]?).getD [] = _ by kernel_rfl)
@[simp] theorem ae8 (i:Nat):X.keep 21 i = ([[0,1],[0,1,9],[4,5,6],[7],[7],[7,20],[4,5,6],[4,5,6]]:List (List Nat))[i]?:=congrArg (fun (l:List (List Nat))=>l[i]?) (show (bY[21]?).getD [] = _ by kernel_rfl)
@[simp] theorem ae9 (i:Nat):X.keep 22 i = ([[0],[0,5],[0,5,24],[2,3],[0,6,7],[0,6,7,8],[0,6,7,8,10],[0,6,7,8,10,12],[0,6,7,8,10,12],[0,6,7,8,10,12],[6,7,8,10,12,46,47,48],[6,7,8,10,12,46,47,48,49],[6,7,8,10,12,14,46,47,48],[6,7,8,10,12,14,46,47,48,54],[6,7,8,10,12,46,47,48],[6,7,8,10,12,14,15,16,17,46,47,48],[6,7,8,10,12,14,16,17,46,47,48],[6,7,8,10,12,14,46,47,48],[6,7,8,10,12,14,15,16,17,46,47,48],[6,7,8,10,12,14,16,17,46,47,48],[6,7,8,10,12,46,47,48],[6,7,8,10,12,46,47,48],[12],[2,3]]:List (List Nat))[i]?:=congrArg (fun (l:List (List Nat))=>l[i]?) (show (bY[22]?).getD [] = _ by kernel_rfl)
@[simp] theorem afa (i:Nat):X.keep 23 i = ([[0,1,2,9],[0,2,4],[]]:List (List Nat))[i]?:=congrArg (fun (l:List (List Nat))=>l[i]?) (show (bY[23]?).getD [] = _ by kernel_rfl)
@[simp] theorem afb (i:Nat):X.keep 24 i = ([[0,1,2],[0,1,2,7],[0,1,2,7,32],[0,1,2,7],[6]]:List (List Nat))[i]?:=congrArg (fun (l:List (List Nat))=>l[i]?) (show (bY[24]?).getD [] = _ by kernel_rfl)
@[simp] theorem afc (i:Nat):X.keep 25 i = ([[0,1,7,8],[0,1,7,8,9],[0,1,6,7,8],[0,1,7,8],[0,1,7,8]]:List (List Nat))[i]?:=congrArg (fun (l:List (List Nat))=>l[i]?) (show (bY[25]?).getD [] = _ by kernel_rfl)
@[simp] theorem afd (i:Nat):X.keep 26 i = ([[1],[1,5],[2],[2]]:List (List Nat))[i]?:=congrArg (fun (l:List (List Nat))=>l[i]?) (show (bY[26]?).getD [] = _ by kernel_rfl)
@[simp] theorem afe (i:Nat):X.keep 27 i = ([[0,1,2],[0,1,2,7],[0,1,2,7,34],[0,1,2,7],[6]]:List (List Nat))[i]?:=congrArg (fun (l:List (List Nat))=>l[i]?) (show (bY[27]?).getD [] = _ by kernel_rfl)
@[simp] theorem aff (i:Nat):X.keep 28 i = ([[0],[0,5],[0,5,24],[2,3],[0,6,7],[0,6,7,8],[0,6,7,8,10],[0,6,7,8,10,12],[0,6,7,8,10,12],[0,6,7,8,10,12],[0,6,7,8,10,12,13],[0,6,7,8,10,12,13,49],[0,6,7,8,10,12,13],[0,6,7,8,10,12,13,57],[0,6,7,8,10,12,13,14],[0,6,7,8,10,12,13],[0,6,7,8,10,12,13,15],[0,6,7,8,10,12,13,15,16,17],[0,6,7,8,10,12,13,16,17],[0,6,7,8,10,12,13],[0,6,7,8,10,12,13,15],[0,6,7,8,10,12,13,15,16,17],[0,6,7,8,10,12,13,16,17],[0,6,7,8,10,12,13],[12],[2,3]]:List (List Nat))[i]?:=congrArg (fun (l:List (List Nat))=>l[i]?) (show (bY[28]?).getD [] = _ by kernel_rfl)
@[simp] theorem afg (i:Nat):X.keep 29 i = ([[0],[0,3],[0,3,4],[0,3,17],[0,3,5],[0,3,5,6],[0,3,5,6],[0,3,5,6],[0,3,5,6,39],[0,3,5,6,41],[0,3,5,6],[0,3,5,6,41,44],[0,3,5,6],[0,3,5,6,41,48],[0,3,5,6],[0,3,5,6,55],[0,3,5,6,7,8],[0,3,5,6],[0,3,5],[0,3,4],[2]]:List (List Nat))[i]?:=congrArg (fun (l:List (List Nat))=>l[i]?) (show (bY[29]?).getD [] = _ by kernel_rfl)
@[simp] theorem afh (i:Nat):X.keep 30 i = ([[0,1],[0,1,4],[0,1,4,5],[0,1,2,4],[0,1,2,3,4],[0,1,2,3,4,7],[0,1,3,4],[0,1,3,4,14],[0,1,3,4],[0,1,4],[0,1,4],[0,1,26],[0,1,26,27],[0,1,26],[0,1,26],[0,1]]:List (List Nat))[i]?:=congrArg (fun (l:List (List Nat))=>l[i]?) (show (bY[30]?).getD [] = _ by kernel_rfl)
@[simp] theorem afi (i:Nat):X.keep 31 i = ([[0],[0,5],[0,5,18],[2,3],[0,6],[0,8],[0,8,9],[8,9,30,31,32],[8,9,30,31,32,33],[8,9,10,11,30,31,32],[8,9,10,11,30,31,32],[8,9,10,11,30,31,32,41],[8,9,11,30,31,32],[8,9,30,31,32],[8,9,30,31,32],[2,3]]:List (List Nat))[i]?:=congrArg (fun (l:List (List Nat))=>l[i]?) (show (bY[31]?).getD [] = _ by kernel_rfl)
@[simp] theorem afj (i:Nat):X.keep 32 i = ([[0,1,6],[0,1,6,10],[0,1,6],[0,1,6]]:List (List Nat))[i]?:=congrArg (fun (l:List (List Nat))=>l[i]?) (show (bY[32]?).getD [] = _ by kernel_rfl)
@[simp] theorem afk (i:Nat):X.keep 33 i = ([[0],[0,6],[2,3,4],[0,9],[2,3,4],[0,2,3],[0,2,3,4],[0,2,3,4],[0,2,3,4,15],[0,2,3,4,15,16],[0,2,3,4,15,22],[2,3,4],[0,2,3,4,15],[0,2,3,4,15]]:List (List Nat))[i]?:=congrArg (fun (l:List (List Nat))=>l[i]?) (show (bY[33]?).getD [] = _ by kernel_rfl)
@[simp] theorem afl (i:Nat):X.keep 34 i = ([[0],[0,6],[2,3,4],[0,2,3],[0,2,3,4],[0,2,3,4],[0,2,3,4,12],[0,2,3,4,12,13],[0,2,3,4,12,19],[2,3,4],[0,2,3,4,12],[0,2,3,4,12]]:List (List Nat))[i]?:=congrArg (fun (l:List (List Nat))=>l[i]?) (show (bY[34]?).getD [] = _ by kernel_rfl)
@[simp] theorem afm (i:Nat):X.keep 35 i = ([[0,1,9],[0,1],[0],[]]:List (List Nat))[i]?:=congrArg (fun (l:List (List Nat))=>l[i]?) (show (bY[35]?).getD [] = _ by kernel_rfl)
@[simp] theorem afn (i:Nat):X.keep 36 i = ([[0],[0,4],[0,4,5],[0,4,5,10],[0,4,5],[0,4,5,18],[2,3],[0,4,5,24],[0,4,5],[0,4,5,40],[2,3],[0,4,5,6],[0,4,5,6,47],[0,4,5,6],[0,4,5,6],[2,3]]:List (List Nat))[i]?:=congrArg (fun (l:List (List Nat))=>l[i]?) (show (bY[36]?).getD [] = _ by kernel_rfl)
@[simp] theorem afo (i:Nat):X.keep 37 i = ([[],[2,3],[2,3,4],[2,3,4,9],[2,3,4],[2,3,4],[2,3,4,16],[2,3,4],[2,3,4,21],[2,3,4],[2,3,4,26],[2,3,4],[2,3,5],[2,3,5,31],[2,3,5],[2,3,5],[0,1]]:List (List Nat))[i]?:=congrArg (fun (l:List (List Nat))=>l[i]?) (show (bY[37]?).getD [] = _ by kernel_rfl)
@[simp] theorem afp (i:Nat):X.keep 38 i = ([[0],[0,5],[0,5,18],[2,3],[0,6],[0,6,7,8],[0,6,7,8,9],[0,6,7,8,9,24],[0,6,7,8,9],[0,6,7,8,9,10],[0,6,7,8,9,10,30],[0,6,7,8,9,10],[0,6,7,8,9,10,38],[0,6,7,8,9,10,40],[0,6,7,9,10],[0,6,7,8,9,10],[0,6,11],[0,6,11,56],[0,6,11],[0,6,11,63],[0,6,11],[2,3]]:List (List Nat))[i]?:=congrArg (fun (l:List (List Nat))=>l[i]?) (show (bY[38]?).getD [] = _ by kernel_rfl)
@[simp] theorem afq (i:Nat):X.keep 39 i = ([[0,1,2,6],[0,1,2,6,9],[0,1,2,6],[0,1,2,6],[0,1,2,6]]:List (List Nat))[i]?:=congrArg (fun (l:List (List Nat))=>l[i]?) (show (bY[39]?).getD [] = _ by kernel_rfl)
@[simp] theorem afr (i:Nat):X.keep 40 i = ([[0,1,6],[0,1,6,10],[0,1,6],[0,1,6],[0,1,6]]:List (List Nat))[i]?:=congrArg (fun (l:List (List Nat))=>l[i]?) (show (bY[40]?).getD [] = _ by kernel_rfl)
@[simp] theorem afs (i:Nat):X.keep 41 i = ([[0],[0,8],[2],[0,3],[0,3,4],[0,3,4,10],[0,3,4],[0,3,4,5],[0,3,4,20],[0,3,4],[2]]:List (List Nat))[i]?:=congrArg (fun (l:List (List Nat))=>l[i]?) (show (bY[41]?).getD [] = _ by kernel_rfl)
@[simp] theorem aft (i:Nat):X.keep 42 i = ([[0],[0,6],[2,3],[0,8],[2,3],[0,4],[2,3]]:List (List Nat))[i]?:=congrArg (fun (l:List (List Nat))=>l[i]?) (show (bY[42]?).getD [] = _ by kernel_rfl)
@[simp] theorem afu (i:Nat):X.keep 43 i = ([[0],[0,3],[0,3,4],[0,3,4,8],[0,3,4],[0,3,4,5],[0,3,4,18],[0,3,4],[2]]:List (List Nat))[i]?:=congrArg (fun (l:List (List Nat))=>l[i]?) (show (bY[43]?).getD [] = _ by kernel_rfl)
@[simp] theorem afv (i:Nat):X.keep 44 i = ([[0],[0,6],[2,3],[0,4],[2,3]]:List (List Nat))[i]?:=congrArg (fun (l:List (List Nat))=>l[i]?) (show (bY[44]?).getD [] = _ by kernel_rfl)
@[simp] theorem afw (i:Nat):X.keep 45 i = ([[0,1],[0,1,5],[0,1,5,6],[0,1,5,6,16],[0,1,5,6],[0,1,5,6,29],[],[4],[0,1,5,6],[0,1,5,6],[4]]:List (List Nat))[i]?:=congrArg (fun (l:List (List Nat))=>l[i]?) (show (bY[45]?).getD [] = _ by kernel_rfl)
@[simp] theorem afx (i:Nat):X.keep 46 i = ([[0],[0,2],[0,2,3],[0,2,29],[0,2],[0,2,4],[0,2,4,41],[0,2,4],[0,2,4]]:List (List Nat))[i]?:=congrArg (fun (l:List (List Nat))=>l[i]?) (show (bY[46]?).getD [] = _ by kernel_rfl)
@[simp] theorem afy (i:Nat):X.keep 47 i = ([[0,1,2,11],[0,1,2,6],[0,1,2],[0,1,2,6,19],[0,1,2,6,29],[0,1,2]]:List (List Nat))[i]?:=congrArg (fun (l:List (List Nat))=>l[i]?) (show (bY[47]?).getD [] = _ by kernel_rfl)
@[simp] theorem afz (i:Nat):X.keep 48 i = ([[0],[0,4,5,6],[0,4,5,6,36],[0,4,5,6],[0,4,5,6,7],[0,4,5,6,7,8],[0,4,5,7,8,41,42],[0,4,5,7,8,41,42,43],[0,4,5,7,8,9,41,42],[0,4,5,7,8,41,42],[0,4,5,7,8,41,42],[0,4,5,8,57],[2,3],[0,4,5,8,10,11],[0,4,5,8,68],[],[2,3],[0,4,12],[0,4,12,81],[2,3],[0,2,3],[0,2,3,13,14],[0,2,3,109],[0,2,3],[0,2,3,13,14],[0,2,3,132],[2,3],[2,3]]:List (List Nat))[i]?:=congrArg (fun (l:List (List Nat))=>l[i]?) (show (bY[48]?).getD [] = _ by kernel_rfl)
@[simp] theorem afA (i:Nat):X.keep 49 i = ([[0,1,8],[]]:List (List Nat))[i]?:=congrArg (fun (l:List (List Nat))=>l[i]?) (show (bY[49]?).getD [] = _ by kernel_rfl)
@[simp] theorem afB (i:Nat):X.keep 50 i = ([[0],[3,4],[3,4,13],[2,3],[4,5],[4,5,6],[4,5,6,16],[4,5,6],[4,5,6],[5,28],[2,3],[2,3]]:List (List Nat))[i]?:=congrArg (fun (l:List (List Nat))=>l[i]?) (show (bY[50]?).getD [] = _ by kernel_rfl)
@[simp] theorem afC (i:Nat):X.keep 51 i = ([[0,2],[0,2,4],[0,2,4,9],[2,3],[2,4,11,12,13],[2,4,11,12,13,14],[2,4,6,11,12,13],[2,4,6,11,12,13,22],[2,3],[2,4,11,12,13],[2,4,11,12,13],[2,3]]:List (List Nat))[i]?:=congrArg (fun (l:List (List Nat))=>l[i]?) (show (bY[51]?).getD [] = _ by kernel_rfl)
@[simp] theorem afD (i:Nat):X.keep 52 i = ([[1,2],[1,2,3],[1,2,3],[1,2,3,4],[1,2,3,4,7],[1,2,3,4],[1,2,3,4],[2]]:List (List Nat))[i]?:=congrArg (fun (l:List (List Nat))=>l[i]?) (show (bY[52]?).getD [] = _ by kernel_rfl)
@[simp] theorem afE (i:Nat):X.keep 53 i = ([[1],[1,5],[2],[2]]:List (List Nat))[i]?:=congrArg (fun (l:List (List Nat))=>l[i]?) (show (bY[53]?).getD [] = _ by kernel_rfl)
@[simp] theorem afF (i:Nat):X.keep 54 i = ([[0],[0,8],[2,3],[0,4],[0,4,5],[0,4,5,12],[0,4,5],[0,4,5,26],[2,3],[0,4,5,31],[0,4,5],[4,42],[2,3],[2,3]]:List (List Nat))[i]?:=congrArg (fun (l:List (List Nat))=>l[i]?) (show (bY[54]?).getD [] = _ by kernel_rfl)
@[simp] theorem afG (i:Nat):X.keep 55 i = ([[0,1,2],[0,1,2,9],[0,1,2],[0],[6]]:List (List Nat))[i]?:=congrArg (fun (l:List (List Nat))=>l[i]?) (show (bY[55]?).getD [] = _ by kernel_rfl)
@[simp] theorem afH (i:Nat):X.keep 56 i = ([[0,1,8],[0,1,18],[],[]]:List (List Nat))[i]?:=congrArg (fun (l:List (List Nat))=>l[i]?) (show (bY[56]?).getD [] = _ by kernel_rfl)
@[simp] theorem afI (i:Nat):X.keep 57 i = ([[0,1],[0,1,12],[4],[0,5,6,7],[0,5,6,7,28],[0,5,6],[5],[4]]:List (List Nat))[i]?:=congrArg (fun (l:List (List Nat))=>l[i]?) (show (bY[57]?).getD [] = _ by kernel_rfl)
@[simp] theorem afJ (i:Nat):X.keep 58 i = ([[0,1,2,6],[0,1,2,6,44],[],[0,2,7],[0,7,8],[0,7,8,67],[0,7,8,69],[],[0,7,8,9],[0,7,8,9,75],[0,7,8,10],[0,7,9],[0,7,9,102],[0,7,9],[0,7,9,11],[0,7,9,11,114],[0,7,9,11],[0,7,9,11]]:List (List Nat))[i]?:=congrArg (fun (l:List (List Nat))=>l[i]?) (show (bY[58]?).getD [] = _ by kernel_rfl)
@[simp] theorem afK (i:Nat):X.keep 59 i = ([[1,3,5],[1,3,5,7],[1,3,5,7,8],[1,3,5,7,8,24],[1,3,5,7,8,9],[1,3,5,7,8,9,28],[1,3,5,7,8],[1,3,5,7,8,9,28,33],[1,3,5,7,8,37],[1,3,5,7,8],[1,3,5,7,8,10],[1,3,5,7,8,10,47],[1,3,5,7,8],[1,3,5,7,8,9,28,57],[1,3,5,7,8,11],[1,3,5,7,8,11,66],[1,3,5,7,8],[1,3,5,7,8,9,70],[1,3,5,7,8,12],[1,3,5,7,8,12,79],[1,3,5,7,8],[6]]:List (List Nat))[i]?:=congrArg (fun (l:List (List Nat))=>l[i]?) (show (bY[59]?).getD [] = _ by kernel_rfl)
@[simp] theorem afL (i:Nat):X.keep 60 i = ([[0],[0,3,4],[3,4,7,8,9],[3,4,7,8,9,10],[3,4,6,7,8,9],[3,4,6,7,8,9,14],[3,4,7,8,9],[3,4,7,8,9],[2]]:List (List Nat))[i]?:=congrArg (fun (l:List (List Nat))=>l[i]?) (show (bY[60]?).getD [] = _ by kernel_rfl)
@[simp] theorem afM (i:Nat):X.keep 61 i = ([[0],[5,6,7],[5,6,7,8],[4,5,6,7],[5,6,7,12],[2],[5,6,7],[2]]:List (List Nat))[i]?:=congrArg (fun (l:List (List Nat))=>l[i]?) (show (bY[61]?).getD [] = _ by kernel_rfl)
@[simp] theorem afN (i:Nat):X.keep 62 i = ([[0,1,2],[0,1,2,10],[0,1,2,10,17],[6,7,8],[0,1,2,20],[6,7,8],[6,7,8]]:List (List Nat))[i]?:=congrArg (fun (l:List (List Nat))=>l[i]?) (show (bY[62]?).getD [] = _ by kernel_rfl)
@[simp] theorem afO (i:Nat):X.keep 63 i = ([[0,1,2,4,12],[],[0,2,15,16],[0,2,15,16,17],[0,2,15,16],[0,2,15,16]]:List (List Nat))[i]?:=congrArg (fun (l:List (List Nat))=>l[i]?) (show (bY[63]?).getD [] = _ by kernel_rfl)
@[simp] theorem afP (i:Nat):X.keep 64 i = ([[0,4,5],[0,4,5,7],[0,4,5,7,9],[0,4,5,7,9,10],[0,4,5,7,9,10,11],[4,5,7,9,10,11,21,22,23],[4,5,7,9,10,11,21,22,23,24],[4,5,7,9,10,11,12,13,21,22,23],[4,5,7,9,10,11,13,21,22,23],[4,5,7,9,10,11,21,22,23],[4,5,7,9,10,11,21,22,23],[6]]:List (List Nat))[i]?:=congrArg (fun (l:List (List Nat))=>l[i]?) (show (bY[64]?).getD [] = _ by kernel_rfl)
@[simp] theorem afQ (i:Nat):X.keep 65 i = ([[0,1,2,3,4,5],[0,1,2,3,4,5,9],[0,1,2,3,4,5,9,10],[0,1,2,3,4,5,9,10],[0,1,2,3,4,5,9,10,16],[6,7,8],[0,1,2,3,4,5,9,10,21],[6,7,8],[0,1,2,3,4,5,9,10],[0,1,2,3,4,5,9,10],[0,1,2,3,4,5,9,10,11],[0,1,2,3,4,5,9,10,11,50],[6,7,8]]:List (List Nat))[i]?:=congrArg (fun (l:List (List Nat))=>l[i]?) (show (bY[65]?).getD [] = _ by kernel_rfl)
attribute [go_sem] List.getElem?_cons_zero List.getElem?_cons_succ Go.AM.uQ Go.AM.yC
@[simp] theorem nt3:dW X 3 = 82:=by kernel_rfl
@[simp] theorem ame:bodied X 3 = true:=by kernel_rfl
@[simp] theorem amf:aF X 3 = []:=by kernel_rfl
@[simp] theorem nt4:dW X 4 = 35:=by kernel_rfl
@[simp] theorem amg:bodied X 4 = true:=by kernel_rfl
@[simp] theorem amh:aF X 4 = [28]:=by kernel_rfl
@[simp] theorem nt5:dW X 5 = 124:=by kernel_rfl
@[simp] theorem ami:bodied X 5 = true:=by kernel_rfl
@[simp] theorem amj:aF X 5 = [28]:=by kernel_rfl
@[simp] theorem nt6:dW X 6 = 89:=by kernel_rfl
@[simp] theorem amk:bodied X 6 = true:=by kernel_rfl
@[simp] theorem aml:aF X 6 = [28]:=by kernel_rfl
@[simp] theorem nt7:dW X 7 = 57:=by kernel_rfl
@[simp] theorem amm:bodied X 7 = true:=by kernel_rfl
@[simp] theorem amn:aF X 7 = [22]:=by kernel_rfl
@[simp] theorem nt8:dW X 8 = 19:=by kernel_rfl
@[simp] theorem amo:bodied X 8 = true:=by kernel_rfl
@[simp] theorem amq:aF X 8 = [9]:=by kernel_rfl
@[simp] theorem nt9:dW X 9 = 26:=by kernel_rfl
@[simp] theorem amr:bodied X 9 = true:=by kernel_rfl
@[simp] theorem ams:aF X 9 = [22,22]:=by kernel_rfl
@[simp] theorem amu:dW X 10 = 104:=by kernel_rfl
@[simp] theorem ai6:bodied X 10 = true:=by kernel_rfl
@[simp] theorem aaX:aF X 10 = [28]:=by kernel_rfl
@[simp] theorem amv:dW X 11 = 10:=by kernel_rfl
@[simp] theorem ai7:bodied X 11 = true:=by kernel_rfl
@[simp] theorem aaY:aF X 11 = [28,28]:=by kernel_rfl
@[simp] theorem amw:dW X 12 = 21:=by kernel_rfl
@[simp] theorem ai8:bodied X 12 = true:=by kernel_rfl
@[simp] theorem aaZ:aF X 12 = [28]:=by kernel_rfl
@[simp] theorem amx:dW X 13 = 63:=by kernel_rfl
@[simp] theorem ai9:bodied X 13 = true:=by kernel_rfl
@[simp] theorem aa0:aF X 13 = [28]:=by kernel_rfl
@[simp] theorem amy:dW X 14 = 47:=by kernel_rfl
@[simp] theorem aja:bodied X 14 = true:=by kernel_rfl
@[simp] theorem ZQ:aF X 14 = [22]:=by kernel_rfl
@[simp] theorem amA:dW X 15 = 13:=by kernel_rfl
@[simp] theorem ajb:bodied X 15 = true:=by kernel_rfl
@[simp] theorem ajc:aF X 15 = []:=by kernel_rfl
@[simp] theorem amB:dW X 16 = 14:=by kernel_rfl
@[simp] theorem ajd:bodied X 16 = true:=by kernel_rfl
@[simp] theorem aje:aF X 16 = [28]:=by kernel_rfl
@[simp] theorem amC:dW X 17 = 57:=by kernel_rfl
@[simp] theorem ajf:bodied X 17 = true:=by kernel_rfl
@[simp] theorem ajg:aF X 17 = [28]:=by kernel_rfl
@[simp] theorem amD:dW X 18 = 57:=by kernel_rfl
@[simp] theorem ajh:bodied X 18 = true:=by kernel_rfl
@[simp] theorem aji:aF X 18 = [28]:=by kernel_rfl
@[simp] theorem amE:dW X 19 = 21:=by kernel_rfl
@[simp] theorem ajj:bodied X 19 = true:=by kernel_rfl
@[simp] theorem ajk:aF X 19 = [28]:=by kernel_rfl
@[simp] theorem amF:dW X 20 = 41:=by kernel_rfl
@[simp] theorem ajl:bodied X 20 = true:=by kernel_rfl
@[simp] theorem ajm:aF X 20 = [28,28]:=by kernel_rfl
@[simp] theorem amG:dW X 21 = 35:=by kernel_rfl
@[simp] theorem ajn:bodied X 21 = true:=by kernel_rfl
@[simp] theorem aal:aF X 21 = [28,3]:=by kernel_rfl
@[simp] theorem amH:dW X 22 = 128:=by kernel_rfl
@[simp] theorem ajo:bodied X 22 = true:=by kernel_rfl
@[simp] theorem aa1:aF X 22 = [22]:=by kernel_rfl
@[simp] theorem amI:dW X 23 = 33:=by kernel_rfl
@[simp] theorem ajp:bodied X 23 = true:=by kernel_rfl
@[simp] theorem aa2:aF X 23 = [3]:=by kernel_rfl
@[simp] theorem amJ:dW X 24 = 36:=by kernel_rfl
@[simp] theorem ajq:bodied X 24 = true:=by kernel_rfl
@[simp] theorem aaP:aF X 24 = [28,3,3]:=by kernel_rfl
@[simp] theorem amK:dW X 25 = 17:=by kernel_rfl
@[simp] theorem ajr:bodied X 25 = true:=by kernel_rfl
@[simp] theorem aaM:aF X 25 = [44,3,3]:=by kernel_rfl
@[simp] theorem amL:dW X 26 = 32:=by kernel_rfl
@[simp] theorem ajs:bodied X 26 = true:=by kernel_rfl
@[simp] theorem aa3:aF X 26 = [25]:=by kernel_rfl
@[simp] theorem amM:dW X 27 = 38:=by kernel_rfl
@[simp] theorem ajt:bodied X 27 = true:=by kernel_rfl
@[simp] theorem aju:aF X 27 = [28,3,3]:=by kernel_rfl
@[simp] theorem amN:dW X 28 = 148:=by kernel_rfl
@[simp] theorem ajv:bodied X 28 = true:=by kernel_rfl
@[simp] theorem ajw:aF X 28 = [22]:=by kernel_rfl
@[simp] theorem amO:dW X 29 = 81:=by kernel_rfl
@[simp] theorem ajx:bodied X 29 = true:=by kernel_rfl
@[simp] theorem aak:aF X 29 = [50]:=by kernel_rfl
@[simp] theorem amP:dW X 30 = 34:=by kernel_rfl
@[simp] theorem ajy:bodied X 30 = true:=by kernel_rfl
@[simp] theorem ajz:aF X 30 = []:=by kernel_rfl
@[simp] theorem amQ:dW X 31 = 55:=by kernel_rfl
@[simp] theorem ajA:bodied X 31 = true:=by kernel_rfl
@[simp] theorem ajB:aF X 31 = [41]:=by kernel_rfl
@[simp] theorem amR:dW X 32 = 18:=by kernel_rfl
@[simp] theorem ajC:bodied X 32 = true:=by kernel_rfl
@[simp] theorem aaN:aF X 32 = [44,3,3]:=by kernel_rfl
@[simp] theorem amS:dW X 33 = 33:=by kernel_rfl
@[simp] theorem ajD:bodied X 33 = true:=by kernel_rfl
@[simp] theorem ZT:aF X 33 = [3]:=by kernel_rfl
@[simp] theorem amT:dW X 34 = 30:=by kernel_rfl
@[simp] theorem ajE:bodied X 34 = true:=by kernel_rfl
@[simp] theorem ZV:aF X 34 = [3]:=by kernel_rfl
@[simp] theorem amU:dW X 35 = 48:=by kernel_rfl
@[simp] theorem ajF:bodied X 35 = true:=by kernel_rfl
@[simp] theorem aaK:aF X 35 = [44,3]:=by kernel_rfl
@[simp] theorem amV:dW X 36 = 65:=by kernel_rfl
@[simp] theorem ajG:bodied X 36 = true:=by kernel_rfl
@[simp] theorem ajH:aF X 36 = [22]:=by kernel_rfl
@[simp] theorem amW:dW X 37 = 39:=by kernel_rfl
@[simp] theorem ajI:bodied X 37 = true:=by kernel_rfl
@[simp] theorem ajJ:aF X 37 = []:=by kernel_rfl
@[simp] theorem amX:dW X 38 = 68:=by kernel_rfl
@[simp] theorem ajK:bodied X 38 = true:=by kernel_rfl
@[simp] theorem ajL:aF X 38 = [41]:=by kernel_rfl
@[simp] theorem amY:dW X 39 = 36:=by kernel_rfl
@[simp] theorem ajM:bodied X 39 = true:=by kernel_rfl
@[simp] theorem ajN:aF X 39 = [61,3,3]:=by kernel_rfl
@[simp] theorem amZ:dW X 40 = 37:=by kernel_rfl
@[simp] theorem ajO:bodied X 40 = true:=by kernel_rfl
@[simp] theorem ajP:aF X 40 = [61,3,3]:=by kernel_rfl
@[simp] theorem am0:dW X 41 = 23:=by kernel_rfl
@[simp] theorem ajQ:bodied X 41 = true:=by kernel_rfl
@[simp] theorem ajR:aF X 41 = [3]:=by kernel_rfl
@[simp] theorem am1:dW X 42 = 23:=by kernel_rfl
@[simp] theorem ajS:bodied X 42 = true:=by kernel_rfl
@[simp] theorem ajT:aF X 42 = [3]:=by kernel_rfl
@[simp] theorem am2:dW X 43 = 21:=by kernel_rfl
@[simp] theorem ajU:bodied X 43 = true:=by kernel_rfl
@[simp] theorem ajV:aF X 43 = [3]:=by kernel_rfl
@[simp] theorem am3:dW X 44 = 20:=by kernel_rfl
@[simp] theorem ajW:bodied X 44 = true:=by kernel_rfl
@[simp] theorem ajX:aF X 44 = [3]:=by kernel_rfl
@[simp] theorem am4:dW X 45 = 63:=by kernel_rfl
@[simp] theorem ajY:bodied X 45 = true:=by kernel_rfl
@[simp] theorem aa4:aF X 45 = [50,3]:=by kernel_rfl
@[simp] theorem am5:dW X 46 = 49:=by kernel_rfl
@[simp] theorem ajZ:bodied X 46 = true:=by kernel_rfl
@[simp] theorem aac:aF X 46 = [50]:=by kernel_rfl
@[simp] theorem am6:dW X 47 = 36:=by kernel_rfl
@[simp] theorem aj0:bodied X 47 = true:=by kernel_rfl
@[simp] theorem aau:aF X 47 = [50,41,41]:=by kernel_rfl
@[simp] theorem am7:dW X 48 = 137:=by kernel_rfl
@[simp] theorem aj1:bodied X 48 = true:=by kernel_rfl
@[simp] theorem aa5:aF X 48 = [50]:=by kernel_rfl
@[simp] theorem am8:dW X 49 = 13:=by kernel_rfl
@[simp] theorem aj2:bodied X 49 = true:=by kernel_rfl
@[simp] theorem aa6:aF X 49 = [50,31]:=by kernel_rfl
@[simp] theorem am9:dW X 50 = 31:=by kernel_rfl
@[simp] theorem aj3:bodied X 50 = true:=by kernel_rfl
@[simp] theorem aj6:aF X 50 = [41]:=by kernel_rfl
@[simp] theorem ana:dW X 51 = 31:=by kernel_rfl
@[simp] theorem aj7:bodied X 51 = true:=by kernel_rfl
@[simp] theorem aj8:aF X 51 = [41]:=by kernel_rfl
@[simp] theorem anb:dW X 52 = 22:=by kernel_rfl
@[simp] theorem aj9:bodied X 52 = true:=by kernel_rfl
@[simp] theorem akb:aF X 52 = [73]:=by kernel_rfl
@[simp] theorem anc:dW X 53 = 32:=by kernel_rfl
@[simp] theorem akc:bodied X 53 = true:=by kernel_rfl
@[simp] theorem akd:aF X 53 = [25]:=by kernel_rfl
@[simp] theorem ane:dW X 54 = 45:=by kernel_rfl
@[simp] theorem ake:bodied X 54 = true:=by kernel_rfl
@[simp] theorem akf:aF X 54 = [41]:=by kernel_rfl
@[simp] theorem anf:dW X 55 = 30:=by kernel_rfl
@[simp] theorem akg:bodied X 55 = true:=by kernel_rfl
@[simp] theorem akh:aF X 55 = [28,3,3]:=by kernel_rfl
@[simp] theorem ang:dW X 56 = 31:=by kernel_rfl
@[simp] theorem aki:bodied X 56 = true:=by kernel_rfl
@[simp] theorem aa7:aF X 56 = [50,5]:=by kernel_rfl
@[simp] theorem anh:dW X 57 = 41:=by kernel_rfl
@[simp] theorem akj:bodied X 57 = true:=by kernel_rfl
@[simp] theorem aa8:aF X 57 = [50,41]:=by kernel_rfl
@[simp] theorem ani:dW X 58 = 132:=by kernel_rfl
@[simp] theorem akk:bodied X 58 = true:=by kernel_rfl
@[simp] theorem aai:aF X 58 = [50,3,41]:=by kernel_rfl
@[simp] theorem anj:dW X 59 = 84:=by kernel_rfl
@[simp] theorem akl:bodied X 59 = true:=by kernel_rfl
@[simp] theorem aaz:aF X 59 = [50,41,3]:=by kernel_rfl
@[simp] theorem ank:dW X 60 = 27:=by kernel_rfl
@[simp] theorem akm:bodied X 60 = true:=by kernel_rfl
@[simp] theorem akn:aF X 60 = [41]:=by kernel_rfl
@[simp] theorem anl:dW X 61 = 14:=by kernel_rfl
@[simp] theorem ako:bodied X 61 = true:=by kernel_rfl
@[simp] theorem akp:aF X 61 = [41]:=by kernel_rfl
@[simp] theorem anm:dW X 62 = 29:=by kernel_rfl
@[simp] theorem akq:bodied X 62 = true:=by kernel_rfl
@[simp] theorem akr:aF X 62 = [41,28,3]:=by kernel_rfl
@[simp] theorem ano:dW X 63 = 23:=by kernel_rfl
@[simp] theorem aks:bodied X 63 = true:=by kernel_rfl
@[simp] theorem Z5:aF X 63 = [3,3]:=by kernel_rfl
@[simp] theorem anp:dW X 64 = 41:=by kernel_rfl
@[simp] theorem akt:bodied X 64 = true:=by kernel_rfl
@[simp] theorem aku:aF X 64 = [41,28,3]:=by kernel_rfl
@[simp] theorem anq:dW X 65 = 58:=by kernel_rfl
@[simp] theorem akv:bodied X 65 = true:=by kernel_rfl
@[simp] theorem akw:aF X 65 = []:=by kernel_rfl
@[simp] theorem Ub:X.keep 21 6 = some [4,5,6]:=by kernel_rfl
@[simp] theorem Ec:X.keep 21 7 = some [4,5,6]:=by kernel_rfl
@[simp] theorem Va:X.keep 23 1 = some [0,2,4]:=by kernel_rfl
@[simp] theorem SH:X.keep 29 19 = some [0,3,4]:=by kernel_rfl
@[simp] theorem Vf:X.keep 48 9 = some [0,4,5,7,8,41,42]:=by kernel_rfl
@[simp] theorem SI:X.keep 48 20 = some [0,2,3]:=by kernel_rfl
@[simp] theorem TU:X.keep 58 3 = some [0,2,7]:=by kernel_rfl
@[simp] theorem afR:X.dy 5 11 = false:=by kernel_rfl
@[simp] theorem afS:X.dy 5 17 = false:=by kernel_rfl
@[simp] theorem akx:X.dy 9 6 = false:=by kernel_rfl
@[simp] theorem afT:X.dy 10 8 = false:=by kernel_rfl
@[simp] theorem abX:X.dy 10 12 = false:=by kernel_rfl
@[simp] theorem abY:X.dy 10 14 = false:=by kernel_rfl
@[simp] theorem abZ:X.dy 13 10 = false:=by kernel_rfl
@[simp] theorem afU:X.dy 21 6 = true:=by kernel_rfl
@[simp] theorem afV:X.dy 21 7 = true:=by kernel_rfl
@[simp] theorem ab1:X.dy 22 14 = false:=by kernel_rfl
@[simp] theorem ab2:X.dy 22 16 = false:=by kernel_rfl
@[simp] theorem ab3:X.dy 22 19 = false:=by kernel_rfl
@[simp] theorem ab4:X.dy 22 22 = false:=by kernel_rfl
@[simp] theorem afW:X.dy 23 1 = true:=by kernel_rfl
@[simp] theorem afX:X.dy 24 2 = false:=by kernel_rfl
@[simp] theorem afY:X.dy 27 2 = false:=by kernel_rfl
@[simp] theorem ab5:X.dy 28 15 = false:=by kernel_rfl
@[simp] theorem ab6:X.dy 28 18 = false:=by kernel_rfl
@[simp] theorem ab7:X.dy 28 22 = false:=by kernel_rfl
@[simp] theorem ab8:X.dy 28 24 = false:=by kernel_rfl
@[simp] theorem ab9:X.dy 29 19 = true:=by kernel_rfl
@[simp] theorem acd:X.dy 33 12 = false:=by kernel_rfl
@[simp] theorem ace:X.dy 34 10 = false:=by kernel_rfl
@[simp] theorem afZ:X.dy 35 2 = false:=by kernel_rfl
@[simp] theorem af0:X.dy 37 1 = true:=by kernel_rfl
@[simp] theorem af2:X.dy 39 3 = false:=by kernel_rfl
@[simp] theorem af4:X.dy 40 3 = false:=by kernel_rfl
@[simp] theorem af5:X.dy 45 5 = false:=by kernel_rfl
@[simp] theorem af6:X.dy 45 8 = false:=by kernel_rfl
@[simp] theorem af7:X.dy 48 9 = true:=by kernel_rfl
@[simp] theorem acf:X.dy 48 20 = true:=by kernel_rfl
@[simp] theorem af8:X.dy 52 6 = false:=by kernel_rfl
@[simp] theorem af9:X.dy 56 1 = false:=by kernel_rfl
@[simp] theorem aga:X.dy 57 3 = false:=by kernel_rfl
@[simp] theorem agb:X.dy 58 3 = true:=by kernel_rfl
@[simp] theorem acg:X.dy 58 11 = false:=by kernel_rfl
@[simp] theorem ach:X.dy 58 17 = false:=by kernel_rfl
@[simp] theorem agc:X.dy 65 8 = false:=by kernel_rfl
@[simp] theorem aky:sizeT X 0 = 1:=by kernel_rfl
@[simp] theorem agd:bK X 0 = 0:=by kernel_rfl
@[simp] theorem anr:okT X 0 = true:=by kernel_rfl
@[simp] theorem isAgg0:bH X 0 = false:=by kernel_rfl
@[simp] theorem agf:dD X 0 = false:=by kernel_rfl
@[simp] theorem agh:dI X 0 = false:=by kernel_rfl
@[simp] theorem akz:iJ X 0 = false:=by kernel_rfl
@[simp] theorem ant:bW X 0 = true:=by kernel_rfl
@[simp] theorem anu:und X 3 = .int .i64:=by kernel_rfl
@[simp] theorem size3:sizeT X 3 = 1:=by kernel_rfl
@[simp] theorem bytes3:bK X 3 = 8:=by kernel_rfl
@[simp] theorem anv:okT X 3 = true:=by kernel_rfl
@[simp] theorem isAgg3:bH X 3 = false:=by kernel_rfl
@[simp] theorem agi:dD X 3 = true:=by kernel_rfl
@[simp] theorem agj:dI X 3 = false:=by kernel_rfl
@[simp] theorem akA:iJ X 3 = false:=by kernel_rfl
@[simp] theorem SC:bW X 3 = true:=by kernel_rfl
@[simp] theorem zero3:bC X 3 = .int .i64 0:=by kernel_rfl
@[simp] theorem anw:und X 4 = .bool:=by kernel_rfl
@[simp] theorem akB:sizeT X 4 = 1:=by kernel_rfl
@[simp] theorem bytes4:bK X 4 = 1:=by kernel_rfl
@[simp] theorem anx:okT X 4 = true:=by kernel_rfl
@[simp] theorem isAgg4:bH X 4 = false:=by kernel_rfl
@[simp] theorem agk:dD X 4 = false:=by kernel_rfl
@[simp] theorem agl:dI X 4 = false:=by kernel_rfl
@[simp] theorem akC:iJ X 4 = false:=by kernel_rfl
@[simp] theorem anz:bW X 4 = true:=by kernel_rfl
@[simp] theorem akD:bC X 4 = .bool false:=by kernel_rfl
@[simp] theorem Tn:und X 5 = .int .u8:=by kernel_rfl
@[simp] theorem DK:sizeT X 5 = 1:=by kernel_rfl
@[simp] theorem bytes5:bK X 5 = 1:=by kernel_rfl
@[simp] theorem anA:okT X 5 = true:=by kernel_rfl
@[simp] theorem isAgg5:bH X 5 = false:=by kernel_rfl
@[simp] theorem agm:dD X 5 = true:=by kernel_rfl
@[simp] theorem agn:dI X 5 = false:=by kernel_rfl
@[simp] theorem akE:iJ X 5 = true:=by kernel_rfl
@[simp] theorem Ns:bW X 5 = true:=by kernel_rfl
@[simp] theorem akF:bC X 5 = .int .u8 0:=by kernel_rfl
@[simp] theorem anB:und X 9 = .string:=by kernel_rfl
@[simp] theorem akG:sizeT X 9 = 1:=by kernel_rfl
@[simp] theorem bytes9:bK X 9 = 16:=by kernel_rfl
@[simp] theorem anC:okT X 9 = true:=by kernel_rfl
@[simp] theorem isAgg9:bH X 9 = false:=by kernel_rfl
@[simp] theorem agp:dD X 9 = false:=by kernel_rfl
@[simp] theorem agq:dI X 9 = false:=by kernel_rfl
@[simp] theorem akH:iJ X 9 = false:=by kernel_rfl
@[simp] theorem anD:bW X 9 = true:=by kernel_rfl
@[simp] theorem zero9:bC X 9 = .str []:=by kernel_rfl
@[simp] theorem akI:und X 22 = .slice 25:=by kernel_rfl
@[simp] theorem agr:sizeT X 22 = 1:=by kernel_rfl
@[simp] theorem aci:bK X 22 = 24:=by kernel_rfl
@[simp] theorem akJ:okT X 22 = true:=by kernel_rfl
@[simp] theorem acj:bH X 22 = false:=by kernel_rfl
@[simp] theorem acn:dD X 22 = false:=by kernel_rfl
@[simp] theorem aco:dI X 22 = false:=by kernel_rfl
@[simp] theorem ags:iJ X 22 = false:=by kernel_rfl
@[simp] theorem akK:bW X 22 = true:=by kernel_rfl
@[simp] theorem zero22:bC X 22 = .ro 0 .pn 0:=by kernel_rfl
@[simp] theorem size25:sizeT X 25 = 3:=by kernel_rfl
@[simp] theorem bytes25:bK X 25 = 24:=by kernel_rfl
@[simp] theorem akL:okT X 25 = true:=by kernel_rfl
@[simp] theorem isAgg25:bH X 25 = true:=by kernel_rfl
@[simp] theorem acp:dD X 25 = false:=by kernel_rfl
@[simp] theorem acr:dI X 25 = false:=by kernel_rfl
@[simp] theorem agt:iJ X 25 = false:=by kernel_rfl
@[simp] theorem akM:bW X 25 = true:=by kernel_rfl
@[simp] theorem agu:bC X 25 = .agg (.pc [.int .i64 0,.int .i64 0,.int .u8 0]):=by kernel_rfl
@[simp] theorem BN:und X 28 = .slice 5:=by kernel_rfl
@[simp] theorem agv:sizeT X 28 = 1:=by kernel_rfl
@[simp] theorem bytes28:bK X 28 = 24:=by kernel_rfl
@[simp] theorem akN:okT X 28 = true:=by kernel_rfl
@[simp] theorem isAgg28:bH X 28 = false:=by kernel_rfl
@[simp] theorem acs:dD X 28 = false:=by kernel_rfl
@[simp] theorem acu:dI X 28 = false:=by kernel_rfl
@[simp] theorem agw:iJ X 28 = false:=by kernel_rfl
@[simp] theorem akO:bW X 28 = true:=by kernel_rfl
@[simp] theorem agx:bC X 28 = .ro 0 .pn 0:=by kernel_rfl
@[simp] theorem akP:und X 31 = .int .i64:=by kernel_rfl
@[simp] theorem agy:sizeT X 31 = 1:=by kernel_rfl
@[simp] theorem acv:bK X 31 = 8:=by kernel_rfl
@[simp] theorem akQ:okT X 31 = true:=by kernel_rfl
@[simp] theorem isAgg31:bH X 31 = false:=by kernel_rfl
@[simp] theorem acw:dD X 31 = true:=by kernel_rfl
@[simp] theorem acy:dI X 31 = false:=by kernel_rfl
@[simp] theorem agz:iJ X 31 = false:=by kernel_rfl
@[simp] theorem akR:bW X 31 = true:=by kernel_rfl
@[simp] theorem agA:bC X 31 = .int .i64 0:=by kernel_rfl
@[simp] theorem agB:sizeT X 32 = 1:=by kernel_rfl
@[simp] theorem acz:bK X 32 = 0:=by kernel_rfl
@[simp] theorem akS:okT X 32 = true:=by kernel_rfl
@[simp] theorem isAgg32:bH X 32 = false:=by kernel_rfl
@[simp] theorem acA:dD X 32 = false:=by kernel_rfl
@[simp] theorem acB:dI X 32 = false:=by kernel_rfl
@[simp] theorem agC:iJ X 32 = false:=by kernel_rfl
@[simp] theorem akT:bW X 32 = true:=by kernel_rfl
@[simp] theorem agD:sizeT X 36 = 1:=by kernel_rfl
@[simp] theorem acC:bK X 36 = 0:=by kernel_rfl
@[simp] theorem akU:okT X 36 = true:=by kernel_rfl
@[simp] theorem isAgg36:bH X 36 = false:=by kernel_rfl
@[simp] theorem acD:dD X 36 = false:=by kernel_rfl
@[simp] theorem acE:dI X 36 = false:=by kernel_rfl
@[simp] theorem agE:iJ X 36 = false:=by kernel_rfl
@[simp] theorem akV:bW X 36 = true:=by kernel_rfl
@[simp] theorem akW:und X 39 = .map 40 41:=by kernel_rfl
@[simp] theorem agF:sizeT X 39 = 1:=by kernel_rfl
@[simp] theorem acF:bK X 39 = 8:=by kernel_rfl
@[simp] theorem akX:okT X 39 = true:=by kernel_rfl
@[simp] theorem isAgg39:bH X 39 = false:=by kernel_rfl
@[simp] theorem acG:dD X 39 = false:=by kernel_rfl
@[simp] theorem acH:dI X 39 = false:=by kernel_rfl
@[simp] theorem agG:iJ X 39 = false:=by kernel_rfl
@[simp] theorem akY:bW X 39 = true:=by kernel_rfl
@[simp] theorem agH:bC X 39 = .gX:=by kernel_rfl
@[simp] theorem akZ:und X 40 = .array 3 5:=by kernel_rfl
@[simp] theorem agI:sizeT X 40 = 3:=by kernel_rfl
@[simp] theorem acI:bK X 40 = 3:=by kernel_rfl
@[simp] theorem ak0:okT X 40 = true:=by kernel_rfl
@[simp] theorem isAgg40:bH X 40 = true:=by kernel_rfl
@[simp] theorem acJ:dD X 40 = false:=by kernel_rfl
@[simp] theorem acK:dI X 40 = true:=by kernel_rfl
@[simp] theorem agJ:iJ X 40 = false:=by kernel_rfl
@[simp] theorem ak1:bW X 40 = true:=by kernel_rfl
@[simp] theorem agK:bC X 40 = .agg (.pb [0,0,0]):=by kernel_rfl
@[simp] theorem HY:und X 41 = .slice 3:=by kernel_rfl
@[simp] theorem agL:sizeT X 41 = 1:=by kernel_rfl
@[simp] theorem acL:bK X 41 = 24:=by kernel_rfl
@[simp] theorem ak2:okT X 41 = true:=by kernel_rfl
@[simp] theorem isAgg41:bH X 41 = false:=by kernel_rfl
@[simp] theorem acM:dD X 41 = false:=by kernel_rfl
@[simp] theorem acN:dI X 41 = false:=by kernel_rfl
@[simp] theorem agM:iJ X 41 = false:=by kernel_rfl
@[simp] theorem ak3:bW X 41 = true:=by kernel_rfl
@[simp] theorem agN:bC X 41 = .ro 0 .pn 0:=by kernel_rfl
@[simp] theorem agO:sizeT X 42 = 1:=by kernel_rfl
@[simp] theorem acO:bK X 42 = 8:=by kernel_rfl
@[simp] theorem ak4:okT X 42 = true:=by kernel_rfl
@[simp] theorem isAgg42:bH X 42 = false:=by kernel_rfl
@[simp] theorem acP:dD X 42 = false:=by kernel_rfl
@[simp] theorem acQ:dI X 42 = false:=by kernel_rfl
@[simp] theorem agP:iJ X 42 = false:=by kernel_rfl
@[simp] theorem ak5:bW X 42 = true:=by kernel_rfl
@[simp] theorem agQ:bC X 42 = .jF:=by kernel_rfl
@[simp] theorem ak6:und X 44 = .pointer 46:=by kernel_rfl
@[simp] theorem agS:sizeT X 44 = 1:=by kernel_rfl
@[simp] theorem acR:bK X 44 = 8:=by kernel_rfl
@[simp] theorem ak7:okT X 44 = true:=by kernel_rfl
@[simp] theorem isAgg44:bH X 44 = false:=by kernel_rfl
@[simp] theorem acS:dD X 44 = false:=by kernel_rfl
@[simp] theorem acT:dI X 44 = false:=by kernel_rfl
@[simp] theorem agT:iJ X 44 = false:=by kernel_rfl
@[simp] theorem ak8:bW X 44 = true:=by kernel_rfl
@[simp] theorem agU:bC X 44 = .gW:=by kernel_rfl
@[simp] theorem agV:sizeT X 46 = 2:=by kernel_rfl
@[simp] theorem acU:bK X 46 = 32:=by kernel_rfl
@[simp] theorem ak9:okT X 46 = true:=by kernel_rfl
@[simp] theorem isAgg46:bH X 46 = true:=by kernel_rfl
@[simp] theorem acV:dD X 46 = false:=by kernel_rfl
@[simp] theorem acW:dI X 46 = false:=by kernel_rfl
@[simp] theorem agW:iJ X 46 = false:=by kernel_rfl
@[simp] theorem ala:bW X 46 = true:=by kernel_rfl
@[simp] theorem agX:bC X 46 = .agg (.pc [.ro 0 .pn 0,.int .i64 0]):=by kernel_rfl
@[simp] theorem agY:sizeT X 47 = 1:=by kernel_rfl
@[simp] theorem acX:bK X 47 = 8:=by kernel_rfl
@[simp] theorem alb:okT X 47 = true:=by kernel_rfl
@[simp] theorem isAgg47:bH X 47 = false:=by kernel_rfl
@[simp] theorem acY:dD X 47 = false:=by kernel_rfl
@[simp] theorem acZ:dI X 47 = false:=by kernel_rfl
@[simp] theorem agZ:iJ X 47 = false:=by kernel_rfl
@[simp] theorem alc:bW X 47 = true:=by kernel_rfl
@[simp] theorem ag0:bC X 47 = .jF:=by kernel_rfl
@[simp] theorem ald:und X 49 = .int .u64:=by kernel_rfl
@[simp] theorem ag1:sizeT X 49 = 1:=by kernel_rfl
@[simp] theorem ac0:bK X 49 = 8:=by kernel_rfl
@[simp] theorem ale:okT X 49 = true:=by kernel_rfl
@[simp] theorem ac1:bH X 49 = false:=by kernel_rfl
@[simp] theorem ac2:dD X 49 = true:=by kernel_rfl
@[simp] theorem ac3:dI X 49 = false:=by kernel_rfl
@[simp] theorem ag2:iJ X 49 = false:=by kernel_rfl
@[simp] theorem alf:bW X 49 = true:=by kernel_rfl
@[simp] theorem ag3:bC X 49 = .int .u64 0:=by kernel_rfl
@[simp] theorem alg:und X 50 = .pointer 52:=by kernel_rfl
@[simp] theorem ag4:sizeT X 50 = 1:=by kernel_rfl
@[simp] theorem ac4:bK X 50 = 8:=by kernel_rfl
@[simp] theorem alh:okT X 50 = true:=by kernel_rfl
@[simp] theorem isAgg50:bH X 50 = false:=by kernel_rfl
@[simp] theorem ac5:dD X 50 = false:=by kernel_rfl
@[simp] theorem ac6:dI X 50 = false:=by kernel_rfl
@[simp] theorem ag5:iJ X 50 = false:=by kernel_rfl
@[simp] theorem ali:bW X 50 = true:=by kernel_rfl
@[simp] theorem ag6:bC X 50 = .gW:=by kernel_rfl
@[simp] theorem ag7:sizeT X 52 = 5:=by kernel_rfl
@[simp] theorem ac7:bK X 52 = 72:=by kernel_rfl
@[simp] theorem alj:okT X 52 = true:=by kernel_rfl
@[simp] theorem isAgg52:bH X 52 = true:=by kernel_rfl
@[simp] theorem ac8:dD X 52 = false:=by kernel_rfl
@[simp] theorem ac9:dI X 52 = false:=by kernel_rfl
@[simp] theorem ag8:iJ X 52 = false:=by kernel_rfl
@[simp] theorem alk:bW X 52 = true:=by kernel_rfl
@[simp] theorem ag9:bC X 52 = .agg (.pc [.ro 0 .pn 0,.int .i64 0,.ro 0 .pn 0,.int .i64 0,.int .i64 0]):=by kernel_rfl
@[simp] theorem aa9:und X 53 = .slice 68:=by kernel_rfl
@[simp] theorem aha:sizeT X 53 = 1:=by kernel_rfl
@[simp] theorem ada:bK X 53 = 24:=by kernel_rfl
@[simp] theorem alm:okT X 53 = true:=by kernel_rfl
@[simp] theorem isAgg53:bH X 53 = false:=by kernel_rfl
@[simp] theorem adb:dD X 53 = false:=by kernel_rfl
@[simp] theorem ade:dI X 53 = false:=by kernel_rfl
@[simp] theorem ahb:iJ X 53 = false:=by kernel_rfl
@[simp] theorem aln:bW X 53 = true:=by kernel_rfl
@[simp] theorem ahc:bC X 53 = .ro 0 .pn 0:=by kernel_rfl
@[simp] theorem ahd:sizeT X 55 = 1:=by kernel_rfl
@[simp] theorem adf:bK X 55 = 0:=by kernel_rfl
@[simp] theorem alo:okT X 55 = true:=by kernel_rfl
@[simp] theorem isAgg55:bH X 55 = false:=by kernel_rfl
@[simp] theorem adg:dD X 55 = false:=by kernel_rfl
@[simp] theorem adh:dI X 55 = false:=by kernel_rfl
@[simp] theorem ahe:iJ X 55 = false:=by kernel_rfl
@[simp] theorem alp:bW X 55 = true:=by kernel_rfl
@[simp] theorem ahf:sizeT X 57 = 1:=by kernel_rfl
@[simp] theorem adi:bK X 57 = 0:=by kernel_rfl
@[simp] theorem alq:okT X 57 = true:=by kernel_rfl
@[simp] theorem isAgg57:bH X 57 = false:=by kernel_rfl
@[simp] theorem adk:dD X 57 = false:=by kernel_rfl
@[simp] theorem adl:dI X 57 = false:=by kernel_rfl
@[simp] theorem ahg:iJ X 57 = false:=by kernel_rfl
@[simp] theorem alr:bW X 57 = true:=by kernel_rfl
@[simp] theorem ahh:sizeT X 59 = 1:=by kernel_rfl
@[simp] theorem adn:bK X 59 = 0:=by kernel_rfl
@[simp] theorem als:okT X 59 = true:=by kernel_rfl
@[simp] theorem ado:bH X 59 = false:=by kernel_rfl
@[simp] theorem adp:dD X 59 = false:=by kernel_rfl
@[simp] theorem adq:dI X 59 = false:=by kernel_rfl
@[simp] theorem ahi:iJ X 59 = false:=by kernel_rfl
@[simp] theorem alu:bW X 59 = true:=by kernel_rfl
@[simp] theorem alv:und X 61 = .pointer 63:=by kernel_rfl
@[simp] theorem ahj:sizeT X 61 = 1:=by kernel_rfl
@[simp] theorem adr:bK X 61 = 8:=by kernel_rfl
@[simp] theorem alx:okT X 61 = true:=by kernel_rfl
@[simp] theorem ads:bH X 61 = false:=by kernel_rfl
@[simp] theorem adt:dD X 61 = false:=by kernel_rfl
@[simp] theorem adu:dI X 61 = false:=by kernel_rfl
@[simp] theorem ahk:iJ X 61 = false:=by kernel_rfl
@[simp] theorem aly:bW X 61 = true:=by kernel_rfl
@[simp] theorem ahl:bC X 61 = .gW:=by kernel_rfl
@[simp] theorem ahm:sizeT X 63 = 2:=by kernel_rfl
@[simp] theorem adv:bK X 63 = 32:=by kernel_rfl
@[simp] theorem alz:okT X 63 = true:=by kernel_rfl
@[simp] theorem adw:bH X 63 = true:=by kernel_rfl
@[simp] theorem adx:dD X 63 = false:=by kernel_rfl
@[simp] theorem ady:dI X 63 = false:=by kernel_rfl
@[simp] theorem ahn:iJ X 63 = false:=by kernel_rfl
@[simp] theorem alA:bW X 63 = true:=by kernel_rfl
@[simp] theorem aho:bC X 63 = .agg (.pc [.ro 0 .pn 0,.int .i64 0]):=by kernel_rfl
@[simp] theorem ahp:sizeT X 65 = 1:=by kernel_rfl
@[simp] theorem adz:bK X 65 = 0:=by kernel_rfl
@[simp] theorem alB:okT X 65 = true:=by kernel_rfl
@[simp] theorem adA:bH X 65 = false:=by kernel_rfl
@[simp] theorem adB:dD X 65 = false:=by kernel_rfl
@[simp] theorem adC:dI X 65 = false:=by kernel_rfl
@[simp] theorem ahq:iJ X 65 = false:=by kernel_rfl
@[simp] theorem alC:bW X 65 = true:=by kernel_rfl
@[simp] theorem Y3:sizeT X 68 = 4:=by kernel_rfl
@[simp] theorem adD:bK X 68 = 32:=by kernel_rfl
@[simp] theorem alD:okT X 68 = true:=by kernel_rfl
@[simp] theorem adE:bH X 68 = true:=by kernel_rfl
@[simp] theorem adF:dD X 68 = false:=by kernel_rfl
@[simp] theorem adG:dI X 68 = false:=by kernel_rfl
@[simp] theorem ahr:iJ X 68 = false:=by kernel_rfl
@[simp] theorem abb:bW X 68 = true:=by kernel_rfl
@[simp] theorem ahs:bC X 68 = .agg (.pc [.int .i64 0,.bool false,.int .i64 0,.int .i64 0]):=by kernel_rfl
@[simp] theorem aht:sizeT X 71 = 1:=by kernel_rfl
@[simp] theorem adH:bK X 71 = 0:=by kernel_rfl
@[simp] theorem alE:okT X 71 = true:=by kernel_rfl
@[simp] theorem adI:bH X 71 = false:=by kernel_rfl
@[simp] theorem adJ:dD X 71 = false:=by kernel_rfl
@[simp] theorem adK:dI X 71 = false:=by kernel_rfl
@[simp] theorem ahu:iJ X 71 = false:=by kernel_rfl
@[simp] theorem alF:bW X 71 = true:=by kernel_rfl
@[simp] theorem alG:und X 73 = .array 16 3:=by kernel_rfl
@[simp] theorem ahv:sizeT X 73 = 16:=by kernel_rfl
@[simp] theorem adL:bK X 73 = 128:=by kernel_rfl
@[simp] theorem alH:okT X 73 = true:=by kernel_rfl
@[simp] theorem adM:bH X 73 = true:=by kernel_rfl
@[simp] theorem adN:dD X 73 = false:=by kernel_rfl
@[simp] theorem adO:dI X 73 = true:=by kernel_rfl
@[simp] theorem ahw:iJ X 73 = false:=by kernel_rfl
@[simp] theorem alI:bW X 73 = true:=by kernel_rfl
@[simp] theorem ahx:bC X 73 = .agg (.pi .i64 [0,0,0,0,0,0,0,0,0,0,0,0,0,0,0,0]):=by kernel_rfl
@[simp] theorem ahy:sizeT X 74 = 1:=by kernel_rfl
@[simp] theorem adP:bK X 74 = 0:=by kernel_rfl
@[simp] theorem alJ:okT X 74 = true:=by kernel_rfl
@[simp] theorem adQ:bH X 74 = false:=by kernel_rfl
@[simp] theorem adR:dD X 74 = false:=by kernel_rfl
@[simp] theorem adS:dI X 74 = false:=by kernel_rfl
@[simp] theorem ahz:iJ X 74 = false:=by kernel_rfl
@[simp] theorem alK:bW X 74 = true:=by kernel_rfl
@[simp] theorem alL:und X 76 = .array 17 3:=by kernel_rfl
@[simp] theorem ahA:sizeT X 76 = 17:=by kernel_rfl
@[simp] theorem adT:bK X 76 = 136:=by kernel_rfl
@[simp] theorem alM:okT X 76 = true:=by kernel_rfl
@[simp] theorem adU:bH X 76 = true:=by kernel_rfl
@[simp] theorem adV:dD X 76 = false:=by kernel_rfl
@[simp] theorem adW:dI X 76 = true:=by kernel_rfl
@[simp] theorem ahB:iJ X 76 = false:=by kernel_rfl
@[simp] theorem alN:bW X 76 = true:=by kernel_rfl
@[simp] theorem ahC:bC X 76 = .agg (.pi .i64 [0,0,0,0,0,0,0,0,0,0,0,0,0,0,0,0,0]):=by kernel_rfl
@[simp] theorem alO:und X 82 = .array 19 3:=by kernel_rfl
@[simp] theorem ahD:sizeT X 82 = 19:=by kernel_rfl
@[simp] theorem adX:bK X 82 = 152:=by kernel_rfl
@[simp] theorem alP:okT X 82 = true:=by kernel_rfl
@[simp] theorem adY:bH X 82 = true:=by kernel_rfl
@[simp] theorem adZ:dD X 82 = false:=by kernel_rfl
@[simp] theorem ad1:dI X 82 = true:=by kernel_rfl
@[simp] theorem ahE:iJ X 82 = false:=by kernel_rfl
@[simp] theorem alQ:bW X 82 = true:=by kernel_rfl
@[simp] theorem ahF:bC X 82 = .agg (.pi .i64 [0,0,0,0,0,0,0,0,0,0,0,0,0,0,0,0,0,0,0]):=by kernel_rfl
@[simp] theorem ahG:sizeT X 85 = 1:=by kernel_rfl
@[simp] theorem ad2:bK X 85 = 0:=by kernel_rfl
@[simp] theorem alR:okT X 85 = true:=by kernel_rfl
@[simp] theorem ad3:bH X 85 = false:=by kernel_rfl
@[simp] theorem ad4:dD X 85 = false:=by kernel_rfl
@[simp] theorem ad5:dI X 85 = false:=by kernel_rfl
@[simp] theorem ahH:iJ X 85 = false:=by kernel_rfl
@[simp] theorem alS:bW X 85 = true:=by kernel_rfl
@[simp] theorem alT:und X 87 = .array 2 3:=by kernel_rfl
@[simp] theorem size87:sizeT X 87 = 2:=by kernel_rfl
@[simp] theorem ad6:bK X 87 = 16:=by kernel_rfl
@[simp] theorem alU:okT X 87 = true:=by kernel_rfl
@[simp] theorem ad7:bH X 87 = true:=by kernel_rfl
@[simp] theorem ad8:dD X 87 = false:=by kernel_rfl
@[simp] theorem ad9:dI X 87 = true:=by kernel_rfl
@[simp] theorem ahI:iJ X 87 = false:=by kernel_rfl
@[simp] theorem alV:bW X 87 = true:=by kernel_rfl
@[simp] theorem ahJ:bC X 87 = .agg (.pi .i64 [0,0]):=by kernel_rfl
@[simp] theorem alW:und X 88 = .array 29 87:=by kernel_rfl
@[simp] theorem ahK:sizeT X 88 = 58:=by kernel_rfl
@[simp] theorem aea:bK X 88 = 464:=by kernel_rfl
@[simp] theorem alX:okT X 88 = true:=by kernel_rfl
@[simp] theorem aeb:bH X 88 = true:=by kernel_rfl
@[simp] theorem aec:dD X 88 = false:=by kernel_rfl
@[simp] theorem aed:dI X 88 = true:=by kernel_rfl
@[simp] theorem ahL:iJ X 88 = false:=by kernel_rfl
@[simp] theorem alY:bW X 88 = true:=by kernel_rfl
@[simp] theorem ahM:bC X 88 = .agg (.pr 2 [.pc [.int .i64 0,.int .i64 0],.pc [.int .i64 0,.int .i64 0],.pc [.int .i64 0,.int .i64 0],.pc [.int .i64 0,.int .i64 0],.pc [.int .i64 0,.int .i64 0],.pc [.int .i64 0,.int .i64 0],.pc [.int .i64 0,.int .i64 0],.pc [.int .i64 0,.int .i64 0],.pc [.int .i64 0,.int .i64 0],.pc [.int .i64 0,.int .i64 0],.pc [.int .i64 0,.int .i64 0],.pc [.int .i64 0,.int .i64 0],.pc [.int .i64 0,.int .i64 0],.pc [.int .i64 0,.int .i64 0],.pc [.int .i64 0,.int .i64 0],.pc [.int .i64 0,.int .i64 0],.pc [.int .i64 0,.int .i64 0],.pc [.int .i64 0,.int .i64 0],.pc [.int .i64 0,.int .i64 0],.pc [.int .i64 0,.int .i64 0],.pc [.int .i64 0,.int .i64 0],.pc [.int .i64 0,.int .i64 0],.pc [.int .i64 0,.int .i64 0],.pc [.int .i64 0,.int .i64 0],.pc [.int .i64 0,.int .i64 0],.pc [.int .i64 0,.int .i64 0],.pc [.int .i64 0,.int .i64 0],.pc [.int .i64 0,.int .i64 0],.pc [.int .i64 0,.int .i64 0]]):=by kernel_rfl
@[simp] theorem ahN:sizeT X 89 = 1:=by kernel_rfl
@[simp] theorem aee:bK X 89 = 8:=by kernel_rfl
@[simp] theorem alZ:okT X 89 = true:=by kernel_rfl
@[simp] theorem aef:bH X 89 = false:=by kernel_rfl
@[simp] theorem aeg:dD X 89 = false:=by kernel_rfl
@[simp] theorem aeh:dI X 89 = false:=by kernel_rfl
@[simp] theorem ahO:iJ X 89 = false:=by kernel_rfl
@[simp] theorem al0:bW X 89 = true:=by kernel_rfl
@[simp] theorem ahP:bC X 89 = .jF:=by kernel_rfl
@[simp] theorem al1:und X 91 = .array 16 41:=by kernel_rfl
@[simp] theorem ahQ:sizeT X 91 = 16:=by kernel_rfl
@[simp] theorem aei:bK X 91 = 384:=by kernel_rfl
@[simp] theorem al2:okT X 91 = true:=by kernel_rfl
@[simp] theorem aej:bH X 91 = true:=by kernel_rfl
@[simp] theorem aek:dD X 91 = false:=by kernel_rfl
@[simp] theorem ael:dI X 91 = true:=by kernel_rfl
@[simp] theorem ahR:iJ X 91 = false:=by kernel_rfl
@[simp] theorem al3:bW X 91 = true:=by kernel_rfl
@[simp] theorem ahS:bC X 91 = .agg (.pc [.ro 0 .pn 0,.ro 0 .pn 0,.ro 0 .pn 0,.ro 0 .pn 0,.ro 0 .pn 0,.ro 0 .pn 0,.ro 0 .pn 0,.ro 0 .pn 0,.ro 0 .pn 0,.ro 0 .pn 0,.ro 0 .pn 0,.ro 0 .pn 0,.ro 0 .pn 0,.ro 0 .pn 0,.ro 0 .pn 0,.ro 0 .pn 0]):=by kernel_rfl
@[simp] theorem ahT (H:AM.Heap) (x:AV):bZ X H 25 x 0 = faV H x 0:=dN (ty:=3) (by kernel_rfl) (by kernel_rfl) H x
@[simp] theorem ahU (x:AV):jg X 25 x 0 = fvV X x 0 3:=iF (by kernel_rfl) x
@[simp] theorem ahV (H:AM.Heap) (x:AV):bZ X H 25 x 1 = faV H x 1:=dN (ty:=3) (by kernel_rfl) (by kernel_rfl) H x
@[simp] theorem ahW (x:AV):jg X 25 x 1 = fvV X x 1 3:=iF (by kernel_rfl) x
@[simp] theorem ahX (H:AM.Heap) (x:AV):bZ X H 25 x 2 = faV H x 2:=dN (ty:=5) (by kernel_rfl) (by kernel_rfl) H x
@[simp] theorem ahY (x:AV):jg X 25 x 2 = fvV X x 2 5:=iF (by kernel_rfl) x
@[simp] theorem ahZ (H:AM.Heap) (x:AV):bZ X H 46 x 0 = faV H x 0:=dN (ty:=28) (by kernel_rfl) (by kernel_rfl) H x
@[simp] theorem ah0 (x:AV):jg X 46 x 0 = fvV X x 0 28:=iF (by kernel_rfl) x
@[simp] theorem ah1 (H:AM.Heap) (x:AV):bZ X H 46 x 1 = faV H x 1:=dN (ty:=3) (by kernel_rfl) (by kernel_rfl) H x
@[simp] theorem ah2 (x:AV):jg X 46 x 1 = fvV X x 1 3:=iF (by kernel_rfl) x
@[simp] theorem ah3 (H:AM.Heap) (x:AV):bZ X H 52 x 0 = faV H x 0:=dN (ty:=28) (by kernel_rfl) (by kernel_rfl) H x
@[simp] theorem ah4 (x:AV):jg X 52 x 0 = fvV X x 0 28:=iF (by kernel_rfl) x
@[simp] theorem ah5 (H:AM.Heap) (x:AV):bZ X H 52 x 1 = faV H x 1:=dN (ty:=3) (by kernel_rfl) (by kernel_rfl) H x
@[simp] theorem ah6 (x:AV):jg X 52 x 1 = fvV X x 1 3:=iF (by kernel_rfl) x
@[simp] theorem ah7 (H:AM.Heap) (x:AV):bZ X H 52 x 2 = faV H x 2:=dN (ty:=28) (by kernel_rfl) (by kernel_rfl) H x
@[simp] theorem ah8 (x:AV):jg X 52 x 2 = fvV X x 2 28:=iF (by kernel_rfl) x
@[simp] theorem ah9 (H:AM.Heap) (x:AV):bZ X H 52 x 3 = faV H x 3:=dN (ty:=3) (by kernel_rfl) (by kernel_rfl) H x
@[simp] theorem aia (x:AV):jg X 52 x 3 = fvV X x 3 3:=iF (by kernel_rfl) x
@[simp] theorem aib (H:AM.Heap) (x:AV):bZ X H 52 x 4 = faV H x 4:=dN (ty:=31) (by kernel_rfl) (by kernel_rfl) H x
@[simp] theorem aic (x:AV):jg X 52 x 4 = fvV X x 4 31:=iF (by kernel_rfl) x
@[simp] theorem aie (H:AM.Heap) (x:AV):bZ X H 63 x 0 = faV H x 0:=dN (ty:=28) (by kernel_rfl) (by kernel_rfl) H x
@[simp] theorem aif (x:AV):jg X 63 x 0 = fvV X x 0 28:=iF (by kernel_rfl) x
@[simp] theorem aii (H:AM.Heap) (x:AV):bZ X H 63 x 1 = faV H x 1:=dN (ty:=3) (by kernel_rfl) (by kernel_rfl) H x
@[simp] theorem aij (x:AV):jg X 63 x 1 = fvV X x 1 3:=iF (by kernel_rfl) x
@[simp] theorem aik (H:AM.Heap) (x:AV):bZ X H 68 x 0 = faV H x 0:=dN (ty:=3) (by kernel_rfl) (by kernel_rfl) H x
@[simp] theorem ail (x:AV):jg X 68 x 0 = fvV X x 0 3:=iF (by kernel_rfl) x
@[simp] theorem ain (H:AM.Heap) (x:AV):bZ X H 68 x 1 = faV H x 1:=dN (ty:=4) (by kernel_rfl) (by kernel_rfl) H x
@[simp] theorem aio (x:AV):jg X 68 x 1 = fvV X x 1 4:=iF (by kernel_rfl) x
@[simp] theorem aip (H:AM.Heap) (x:AV):bZ X H 68 x 3 = faV H x 3:=dN (ty:=3) (by kernel_rfl) (by kernel_rfl) H x
@[simp] theorem aiq (x:AV):jg X 68 x 3 = fvV X x 3 3:=iF (by kernel_rfl) x
end Go.Proofs.Yteblpjhkgdpchaa
