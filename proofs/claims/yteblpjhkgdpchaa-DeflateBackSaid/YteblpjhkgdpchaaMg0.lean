/- X to X: texts of this claim, one behind the other; what each shows stands at its head. -/
import Derived.Test.YteblpjhkgdpchaaRows
import Derived.Test.YteblpjhkgdpchaaAm3
set_option linter.unusedSimpArgs false
set_option linter.unusedVariables false
set_option maxRecDepth 100000
set_option maxHeartbeats 8000000
namespace Go.Proofs.Yteblpjhkgdpchaa
open Go.AM
def bY:List (List (List Nat)):=[[],[],[[]],[[],[1],[1,2],[3],[3,4],[3,4,6],[3,4,6,8],[0]],[[0],[0,5],[2],[0,8],[2],[0,3],[2]],[[0],[0,10],[2],[0,13],[2],[0,3],[0,3,4],[0,3,4,5],[0,3,4,5,19],[0,3,4,5],[0,3,4,5,6],[0,3,4,5,6,53],[2],[0,3,4,5,6,7],[0,3,4,5,6,7,56],[0,3,4,5,6,7],[0,3,4,5,6,7,8],[0,3,4,5,6,7,8,85],[0,3,4,5,6,7,8],[0,3,4,5,6,7,116],[2],[0,3,4,5],[2]],[[0],[0,14],[2],[0,17],[2],[0,3,4],[0,3,4,5,6],[0,3,4,5,6,7,8,9],[0,3,4,5,6,7,8,9,10,11,12],[2]],[[0],[0,11],[2],[0,14],[2],[0,3,4],[3,4,5,6],[3,4,5,27],[2],[3,5,29],[2],[3,5,7,8,9],[2]],[[0],[0,3],[0,3,4],[0,3,4,8],[0,3,4],[0,3,4],[2]],[[0,1],[0,1,10],[4],[0,1,5],[0,1,5,14],[0,1,5],[0,1,5,25],[4],[4]],[[1],[1,3],[1,3,4],[1,3,4,5],[1,3,4,5,6],[1,3,4,5,6,18],[1,3,4,5,6,7,8],[1,3,4,5,6,7,8,23],[1,3,4,5,6,7,8,9],[1,3,4,5,6,7,8,9,10],[1,3,4,5,6,7,8,9,10,58],[1,3,4,5,6,7,8,9,10],[1,3,4,5,6,7,8,9,10,11],[1,3,4,5,6,7,8,9,10,11,70],[1,3,4,5,6,7,8,9,10],[1,3,4,5,6,7,8,12],[1,3,4,5,6,7,8,12,84],[1,3,4,5,6,12],[1,3,4,5,6,12],[1,3,4,5,6,94,95],[1,3,4,5,6,94,95,96],[1,3,4,5,6,94,95],[1,3,4,5,6,94,95],[1,3,4,5,6,94,95],[2]],[[0,1],[4]],[[0],[0,3],[3,5],[3,5,18],[2],[2]],[[0],[0,3],[0,3,4],[0,3,4,5],[0,3,4,5,14],[0,3,4,5],[0,3,4,5],[0,3,4,5],[0,3,4,5],[0,3,4,5],[0,3,4,5],[0,3,4,5],[0,3,5],[0,3,58],[2]],[[0],[0,4],[4,7,8,9],[4,7,8,9,10],[4,6,7,8,9],[4,6,7,8,9,15],[2,3],[4,6,7,8,9,18],[4,7,8,9],[4,6,7,8,9,28],[2,3],[4,6,7,8,9,30,31],[4,6,7,8,9,30,31,32],[4,6,7,8,9,30,31],[4,6,7,8,9,30,31],[4,7,8,9],[2,3]],[[],[0]],[[0],[2]],[[0],[0,3],[0,3,4],[0,3,4,12],[0,3,4,5,6],[0,3,4,5,6,7],[0,3,4,5,6,7,23],[0,3,4,5,6,7],[0,3,4,5,6,7,8],[0,3,4,5,6,7,8,32],[0,3,4,5,6,7],[0,3,4,5,6,36],[0,3,4,5],[0,3,4],[0,3,4],[0,3,4],[2]],[[0],[0,3],[0,3,4],[0,3,4,14],[0,3,4,5],[0,3,4,5,6],[0,3,4,5,6,25],[0,3,4,5,6],[0,3,4,5,6],[0,3,4,5,6],[0,3,4,6],[0,3,4,54],[2],[2]],[[0],[0,3],[3,5],[3,5,18],[2],[2]],[[0,1],[0,1,18],[4],[5],[5,6],[5,6,33],[5,6],[5,6,40],[4],[4]],[[0,1],[0,1,9],[4,5,6],[7],[7],[7,20],[4,5,6],[4,5,6]],[[0],[0,5],[0,5,24],[2,3],[0,6,7],[0,6,7,8],[0,6,7,8,10],[0,6,7,8,10,12],[0,6,7,8,10,12],[0,6,7,8,10,12],[6,7,8,10,12,46,47,48],[6,7,8,10,12,46,47,48,49],[6,7,8,10,12,14,46,47,48],[6,7,8,10,12,14,46,47,48,54],[6,7,8,10,12,46,47,48],[6,7,8,10,12,14,15,16,17,46,47,48],[6,7,8,10,12,14,16,17,46,47,48],[6,7,8,10,12,14,46,47,48],[6,7,8,10,12,14,15,16,17,46,47,48],[6,7,8,10,12,14,16,17,46,47,48],[6,7,8,10,12,46,47,48],[6,7,8,10,12,46,47,48],[12],[2,3]],[[0,1,2,9],[0,2,4],[]],[[0,1,2],[0,1,2,7],[0,1,2,7,32],[0,1,2,7],[6]],[[0,1,7,8],[0,1,7,8,9],[0,1,6,7,8],[0,1,7,8],[0,1,7,8]],[[1],[1,5],[2],[2]],[[0,1,2],[0,1,2,7],[0,1,2,7,34],[0,1,2,7],[6]],[[0],[0,5],[0,5,24],[2,3],[0,6,7],[0,6,7,8],[0,6,7,8,10],[0,6,7,8,10,12],[0,6,7,8,10,12],[0,6,7,8,10,12],[0,6,7,8,10,12,13],[0,6,7,8,10,12,13,49],[0,6,7,8,10,12,13],[0,6,7,8,10,12,13,57],[0,6,7,8,10,12,13,14],[0,6,7,8,10,12,13],[0,6,7,8,10,12,13,15],[0,6,7,8,10,12,13,15,16,17],[0,6,7,8,10,12,13,16,17],[0,6,7,8,10,12,13],[0,6,7,8,10,12,13,15],[0,6,7,8,10,12,13,15,16,17],[0,6,7,8,10,12,13,16,17],[0,6,7,8,10,12,13],[12],[2,3]],[[0],[0,3],[0,3,4],[0,3,17],[0,3,5],[0,3,5,6],[0,3,5,6],[0,3,5,6],[0,3,5,6,39],[0,3,5,6,41],[0,3,5,6],[0,3,5,6,41,44],[0,3,5,6],[0,3,5,6,41,48],[0,3,5,6],[0,3,5,6,55],[0,3,5,6,7,8],[0,3,5,6],[0,3,5],[0,3,4],[2]],[[0,1],[0,1,4],[0,1,4,5],[0,1,2,4],[0,1,2,3,4],[0,1,2,3,4,7],[0,1,3,4],[0,1,3,4,14],[0,1,3,4],[0,1,4],[0,1,4],[0,1,26],[0,1,26,27],[0,1,26],[0,1,26],[0,1]],[[0],[0,5],[0,5,18],[2,3],[0,6],[0,8],[0,8,9],[8,9,30,31,32],[8,9,30,31,32,33],[8,9,10,11,30,31,32],[8,9,10,11,30,31,32],[8,9,10,11,30,31,32,41],[8,9,11,30,31,32],[8,9,30,31,32],[8,9,30,31,32],[2,3]],[[0,1,6],[0,1,6,10],[0,1,6],[0,1,6]],[[0],[0,6],[2,3,4],[0,9],[2,3,4],[0,2,3],[0,2,3,4],[0,2,3,4],[0,2,3,4,15],[0,2,3,4,15,16],[0,2,3,4,15,22],[2,3,4],[0,2,3,4,15],[0,2,3,4,15]],[[0],[0,6],[2,3,4],[0,2,3],[0,2,3,4],[0,2,3,4],[0,2,3,4,12],[0,2,3,4,12,13],[0,2,3,4,12,19],[2,3,4],[0,2,3,4,12],[0,2,3,4,12]],[[0,1,9],[0,1],[0],[]],[[0],[0,4],[0,4,5],[0,4,5,10],[0,4,5],[0,4,5,18],[2,3],[0,4,5,24],[0,4,5],[0,4,5,40],[2,3],[0,4,5,6],[0,4,5,6,47],[0,4,5,6],[0,4,5,6],[2,3]],[[],[2,3],[2,3,4],[2,3,4,9],[2,3,4],[2,3,4],[2,3,4,16],[2,3,4],[2,3,4,21],[2,3,4],[2,3,4,26],[2,3,4],[2,3,5],[2,3,5,31],[2,3,5],[2,3,5],[0,1]],[[0],[0,5],[0,5,18],[2,3],[0,6],[0,6,7,8],[0,6,7,8,9],[0,6,7,8,9,24],[0,6,7,8,9],[0,6,7,8,9,10],[0,6,7,8,9,10,30],[0,6,7,8,9,10],[0,6,7,8,9,10,38],[0,6,7,8,9,10,40],[0,6,7,9,10],[0,6,7,8,9,10],[0,6,11],[0,6,11,56],[0,6,11],[0,6,11,63],[0,6,11],[2,3]],[[0,1,2,6],[0,1,2,6,9],[0,1,2,6],[0,1,2,6],[0,1,2,6]],[[0,1,6],[0,1,6,10],[0,1,6],[0,1,6],[0,1,6]],[[0],[0,8],[2],[0,3],[0,3,4],[0,3,4,10],[0,3,4],[0,3,4,5],[0,3,4,20],[0,3,4],[2]],[[0],[0,6],[2,3],[0,8],[2,3],[0,4],[2,3]],[[0],[0,3],[0,3,4],[0,3,4,8],[0,3,4],[0,3,4,5],[0,3,4,18],[0,3,4],[2]],[[0],[0,6],[2,3],[0,4],[2,3]],[[0,1],[0,1,5],[0,1,5,6],[0,1,5,6,16],[0,1,5,6],[0,1,5,6,29],[],[4],[0,1,5,6],[0,1,5,6],[4]],[[0],[0,2],[0,2,3],[0,2,29],[0,2],[0,2,4],[0,2,4,41],[0,2,4],[0,2,4]],[[0,1,2,11],[0,1,2,6],[0,1,2],[0,1,2,6,19],[0,1,2,6,29],[0,1,2]],[[0],[0,4,5,6],[0,4,5,6,36],[0,4,5,6],[0,4,5,6,7],[0,4,5,6,7,8],[0,4,5,7,8,41,42],[0,4,5,7,8,41,42,43],[0,4,5,7,8,9,41,42],[0,4,5,7,8,41,42],[0,4,5,7,8,41,42],[0,4,5,8,57],[2,3],[0,4,5,8,10,11],[0,4,5,8,68],[],[2,3],[0,4,12],[0,4,12,81],[2,3],[0,2,3],[0,2,3,13,14],[0,2,3,109],[0,2,3],[0,2,3,13,14],[0,2,3,132],[2,3],[2,3]],[[0,1,8],[]],[[0],[3,4],[3,4,13],[2,3],[4,5],[4,5,6],[4,5,6,16],[4,5,6],[4,5,6],[5,28],[2,3],[2,3]],[[0,2],[0,2,4],[0,2,4,9],[2,3],[2,4,11,12,13],[2,4,11,12,13,14],[2,4,6,11,12,13],[2,4,6,11,12,13,22],[2,3],[2,4,11,12,13],[2,4,11,12,13],[2,3]],[[1,2],[1,2,3],[1,2,3],[1,2,3,4],[1,2,3,4,7],[1,2,3,4],[1,2,3,4],[2]],[[1],[1,5],[2],[2]],[[0],[0,8],[2,3],[0,4],[0,4,5],[0,4,5,12],[0,4,5],[0,4,5,26],[2,3],[0,4,5,31],[0,4,5],[4,42],[2,3],[2,3]],[[0,1,2],[0,1,2,9],[0,1,2],[0],[6]],[[0,1,8],[0,1,18],[],[]],[[0,1],[0,1,12],[4],[0,5,6,7],[0,5,6,7,28],[0,5,6],[5],[4]],[[0,1,2,6],[0,1,2,6,44],[],[0,2,7],[0,7,8],[0,7,8,67],[0,7,8,69],[],[0,7,8,9],[0,7,8,9,75],[0,7,8,10],[0,7,9],[0,7,9,102],[0,7,9],[0,7,9,11],[0,7,9,11,114],[0,7,9,11],[0,7,9,11]],[[1,3,5],[1,3,5,7],[1,3,5,7,8],[1,3,5,7,8,24],[1,3,5,7,8,9],[1,3,5,7,8,9,28],[1,3,5,7,8],[1,3,5,7,8,9,28,33],[1,3,5,7,8,37],[1,3,5,7,8],[1,3,5,7,8,10],[1,3,5,7,8,10,47],[1,3,5,7,8],[1,3,5,7,8,9,28,57],[1,3,5,7,8,11],[1,3,5,7,8,11,66],[1,3,5,7,8],[1,3,5,7,8,9,70],[1,3,5,7,8,12],[1,3,5,7,8,12,79],[1,3,5,7,8],[6]],[[0],[0,3,4],[3,4,7,8,9],[3,4,7,8,9,10],[3,4,6,7,8,9],[3,4,6,7,8,9,14],[3,4,7,8,9],[3,4,7,8,9],[2]],[[0],[5,6,7],[5,6,7,8],[4,5,6,7],[5,6,7,12],[2],[5,6,7],[2]],[[0,1,2],[0,1,2,10],[0,1,2,10,17],[6,7,8],[0,1,2,20],[6,7,8],[6,7,8]],[[0,1,2,4,12],[],[0,2,15,16],[0,2,15,16,17],[0,2,15,16],[0,2,15,16]],[[0,4,5],[0,4,5,7],[0,4,5,7,9],[0,4,5,7,9,10],[0,4,5,7,9,10,11],[4,5,7,9,10,11,21,22,23],[4,5,7,9,10,11,21,22,23,24],[4,5,7,9,10,11,12,13,21,22,23],[4,5,7,9,10,11,13,21,22,23],[4,5,7,9,10,11,21,22,23],[4,5,7,9,10,11,21,22,23],[6]],[[0,1,2,3,4,5],[0,1,2,3,4,5,9],[0,1,2,3,4,5,9,10],[0,1,2,3,4,5,9,10],[0,1,2,3,4,5,9,10,16],[6,7,8],[0,1,2,3,4,5,9,10,21],[6,7,8],[0,1,2,3,4,5,9,10],[0,1,2,3,4,5,9,10],[0,1,2,3,4,5,9,10,11],[0,1,2,3,4,5,9,10,11,50],[6,7,8]],[],[],[],[],[],[],[],[],[],[],[],[],[],[],[],[]]
noncomputable def X:AM.Ctx:={ P:=Try.prog,G:=fun _=>.none,rw:=fun _ _=>false,keep:=fun f i=>((bY[f]?).getD [])[i]?,norm:=fun _ _=>false,dr:=fun _ _=>true,dy:=fun f id=>[(21,6),(21,7),(23,1),(29,19),(37,1),(48,9),(48,20),(58,3)].contains (f,id) }
theorem own:ownKnob Try.prog.godebug = .none:=by kernel_rfl
theorem full:∀ t e,t < Try.prog.types.size→Try.prog.underlying t = some (.slice e)→0 < Try.prog.cellsOf e:=slices_full_of Try.prog (by kernel_rfl)
theorem aaZ:AM.Hu X:=AM.U4 (by kernel_rfl) (by kernel_rfl)
@[simp] theorem amh (f i:Nat):X.dr f i = true:=rfl
@[simp] theorem aeX (f i:Nat):X.norm f i = false:=rfl
@[simp] theorem ami (f i:Nat):X.rw f i = (false):=rfl
@[simp] theorem ai4 (i:Nat):X.keep 3 i = ([[],[1],[1,2],[3],[3,4],[3,4,6],[3,4,6,8],[0]]:List (List Nat))[i]?:=congrArg (fun (l:List (List Nat))=>l[i]?) (show (bY[3]?).getD [] = _ by kernel_rfl)
@[simp] theorem ai5 (i:Nat):X.keep 4 i = ([[0],[0,5],[2],[0,8],[2],[0,3],[2]]:List (List Nat))[i]?:=congrArg (fun (l:List (List Nat))=>l[i]?) (show (bY[4]?).getD [] = _ by kernel_rfl)
@[simp] theorem ai6 (i:Nat):X.keep 5 i = ([[0],[0,10],[2],[0,13],[2],[0,3],[0,3,4],[0,3,4,5],[0,3,4,5,19],[0,3,4,5],[0,3,4,5,6],[0,3,4,5,6,53],[2],[0,3,4,5,6,7],[0,3,4,5,6,7,56],[0,3,4,5,6,7],[0,3,4,5,6,7,8],[0,3,4,5,6,7,8,85],[0,3,4,5,6,7,8],[0,3,4,5,6,7,116],[2],[0,3,4,5],[2]]:List (List Nat))[i]?:=congrArg (fun (l:List (List Nat))=>l[i]?) (show (bY[5]?).getD [] = _ by kernel_rfl)
@[simp] theorem ai7 (i:Nat):X.keep 6 i = ([[0],[0,14],[2],[0,17],[2],[0,3,4],[0,3,4,5,6],[0,3,4,5,6,7,8,9],[0,3,4,5,6,7,8,9,10,11,12],[2]]:List (List Nat))[i]?:=congrArg (fun (l:List (List Nat))=>l[i]?) (show (bY[6]?).getD [] = _ by kernel_rfl)
@[simp] theorem ai8 (i:Nat):X.keep 7 i = ([[0],[0,11],[2],[0,14],[2],[0,3,4],[3,4,5,6],[3,4,5,27],[2],[3,5,29],[2],[3,5,7,8,9],[2]]:List (List Nat))[i]?:=congrArg (fun (l:List (List Nat))=>l[i]?) (show (bY[7]?).getD [] = _ by kernel_rfl)
@[simp] theorem ai9 (i:Nat):X.keep 8 i = ([[0],[0,3],[0,3,4],[0,3,4,8],[0,3,4],[0,3,4],[2]]:List (List Nat))[i]?:=congrArg (fun (l:List (List Nat))=>l[i]?) (show (bY[8]?).getD [] = _ by kernel_rfl)
@[simp] theorem aja (i:Nat):X.keep 9 i = ([[0,1],[0,1,10],[4],[0,1,5],[0,1,5,14],[0,1,5],[0,1,5,25],[4],[4]]:List (List Nat))[i]?:=congrArg (fun (l:List (List Nat))=>l[i]?) (show (bY[9]?).getD [] = _ by kernel_rfl)
@[simp] theorem aeY (i:Nat):X.keep 10 i = ([[1],[1,3],[1,3,4],[1,3,4,5],[1,3,4,5,6],[1,3,4,5,6,18],[1,3,4,5,6,7,8],[1,3,4,5,6,7,8,23],[1,3,4,5,6,7,8,9],[1,3,4,5,6,7,8,9,10],[1,3,4,5,6,7,8,9,10,58],[1,3,4,5,6,7,8,9,10],[1,3,4,5,6,7,8,9,10,11],[1,3,4,5,6,7,8,9,10,11,70],[1,3,4,5,6,7,8,9,10],[1,3,4,5,6,7,8,12],[1,3,4,5,6,7,8,12,84],[1,3,4,5,6,12],[1,3,4,5,6,12],[1,3,4,5,6,94,95],[1,3,4,5,6,94,95,96],[1,3,4,5,6,94,95],[1,3,4,5,6,94,95],[1,3,4,5,6,94,95],[2]]:List (List Nat))[i]?:=congrArg (fun (l:List (List Nat))=>l[i]?) (show (bY[10]?).getD [] = _ by kernel_rfl)
@[simp] theorem aeZ (i:Nat):X.keep 11 i = ([[0,1],[4]]:List (List Nat))[i]?:=congrArg (fun (l:List (List Nat))=>l[i]?) (show (bY[11]?).getD [] = _ by kernel_rfl)
@[simp] theorem ae0 (i:Nat):X.keep 12 i = ([[0],[0,3],[3,5],[3,5,18],[2],[2]]:List (List Nat))[i]?:=congrArg (fun (l:List (List Nat))=>l[i]?) (show (bY[12]?).getD [] = _ by kernel_rfl)
@[simp] theorem ae1 (i:Nat):X.keep 13 i = ([[0],[0,3],[0,3,4],[0,3,4,5],[0,3,4,5,14],[0,3,4,5],[0,3,4,5],[0,3,4,5],[0,3,4,5],[0,3,4,5],[0,3,4,5],[0,3,4,5],[0,3,5],[0,3,58],[2]]:List (List Nat))[i]?:=congrArg (fun (l:List (List Nat))=>l[i]?) (show (bY[13]?).getD [] = _ by kernel_rfl)
@[simp] theorem ae2 (i:Nat):X.keep 14 i = ([[0],[0,4],[4,7,8,9],[4,7,8,9,10],[4,6,7,8,9],[4,6,7,8,9,15],[2,3],[4,6,7,8,9,18],[4,7,8,9],[4,6,7,8,9,28],[2,3],[4,6,7,8,9,30,31],[4,6,7,8,9,30,31,32],[4,6,7,8,9,30,31],[4,6,7,8,9,30,31],[4,7,8,9],[2,3]]:List (List Nat))[i]?:=congrArg (fun (l:List (List Nat))=>l[i]?) (show (bY[14]?).getD [] = _ by kernel_rfl)
@[simp] theorem ae3 (i:Nat):X.keep 15 i = ([[],[0]]:List (List Nat))[i]?:=congrArg (fun (l:List (List Nat))=>l[i]?) (show (bY[15]?).getD [] = _ by kernel_rfl)
@[simp] theorem ae4 (i:Nat):X.keep 16 i = ([[0],[2]]:List (List Nat))[i]?:=congrArg (fun (l:List (List Nat))=>l[i]?) (show (bY[16]?).getD [] = _ by kernel_rfl)
@[simp] theorem ae5 (i:Nat):X.keep 17 i = ([[0],[0,3],[0,3,4],[0,3,4,12],[0,3,4,5,6],[0,3,4,5,6,7],[0,3,4,5,6,7,23],[0,3,4,5,6,7],[0,3,4,5,6,7,8],[0,3,4,5,6,7,8,32],[0,3,4,5,6,7],[0,3,4,5,6,36],[0,3,4,5],[0,3,4],[0,3,4],[0,3,4],[2]]:List (List Nat))[i]?:=congrArg (fun (l:List (List Nat))=>l[i]?) (show (bY[17]?).getD [] = _ by kernel_rfl)
@[simp] theorem ae6 (i:Nat):X.keep 18 i = ([[0],[0,3],[0,3,4],[0,3,4,14],[0,3,4,5],[0,3,4,5,6],[0,3,4,5,6,25],[0,3,4,5,6],[0,3,4,5,6],[0,3,4,5,6],[0,3,4,6],[0,3,4,54],[2],[2]]:List (List Nat))[i]?:=congrArg (fun (l:List (List Nat))=>l[i]?) (show (bY[18]?).getD [] = _ by kernel_rfl)
@[simp] theorem ae7 (i:Nat):X.keep 19 i = ([[0],[0,3],[3,5],[3,5,18],[2],[2]]:List (List Nat))[i]?:=congrArg (fun (l:List (List Nat))=>l[i]?) (show (bY[19]?).getD [] = _ by kernel_rfl)
@[simp] theorem ae8 (i:Nat):X.keep 20 i = ([[0,1],[0,1,18],[4],[5],[5,6],[5,6,33],[5,6],[5,6,40],[4],[4]]:List (List Nat))[i]?:=congrArg (fun (l:List (List Nat))=>l[i]?) (show (bY[20]?).getD [] = _ by kernel_rfl)
@[simp] theorem ae9 (i:Nat):X.keep 21 i = ([[0,1],[0,1,9],[4,5,6],[7],[7],[7,20],[4,5,6],[4,5,6]]:List (List Nat))[i]?:=congrArg (fun (l:List (List Nat))=>l[i]?) (show (bY[21]?).getD [] = _ by kernel_rfl)
@[simp] theorem afa (i:Nat):X.keep 22 i = ([[0],[0,5],[0,5,24],[2,3],[0,6,7],[0,6,7,8],[0,6,7,8,10],[0,6,7,8,10,12],[0,6,7,8,10,12],[0,6,7,8,10,12],[6,7,8,10,12,46,47,48],[6,7,8,10,12,46,47,48,49],[6,7,8,10,12,14,46,47,48],[6,7,8,10,12,14,46,47,48,54],[6,7,8,10,12,46,47,48],[6,7,8,10,12,14,15,16,17,46,47,48],[6,7,8,10,12,14,16,17,46,47,48],[6,7,8,10,12,14,46,47,48],[6,7,8,10,12,14,15,16,17,46,47,48],[6,7,8,10,12,14,16,17,46,47,48],[6,7,8,10,12,46,47,48],[6,7,8,10,12,46,47,48],[12],[2,3]]:List (List Nat))[i]?:=congrArg (fun (l:List (List Nat))=>l[i]?) (show (bY[22]?).getD [] = _ by kernel_rfl)
@[simp] theorem afb (i:Nat):X.keep 23 i = ([[0,1,2,9],[0,2,4],[]]:List (List Nat))[i]?:=congrArg (fun (l:List (List Nat))=>l[i]?) (show (bY[23]?).getD [] = _ by kernel_rfl)
@[simp] theorem afc (i:Nat):X.keep 24 i = ([[0,1,2],[0,1,2,7],[0,1,2,7,32],[0,1,2,7],[6]]:List (List Nat))[i]?:=congrArg (fun (l:List (List Nat))=>l[i]?) (show (bY[24]?).getD [] = _ by kernel_rfl)
@[simp] theorem afd (i:Nat):X.keep 25 i = ([[0,1,7,8],[0,1,7,8,9],[0,1,6,7,8],[0,1,7,8],[0,1,7,8]]:List (List Nat))[i]?:=congrArg (fun (l:List (List Nat))=>l[i]?) (show (bY[25]?).getD [] = _ by kernel_rfl)
@[simp] theorem afe (i:Nat):X.keep 26 i = ([[1],[1,5],[2],[2]]:List (List Nat))[i]?:=congrArg (fun (l:List (List Nat))=>l[i]?) (show (bY[26]?).getD [] = _ by kernel_rfl)
@[simp] theorem aff (i:Nat):X.keep 27 i = ([[0,1,2],[0,1,2,7],[0,1,2,7,34],[0,1,2,7],[6]]:List (List Nat))[i]?:=congrArg (fun (l:List (List Nat))=>l[i]?) (show (bY[27]?).getD [] = _ by kernel_rfl)
@[simp] theorem afg (i:Nat):X.keep 28 i = ([[0],[0,5],[0,5,24],[2,3],[0,6,7],[0,6,7,8],[0,6,7,8,10],[0,6,7,8,10,12],[0,6,7,8,10,12],[0,6,7,8,10,12],[0,6,7,8,10,12,13],[0,6,7,8,10,12,13,49],[0,6,7,8,10,12,13],[0,6,7,8,10,12,13,57],[0,6,7,8,10,12,13,14],[0,6,7,8,10,12,13],[0,6,7,8,10,12,13,15],[0,6,7,8,10,12,13,15,16,17],[0,6,7,8,10,12,13,16,17],[0,6,7,8,10,12,13],[0,6,7,8,10,12,13,15],[0,6,7,8,10,12,13,15,16,17],[0,6,7,8,10,12,13,16,17],[0,6,7,8,10,12,13],[12],[2,3]]:List (List Nat))[i]?:=congrArg (fun (l:List (List Nat))=>l[i]?) (show (bY[28]?).getD [] = _ by kernel_rfl)
@[simp] theorem afh (i:Nat):X.keep 29 i = ([[0],[0,3],[0,3,4],[0,3,17],[0,3,5],[0,3,5,6],[0,3,5,6],[0,3,5,6],[0,3,5,6,39],[0,3,5,6,41],[0,3,5,6],[0,3,5,6,41,44],[0,3,5,6],[0,3,5,6,41,48],[0,3,5,6],[0,3,5,6,55],[0,3,5,6,7,8],[0,3,5,6],[0,3,5],[0,3,4],[2]]:List (List Nat))[i]?:=congrArg (fun (l:List (List Nat))=>l[i]?) (show (bY[29]?).getD [] = _ by kernel_rfl)
@[simp] theorem afi (i:Nat):X.keep 30 i = ([[0,1],[0,1,4],[0,1,4,5],[0,1,2,4],[0,1,2,3,4],[0,1,2,3,4,7],[0,1,3,4],[0,1,3,4,14],[0,1,3,4],[0,1,4],[0,1,4],[0,1,26],[0,1,26,27],[0,1,26],[0,1,26],[0,1]]:List (List Nat))[i]?:=congrArg (fun (l:List (List Nat))=>l[i]?) (show (bY[30]?).getD [] = _ by kernel_rfl)
@[simp] theorem afj (i:Nat):X.keep 31 i = ([[0],[0,5],[0,5,18],[2,3],[0,6],[0,8],[0,8,9],[8,9,30,31,32],[8,9,30,31,32,33],[8,9,10,11,30,31,32],[8,9,10,11,30,31,32],[8,9,10,11,30,31,32,41],[8,9,11,30,31,32],[8,9,30,31,32],[8,9,30,31,32],[2,3]]:List (List Nat))[i]?:=congrArg (fun (l:List (List Nat))=>l[i]?) (show (bY[31]?).getD [] = _ by kernel_rfl)
@[simp] theorem afk (i:Nat):X.keep 32 i = ([[0,1,6],[0,1,6,10],[0,1,6],[0,1,6]]:List (List Nat))[i]?:=congrArg (fun (l:List (List Nat))=>l[i]?) (show (bY[32]?).getD [] = _ by kernel_rfl)
@[simp] theorem afl (i:Nat):X.keep 33 i = ([[0],[0,6],[2,3,4],[0,9],[2,3,4],[0,2,3],[0,2,3,4],[0,2,3,4],[0,2,3,4,15],[0,2,3,4,15,16],[0,2,3,4,15,22],[2,3,4],[0,2,3,4,15],[0,2,3,4,15]]:List (List Nat))[i]?:=congrArg (fun (l:List (List Nat))=>l[i]?) (show (bY[33]?).getD [] = _ by kernel_rfl)
@[simp] theorem afm (i:Nat):X.keep 34 i = ([[0],[0,6],[2,3,4],[0,2,3],[0,2,3,4],[0,2,3,4],[0,2,3,4,12],[0,2,3,4,12,13],[0,2,3,4,12,19],[2,3,4],[0,2,3,4,12],[0,2,3,4,12]]:List (List Nat))[i]?:=congrArg (fun (l:List (List Nat))=>l[i]?) (show (bY[34]?).getD [] = _ by kernel_rfl)
@[simp] theorem afn (i:Nat):X.keep 35 i = ([[0,1,9],[0,1],[0],[]]:List (List Nat))[i]?:=congrArg (fun (l:List (List Nat))=>l[i]?) (show (bY[35]?).getD [] = _ by kernel_rfl)
@[simp] theorem afo (i:Nat):X.keep 36 i = ([[0],[0,4],[0,4,5],[0,4,5,10],[0,4,5],[0,4,5,18],[2,3],[0,4,5,24],[0,4,5],[0,4,5,40],[2,3],[0,4,5,6],[0,4,5,6,47],[0,4,5,6],[0,4,5,6],[2,3]]:List (List Nat))[i]?:=congrArg (fun (l:List (List Nat))=>l[i]?) (show (bY[36]?).getD [] = _ by kernel_rfl)
@[simp] theorem afp (i:Nat):X.keep 37 i = ([[],[2,3],[2,3,4],[2,3,4,9],[2,3,4],[2,3,4],[2,3,4,16],[2,3,4],[2,3,4,21],[2,3,4],[2,3,4,26],[2,3,4],[2,3,5],[2,3,5,31],[2,3,5],[2,3,5],[0,1]]:List (List Nat))[i]?:=congrArg (fun (l:List (List Nat))=>l[i]?) (show (bY[37]?).getD [] = _ by kernel_rfl)
@[simp] theorem afq (i:Nat):X.keep 38 i = ([[0],[0,5],[0,5,18],[2,3],[0,6],[0,6,7,8],[0,6,7,8,9],[0,6,7,8,9,24],[0,6,7,8,9],[0,6,7,8,9,10],[0,6,7,8,9,10,30],[0,6,7,8,9,10],[0,6,7,8,9,10,38],[0,6,7,8,9,10,40],[0,6,7,9,10],[0,6,7,8,9,10],[0,6,11],[0,6,11,56],[0,6,11],[0,6,11,63],[0,6,11],[2,3]]:List (List Nat))[i]?:=congrArg (fun (l:List (List Nat))=>l[i]?) (show (bY[38]?).getD [] = _ by kernel_rfl)
@[simp] theorem afr (i:Nat):X.keep 39 i = ([[0,1,2,6],[0,1,2,6,9],[0,1,2,6],[0,1,2,6],[0,1,2,6]]:List (List Nat))[i]?:=congrArg (fun (l:List (List Nat))=>l[i]?) (show (bY[39]?).getD [] = _ by kernel_rfl)
@[simp] theorem afs (i:Nat):X.keep 40 i = ([[0,1,6],[0,1,6,10],[0,1,6],[0,1,6],[0,1,6]]:List (List Nat))[i]?:=congrArg (fun (l:List (List Nat))=>l[i]?) (show (bY[40]?).getD [] = _ by kernel_rfl)
@[simp] theorem aft (i:Nat):X.keep 41 i = ([[0],[0,8],[2],[0,3],[0,3,4],[0,3,4,10],[0,3,4],[0,3,4,5],[0,3,4,20],[0,3,4],[2]]:List (List Nat))[i]?:=congrArg (fun (l:List (List Nat))=>l[i]?) (show (bY[41]?).getD [] = _ by kernel_rfl)
@[simp] theorem afu (i:Nat):X.keep 42 i = ([[0],[0,6],[2,3],[0,8],[2,3],[0,4],[2,3]]:List (List Nat))[i]?:=congrArg (fun (l:List (List Nat))=>l[i]?) (show (bY[42]?).getD [] = _ by kernel_rfl)
@[simp] theorem afv (i:Nat):X.keep 43 i = ([[0],[0,3],[0,3,4],[0,3,4,8],[0,3,4],[0,3,4,5],[0,3,4,18],[0,3,4],[2]]:List (List Nat))[i]?:=congrArg (fun (l:List (List Nat))=>l[i]?) (show (bY[43]?).getD [] = _ by kernel_rfl)
@[simp] theorem afw (i:Nat):X.keep 44 i = ([[0],[0,6],[2,3],[0,4],[2,3]]:List (List Nat))[i]?:=congrArg (fun (l:List (List Nat))=>l[i]?) (show (bY[44]?).getD [] = _ by kernel_rfl)
@[simp] theorem afx (i:Nat):X.keep 45 i = ([[0,1],[0,1,5],[0,1,5,6],[0,1,5,6,16],[0,1,5,6],[0,1,5,6,29],[],[4],[0,1,5,6],[0,1,5,6],[4]]:List (List Nat))[i]?:=congrArg (fun (l:List (List Nat))=>l[i]?) (show (bY[45]?).getD [] = _ by kernel_rfl)
@[simp] theorem afy (i:Nat):X.keep 46 i = ([[0],[0,2],[0,2,3],[0,2,29],[0,2],[0,2,4],[0,2,4,41],[0,2,4],[0,2,4]]:List (List Nat))[i]?:=congrArg (fun (l:List (List Nat))=>l[i]?) (show (bY[46]?).getD [] = _ by kernel_rfl)
@[simp] theorem afz (i:Nat):X.keep 47 i = ([[0,1,2,11],[0,1,2,6],[0,1,2],[0,1,2,6,19],[0,1,2,6,29],[0,1,2]]:List (List Nat))[i]?:=congrArg (fun (l:List (List Nat))=>l[i]?) (show (bY[47]?).getD [] = _ by kernel_rfl)
@[simp] theorem afA (i:Nat):X.keep 48 i = ([[0],[0,4,5,6],[0,4,5,6,36],[0,4,5,6],[0,4,5,6,7],[0,4,5,6,7,8],[0,4,5,7,8,41,42],[0,4,5,7,8,41,42,43],[0,4,5,7,8,9,41,42],[0,4,5,7,8,41,42],[0,4,5,7,8,41,42],[0,4,5,8,57],[2,3],[0,4,5,8,10,11],[0,4,5,8,68],[],[2,3],[0,4,12],[0,4,12,81],[2,3],[0,2,3],[0,2,3,13,14],[0,2,3,109],[0,2,3],[0,2,3,13,14],[0,2,3,132],[2,3],[2,3]]:List (List Nat))[i]?:=congrArg (fun (l:List (List Nat))=>l[i]?) (show (bY[48]?).getD [] = _ by kernel_rfl)
@[simp] theorem afB (i:Nat):X.keep 49 i = ([[0,1,8],[]]:List (List Nat))[i]?:=congrArg (fun (l:List (List Nat))=>l[i]?) (show (bY[49]?).getD [] = _ by kernel_rfl)
@[simp] theorem afC (i:Nat):X.keep 50 i = ([[0],[3,4],[3,4,13],[2,3],[4,5],[4,5,6],[4,5,6,16],[4,5,6],[4,5,6],[5,28],[2,3],[2,3]]:List (List Nat))[i]?:=congrArg (fun (l:List (List Nat))=>l[i]?) (show (bY[50]?).getD [] = _ by kernel_rfl)
@[simp] theorem afD (i:Nat):X.keep 51 i = ([[0,2],[0,2,4],[0,2,4,9],[2,3],[2,4,11,12,13],[2,4,11,12,13,14],[2,4,6,11,12,13],[2,4,6,11,12,13,22],[2,3],[2,4,11,12,13],[2,4,11,12,13],[2,3]]:List (List Nat))[i]?:=congrArg (fun (l:List (List Nat))=>l[i]?) (show (bY[51]?).getD [] = _ by kernel_rfl)
@[simp] theorem afE (i:Nat):X.keep 52 i = ([[1,2],[1,2,3],[1,2,3],[1,2,3,4],[1,2,3,4,7],[1,2,3,4],[1,2,3,4],[2]]:List (List Nat))[i]?:=congrArg (fun (l:List (List Nat))=>l[i]?) (show (bY[52]?).getD [] = _ by kernel_rfl)
@[simp] theorem afF (i:Nat):X.keep 53 i = ([[1],[1,5],[2],[2]]:List (List Nat))[i]?:=congrArg (fun (l:List (List Nat))=>l[i]?) (show (bY[53]?).getD [] = _ by kernel_rfl)
@[simp] theorem afG (i:Nat):X.keep 54 i = ([[0],[0,8],[2,3],[0,4],[0,4,5],[0,4,5,12],[0,4,5],[0,4,5,26],[2,3],[0,4,5,31],[0,4,5],[4,42],[2,3],[2,3]]:List (List Nat))[i]?:=congrArg (fun (l:List (List Nat))=>l[i]?) (show (bY[54]?).getD [] = _ by kernel_rfl)
@[simp] theorem afH (i:Nat):X.keep 55 i = ([[0,1,2],[0,1,2,9],[0,1,2],[0],[6]]:List (List Nat))[i]?:=congrArg (fun (l:List (List Nat))=>l[i]?) (show (bY[55]?).getD [] = _ by kernel_rfl)
@[simp] theorem afI (i:Nat):X.keep 56 i = ([[0,1,8],[0,1,18],[],[]]:List (List Nat))[i]?:=congrArg (fun (l:List (List Nat))=>l[i]?) (show (bY[56]?).getD [] = _ by kernel_rfl)
@[simp] theorem afJ (i:Nat):X.keep 57 i = ([[0,1],[0,1,12],[4],[0,5,6,7],[0,5,6,7,28],[0,5,6],[5],[4]]:List (List Nat))[i]?:=congrArg (fun (l:List (List Nat))=>l[i]?) (show (bY[57]?).getD [] = _ by kernel_rfl)
@[simp] theorem afK (i:Nat):X.keep 58 i = ([[0,1,2,6],[0,1,2,6,44],[],[0,2,7],[0,7,8],[0,7,8,67],[0,7,8,69],[],[0,7,8,9],[0,7,8,9,75],[0,7,8,10],[0,7,9],[0,7,9,102],[0,7,9],[0,7,9,11],[0,7,9,11,114],[0,7,9,11],[0,7,9,11]]:List (List Nat))[i]?:=congrArg (fun (l:List (List Nat))=>l[i]?) (show (bY[58]?).getD [] = _ by kernel_rfl)
@[simp] theorem afL (i:Nat):X.keep 59 i = ([[1,3,5],[1,3,5,7],[1,3,5,7,8],[1,3,5,7,8,24],[1,3,5,7,8,9],[1,3,5,7,8,9,28],[1,3,5,7,8],[1,3,5,7,8,9,28,33],[1,3,5,7,8,37],[1,3,5,7,8],[1,3,5,7,8,10],[1,3,5,7,8,10,47],[1,3,5,7,8],[1,3,5,7,8,9,28,57],[1,3,5,7,8,11],[1,3,5,7,8,11,66],[1,3,5,7,8],[1,3,5,7,8,9,70],[1,3,5,7,8,12],[1,3,5,7,8,12,79],[1,3,5,7,8],[6]]:List (List Nat))[i]?:=congrArg (fun (l:List (List Nat))=>l[i]?) (show (bY[59]?).getD [] = _ by kernel_rfl)
@[simp] theorem afM (i:Nat):X.keep 60 i = ([[0],[0,3,4],[3,4,7,8,9],[3,4,7,8,9,10],[3,4,6,7,8,9],[3,4,6,7,8,9,14],[3,4,7,8,9],[3,4,7,8,9],[2]]:List (List Nat))[i]?:=congrArg (fun (l:List (List Nat))=>l[i]?) (show (bY[60]?).getD [] = _ by kernel_rfl)
@[simp] theorem afN (i:Nat):X.keep 61 i = ([[0],[5,6,7],[5,6,7,8],[4,5,6,7],[5,6,7,12],[2],[5,6,7],[2]]:List (List Nat))[i]?:=congrArg (fun (l:List (List Nat))=>l[i]?) (show (bY[61]?).getD [] = _ by kernel_rfl)
@[simp] theorem afO (i:Nat):X.keep 62 i = ([[0,1,2],[0,1,2,10],[0,1,2,10,17],[6,7,8],[0,1,2,20],[6,7,8],[6,7,8]]:List (List Nat))[i]?:=congrArg (fun (l:List (List Nat))=>l[i]?) (show (bY[62]?).getD [] = _ by kernel_rfl)
@[simp] theorem afP (i:Nat):X.keep 63 i = ([[0,1,2,4,12],[],[0,2,15,16],[0,2,15,16,17],[0,2,15,16],[0,2,15,16]]:List (List Nat))[i]?:=congrArg (fun (l:List (List Nat))=>l[i]?) (show (bY[63]?).getD [] = _ by kernel_rfl)
@[simp] theorem afQ (i:Nat):X.keep 64 i = ([[0,4,5],[0,4,5,7],[0,4,5,7,9],[0,4,5,7,9,10],[0,4,5,7,9,10,11],[4,5,7,9,10,11,21,22,23],[4,5,7,9,10,11,21,22,23,24],[4,5,7,9,10,11,12,13,21,22,23],[4,5,7,9,10,11,13,21,22,23],[4,5,7,9,10,11,21,22,23],[4,5,7,9,10,11,21,22,23],[6]]:List (List Nat))[i]?:=congrArg (fun (l:List (List Nat))=>l[i]?) (show (bY[64]?).getD [] = _ by kernel_rfl)
@[simp] theorem afR (i:Nat):X.keep 65 i = ([[0,1,2,3,4,5],[0,1,2,3,4,5,9],[0,1,2,3,4,5,9,10],[0,1,2,3,4,5,9,10],[0,1,2,3,4,5,9,10,16],[6,7,8],[0,1,2,3,4,5,9,10,21],[6,7,8],[0,1,2,3,4,5,9,10],[0,1,2,3,4,5,9,10],[0,1,2,3,4,5,9,10,11],[0,1,2,3,4,5,9,10,11,50],[6,7,8]]:List (List Nat))[i]?:=congrArg (fun (l:List (List Nat))=>l[i]?) (show (bY[65]?).getD [] = _ by kernel_rfl)
attribute [go_sem] List.getElem?_cons_zero List.getElem?_cons_succ Go.AM.uV Go.AM.yD
@[simp] theorem nt3:dX X 3 = 82:=by kernel_rfl
@[simp] theorem amj:bodied X 3 = true:=by kernel_rfl
@[simp] theorem amk:aF X 3 = []:=by kernel_rfl
@[simp] theorem nt4:dX X 4 = 35:=by kernel_rfl
@[simp] theorem aml:bodied X 4 = true:=by kernel_rfl
@[simp] theorem amm:aF X 4 = [28]:=by kernel_rfl
@[simp] theorem nt5:dX X 5 = 124:=by kernel_rfl
@[simp] theorem amn:bodied X 5 = true:=by kernel_rfl
@[simp] theorem amo:aF X 5 = [28]:=by kernel_rfl
@[simp] theorem nt6:dX X 6 = 89:=by kernel_rfl
@[simp] theorem amq:bodied X 6 = true:=by kernel_rfl
@[simp] theorem amr:aF X 6 = [28]:=by kernel_rfl
@[simp] theorem nt7:dX X 7 = 57:=by kernel_rfl
@[simp] theorem ams:bodied X 7 = true:=by kernel_rfl
@[simp] theorem amu:aF X 7 = [22]:=by kernel_rfl
@[simp] theorem nt8:dX X 8 = 19:=by kernel_rfl
@[simp] theorem amv:bodied X 8 = true:=by kernel_rfl
@[simp] theorem amw:aF X 8 = [9]:=by kernel_rfl
@[simp] theorem nt9:dX X 9 = 26:=by kernel_rfl
@[simp] theorem amx:bodied X 9 = true:=by kernel_rfl
@[simp] theorem amy:aF X 9 = [22,22]:=by kernel_rfl
@[simp] theorem amA:dX X 10 = 104:=by kernel_rfl
@[simp] theorem ajb:bodied X 10 = true:=by kernel_rfl
@[simp] theorem aa0:aF X 10 = [28]:=by kernel_rfl
@[simp] theorem amB:dX X 11 = 10:=by kernel_rfl
@[simp] theorem ajc:bodied X 11 = true:=by kernel_rfl
@[simp] theorem aa1:aF X 11 = [28,28]:=by kernel_rfl
@[simp] theorem amC:dX X 12 = 21:=by kernel_rfl
@[simp] theorem ajd:bodied X 12 = true:=by kernel_rfl
@[simp] theorem aa2:aF X 12 = [28]:=by kernel_rfl
@[simp] theorem amD:dX X 13 = 63:=by kernel_rfl
@[simp] theorem aje:bodied X 13 = true:=by kernel_rfl
@[simp] theorem aa3:aF X 13 = [28]:=by kernel_rfl
@[simp] theorem amE:dX X 14 = 47:=by kernel_rfl
@[simp] theorem ajf:bodied X 14 = true:=by kernel_rfl
@[simp] theorem ZT:aF X 14 = [22]:=by kernel_rfl
@[simp] theorem amF:dX X 15 = 13:=by kernel_rfl
@[simp] theorem ajg:bodied X 15 = true:=by kernel_rfl
@[simp] theorem ajh:aF X 15 = []:=by kernel_rfl
@[simp] theorem amG:dX X 16 = 14:=by kernel_rfl
@[simp] theorem aji:bodied X 16 = true:=by kernel_rfl
@[simp] theorem ajj:aF X 16 = [28]:=by kernel_rfl
@[simp] theorem amH:dX X 17 = 57:=by kernel_rfl
@[simp] theorem ajk:bodied X 17 = true:=by kernel_rfl
@[simp] theorem ajl:aF X 17 = [28]:=by kernel_rfl
@[simp] theorem amI:dX X 18 = 57:=by kernel_rfl
@[simp] theorem ajm:bodied X 18 = true:=by kernel_rfl
@[simp] theorem ajn:aF X 18 = [28]:=by kernel_rfl
@[simp] theorem amJ:dX X 19 = 21:=by kernel_rfl
@[simp] theorem ajo:bodied X 19 = true:=by kernel_rfl
@[simp] theorem ajp:aF X 19 = [28]:=by kernel_rfl
@[simp] theorem amK:dX X 20 = 41:=by kernel_rfl
@[simp] theorem ajq:bodied X 20 = true:=by kernel_rfl
@[simp] theorem ajr:aF X 20 = [28,28]:=by kernel_rfl
@[simp] theorem amL:dX X 21 = 35:=by kernel_rfl
@[simp] theorem ajs:bodied X 21 = true:=by kernel_rfl
@[simp] theorem aan:aF X 21 = [28,3]:=by kernel_rfl
@[simp] theorem amM:dX X 22 = 128:=by kernel_rfl
@[simp] theorem ajt:bodied X 22 = true:=by kernel_rfl
@[simp] theorem aa4:aF X 22 = [22]:=by kernel_rfl
@[simp] theorem amN:dX X 23 = 33:=by kernel_rfl
@[simp] theorem aju:bodied X 23 = true:=by kernel_rfl
@[simp] theorem aa5:aF X 23 = [3]:=by kernel_rfl
@[simp] theorem amO:dX X 24 = 36:=by kernel_rfl
@[simp] theorem ajv:bodied X 24 = true:=by kernel_rfl
@[simp] theorem aaR:aF X 24 = [28,3,3]:=by kernel_rfl
@[simp] theorem amP:dX X 25 = 17:=by kernel_rfl
@[simp] theorem ajw:bodied X 25 = true:=by kernel_rfl
@[simp] theorem aaO:aF X 25 = [44,3,3]:=by kernel_rfl
@[simp] theorem amQ:dX X 26 = 32:=by kernel_rfl
@[simp] theorem ajx:bodied X 26 = true:=by kernel_rfl
@[simp] theorem aa6:aF X 26 = [25]:=by kernel_rfl
@[simp] theorem amR:dX X 27 = 38:=by kernel_rfl
@[simp] theorem ajy:bodied X 27 = true:=by kernel_rfl
@[simp] theorem ajz:aF X 27 = [28,3,3]:=by kernel_rfl
@[simp] theorem amS:dX X 28 = 148:=by kernel_rfl
@[simp] theorem ajA:bodied X 28 = true:=by kernel_rfl
@[simp] theorem ajB:aF X 28 = [22]:=by kernel_rfl
@[simp] theorem amT:dX X 29 = 81:=by kernel_rfl
@[simp] theorem ajC:bodied X 29 = true:=by kernel_rfl
@[simp] theorem aam:aF X 29 = [50]:=by kernel_rfl
@[simp] theorem amU:dX X 30 = 34:=by kernel_rfl
@[simp] theorem ajD:bodied X 30 = true:=by kernel_rfl
@[simp] theorem ajE:aF X 30 = []:=by kernel_rfl
@[simp] theorem amV:dX X 31 = 55:=by kernel_rfl
@[simp] theorem ajF:bodied X 31 = true:=by kernel_rfl
@[simp] theorem ajG:aF X 31 = [41]:=by kernel_rfl
@[simp] theorem amW:dX X 32 = 18:=by kernel_rfl
@[simp] theorem ajH:bodied X 32 = true:=by kernel_rfl
@[simp] theorem aaP:aF X 32 = [44,3,3]:=by kernel_rfl
@[simp] theorem amX:dX X 33 = 33:=by kernel_rfl
@[simp] theorem ajI:bodied X 33 = true:=by kernel_rfl
@[simp] theorem ZV:aF X 33 = [3]:=by kernel_rfl
@[simp] theorem amY:dX X 34 = 30:=by kernel_rfl
@[simp] theorem ajJ:bodied X 34 = true:=by kernel_rfl
@[simp] theorem ZX:aF X 34 = [3]:=by kernel_rfl
@[simp] theorem amZ:dX X 35 = 48:=by kernel_rfl
@[simp] theorem ajK:bodied X 35 = true:=by kernel_rfl
@[simp] theorem aaM:aF X 35 = [44,3]:=by kernel_rfl
@[simp] theorem am0:dX X 36 = 65:=by kernel_rfl
@[simp] theorem ajL:bodied X 36 = true:=by kernel_rfl
@[simp] theorem ajM:aF X 36 = [22]:=by kernel_rfl
@[simp] theorem am1:dX X 37 = 39:=by kernel_rfl
@[simp] theorem ajN:bodied X 37 = true:=by kernel_rfl
@[simp] theorem ajO:aF X 37 = []:=by kernel_rfl
@[simp] theorem am2:dX X 38 = 68:=by kernel_rfl
@[simp] theorem ajP:bodied X 38 = true:=by kernel_rfl
@[simp] theorem ajQ:aF X 38 = [41]:=by kernel_rfl
@[simp] theorem am3:dX X 39 = 36:=by kernel_rfl
@[simp] theorem ajR:bodied X 39 = true:=by kernel_rfl
@[simp] theorem ajS:aF X 39 = [61,3,3]:=by kernel_rfl
@[simp] theorem am4:dX X 40 = 37:=by kernel_rfl
@[simp] theorem ajT:bodied X 40 = true:=by kernel_rfl
@[simp] theorem ajU:aF X 40 = [61,3,3]:=by kernel_rfl
@[simp] theorem am5:dX X 41 = 23:=by kernel_rfl
@[simp] theorem ajV:bodied X 41 = true:=by kernel_rfl
@[simp] theorem ajW:aF X 41 = [3]:=by kernel_rfl
@[simp] theorem am6:dX X 42 = 23:=by kernel_rfl
@[simp] theorem ajX:bodied X 42 = true:=by kernel_rfl
@[simp] theorem ajY:aF X 42 = [3]:=by kernel_rfl
@[simp] theorem am7:dX X 43 = 21:=by kernel_rfl
@[simp] theorem ajZ:bodied X 43 = true:=by kernel_rfl
@[simp] theorem aj0:aF X 43 = [3]:=by kernel_rfl
@[simp] theorem am8:dX X 44 = 20:=by kernel_rfl
@[simp] theorem aj1:bodied X 44 = true:=by kernel_rfl
@[simp] theorem aj2:aF X 44 = [3]:=by kernel_rfl
@[simp] theorem am9:dX X 45 = 63:=by kernel_rfl
@[simp] theorem aj3:bodied X 45 = true:=by kernel_rfl
@[simp] theorem aa7:aF X 45 = [50,3]:=by kernel_rfl
@[simp] theorem ana:dX X 46 = 49:=by kernel_rfl
@[simp] theorem aj6:bodied X 46 = true:=by kernel_rfl
@[simp] theorem aae:aF X 46 = [50]:=by kernel_rfl
@[simp] theorem anb:dX X 47 = 36:=by kernel_rfl
@[simp] theorem aj7:bodied X 47 = true:=by kernel_rfl
@[simp] theorem aaw:aF X 47 = [50,41,41]:=by kernel_rfl
@[simp] theorem anc:dX X 48 = 137:=by kernel_rfl
@[simp] theorem aj8:bodied X 48 = true:=by kernel_rfl
@[simp] theorem aa8:aF X 48 = [50]:=by kernel_rfl
@[simp] theorem ane:dX X 49 = 13:=by kernel_rfl
@[simp] theorem aj9:bodied X 49 = true:=by kernel_rfl
@[simp] theorem aa9:aF X 49 = [50,31]:=by kernel_rfl
@[simp] theorem anf:dX X 50 = 31:=by kernel_rfl
@[simp] theorem akb:bodied X 50 = true:=by kernel_rfl
@[simp] theorem akc:aF X 50 = [41]:=by kernel_rfl
@[simp] theorem ang:dX X 51 = 31:=by kernel_rfl
@[simp] theorem akd:bodied X 51 = true:=by kernel_rfl
@[simp] theorem ake:aF X 51 = [41]:=by kernel_rfl
@[simp] theorem anh:dX X 52 = 22:=by kernel_rfl
@[simp] theorem akf:bodied X 52 = true:=by kernel_rfl
@[simp] theorem akg:aF X 52 = [73]:=by kernel_rfl
@[simp] theorem ani:dX X 53 = 32:=by kernel_rfl
@[simp] theorem akh:bodied X 53 = true:=by kernel_rfl
@[simp] theorem aki:aF X 53 = [25]:=by kernel_rfl
@[simp] theorem anj:dX X 54 = 45:=by kernel_rfl
@[simp] theorem akj:bodied X 54 = true:=by kernel_rfl
@[simp] theorem akk:aF X 54 = [41]:=by kernel_rfl
@[simp] theorem ank:dX X 55 = 30:=by kernel_rfl
@[simp] theorem akl:bodied X 55 = true:=by kernel_rfl
@[simp] theorem akm:aF X 55 = [28,3,3]:=by kernel_rfl
@[simp] theorem anl:dX X 56 = 31:=by kernel_rfl
@[simp] theorem akn:bodied X 56 = true:=by kernel_rfl
@[simp] theorem abb:aF X 56 = [50,5]:=by kernel_rfl
@[simp] theorem anm:dX X 57 = 41:=by kernel_rfl
@[simp] theorem ako:bodied X 57 = true:=by kernel_rfl
@[simp] theorem abd:aF X 57 = [50,41]:=by kernel_rfl
@[simp] theorem ano:dX X 58 = 132:=by kernel_rfl
@[simp] theorem akp:bodied X 58 = true:=by kernel_rfl
@[simp] theorem aak:aF X 58 = [50,3,41]:=by kernel_rfl
@[simp] theorem anp:dX X 59 = 84:=by kernel_rfl
@[simp] theorem akq:bodied X 59 = true:=by kernel_rfl
@[simp] theorem aaB:aF X 59 = [50,41,3]:=by kernel_rfl
@[simp] theorem anq:dX X 60 = 27:=by kernel_rfl
@[simp] theorem akr:bodied X 60 = true:=by kernel_rfl
@[simp] theorem aks:aF X 60 = [41]:=by kernel_rfl
@[simp] theorem anr:dX X 61 = 14:=by kernel_rfl
@[simp] theorem akt:bodied X 61 = true:=by kernel_rfl
@[simp] theorem aku:aF X 61 = [41]:=by kernel_rfl
@[simp] theorem ant:dX X 62 = 29:=by kernel_rfl
@[simp] theorem akv:bodied X 62 = true:=by kernel_rfl
@[simp] theorem akw:aF X 62 = [41,28,3]:=by kernel_rfl
@[simp] theorem anu:dX X 63 = 23:=by kernel_rfl
@[simp] theorem akx:bodied X 63 = true:=by kernel_rfl
@[simp] theorem Z8:aF X 63 = [3,3]:=by kernel_rfl
@[simp] theorem anv:dX X 64 = 41:=by kernel_rfl
@[simp] theorem aky:bodied X 64 = true:=by kernel_rfl
@[simp] theorem akz:aF X 64 = [41,28,3]:=by kernel_rfl
@[simp] theorem anw:dX X 65 = 58:=by kernel_rfl
@[simp] theorem akA:bodied X 65 = true:=by kernel_rfl
@[simp] theorem akB:aF X 65 = []:=by kernel_rfl
@[simp] theorem Uf:X.keep 21 6 = some [4,5,6]:=by kernel_rfl
@[simp] theorem Eh:X.keep 21 7 = some [4,5,6]:=by kernel_rfl
@[simp] theorem Vg:X.keep 23 1 = some [0,2,4]:=by kernel_rfl
@[simp] theorem SN:X.keep 29 19 = some [0,3,4]:=by kernel_rfl
@[simp] theorem Vm:X.keep 48 9 = some [0,4,5,7,8,41,42]:=by kernel_rfl
@[simp] theorem SQ:X.keep 48 20 = some [0,2,3]:=by kernel_rfl
@[simp] theorem Ub:X.keep 58 3 = some [0,2,7]:=by kernel_rfl
@[simp] theorem afS:X.dy 5 11 = false:=by kernel_rfl
@[simp] theorem afT:X.dy 5 17 = false:=by kernel_rfl
@[simp] theorem akC:X.dy 9 6 = false:=by kernel_rfl
@[simp] theorem afU:X.dy 10 8 = false:=by kernel_rfl
@[simp] theorem ab1:X.dy 10 12 = false:=by kernel_rfl
@[simp] theorem ab2:X.dy 10 14 = false:=by kernel_rfl
@[simp] theorem ab3:X.dy 13 10 = false:=by kernel_rfl
@[simp] theorem afV:X.dy 21 6 = true:=by kernel_rfl
@[simp] theorem afW:X.dy 21 7 = true:=by kernel_rfl
@[simp] theorem ab4:X.dy 22 14 = false:=by kernel_rfl
@[simp] theorem ab5:X.dy 22 16 = false:=by kernel_rfl
@[simp] theorem ab6:X.dy 22 19 = false:=by kernel_rfl
@[simp] theorem ab7:X.dy 22 22 = false:=by kernel_rfl
@[simp] theorem afX:X.dy 23 1 = true:=by kernel_rfl
@[simp] theorem afY:X.dy 24 2 = false:=by kernel_rfl
@[simp] theorem afZ:X.dy 27 2 = false:=by kernel_rfl
@[simp] theorem ab8:X.dy 28 15 = false:=by kernel_rfl
@[simp] theorem ab9:X.dy 28 18 = false:=by kernel_rfl
@[simp] theorem acd:X.dy 28 22 = false:=by kernel_rfl
@[simp] theorem ace:X.dy 28 24 = false:=by kernel_rfl
@[simp] theorem acf:X.dy 29 19 = true:=by kernel_rfl
@[simp] theorem acg:X.dy 33 12 = false:=by kernel_rfl
@[simp] theorem ach:X.dy 34 10 = false:=by kernel_rfl
@[simp] theorem af0:X.dy 35 2 = false:=by kernel_rfl
@[simp] theorem af2:X.dy 37 1 = true:=by kernel_rfl
@[simp] theorem af4:X.dy 39 3 = false:=by kernel_rfl
@[simp] theorem af5:X.dy 40 3 = false:=by kernel_rfl
@[simp] theorem af6:X.dy 45 5 = false:=by kernel_rfl
@[simp] theorem af7:X.dy 45 8 = false:=by kernel_rfl
@[simp] theorem af8:X.dy 48 9 = true:=by kernel_rfl
@[simp] theorem aci:X.dy 48 20 = true:=by kernel_rfl
@[simp] theorem af9:X.dy 52 6 = false:=by kernel_rfl
@[simp] theorem aga:X.dy 56 1 = false:=by kernel_rfl
@[simp] theorem agb:X.dy 57 3 = false:=by kernel_rfl
@[simp] theorem agc:X.dy 58 3 = true:=by kernel_rfl
@[simp] theorem acj:X.dy 58 11 = false:=by kernel_rfl
@[simp] theorem acn:X.dy 58 17 = false:=by kernel_rfl
@[simp] theorem agd:X.dy 65 8 = false:=by kernel_rfl
@[simp] theorem akD:sizeT X 0 = 1:=by kernel_rfl
@[simp] theorem agf:bK X 0 = 0:=by kernel_rfl
@[simp] theorem anx:okT X 0 = true:=by kernel_rfl
@[simp] theorem isAgg0:bH X 0 = false:=by kernel_rfl
@[simp] theorem agh:dF X 0 = false:=by kernel_rfl
@[simp] theorem agi:dH X 0 = false:=by kernel_rfl
@[simp] theorem akE:iP X 0 = false:=by kernel_rfl
@[simp] theorem anz:bV X 0 = true:=by kernel_rfl
@[simp] theorem anA:und X 3 = .int .i64:=by kernel_rfl
@[simp] theorem size3:sizeT X 3 = 1:=by kernel_rfl
@[simp] theorem bytes3:bK X 3 = 8:=by kernel_rfl
@[simp] theorem anB:okT X 3 = true:=by kernel_rfl
@[simp] theorem isAgg3:bH X 3 = false:=by kernel_rfl
@[simp] theorem agj:dF X 3 = true:=by kernel_rfl
@[simp] theorem agk:dH X 3 = false:=by kernel_rfl
@[simp] theorem akF:iP X 3 = false:=by kernel_rfl
@[simp] theorem SI:bV X 3 = true:=by kernel_rfl
@[simp] theorem zero3:bC X 3 = .int .i64 0:=by kernel_rfl
@[simp] theorem anC:und X 4 = .bool:=by kernel_rfl
@[simp] theorem akG:sizeT X 4 = 1:=by kernel_rfl
@[simp] theorem bytes4:bK X 4 = 1:=by kernel_rfl
@[simp] theorem anD:okT X 4 = true:=by kernel_rfl
@[simp] theorem isAgg4:bH X 4 = false:=by kernel_rfl
@[simp] theorem agl:dF X 4 = false:=by kernel_rfl
@[simp] theorem agm:dH X 4 = false:=by kernel_rfl
@[simp] theorem akH:iP X 4 = false:=by kernel_rfl
@[simp] theorem anE:bV X 4 = true:=by kernel_rfl
@[simp] theorem akI:bC X 4 = .bool false:=by kernel_rfl
@[simp] theorem TB:und X 5 = .int .u8:=by kernel_rfl
@[simp] theorem DR:sizeT X 5 = 1:=by kernel_rfl
@[simp] theorem bytes5:bK X 5 = 1:=by kernel_rfl
@[simp] theorem anF:okT X 5 = true:=by kernel_rfl
@[simp] theorem isAgg5:bH X 5 = false:=by kernel_rfl
@[simp] theorem agn:dF X 5 = true:=by kernel_rfl
@[simp] theorem agp:dH X 5 = false:=by kernel_rfl
@[simp] theorem akJ:iP X 5 = true:=by kernel_rfl
@[simp] theorem Ns:bV X 5 = true:=by kernel_rfl
@[simp] theorem akK:bC X 5 = .int .u8 0:=by kernel_rfl
@[simp] theorem anG:und X 9 = .string:=by kernel_rfl
@[simp] theorem akL:sizeT X 9 = 1:=by kernel_rfl
@[simp] theorem bytes9:bK X 9 = 16:=by kernel_rfl
@[simp] theorem anH:okT X 9 = true:=by kernel_rfl
@[simp] theorem isAgg9:bH X 9 = false:=by kernel_rfl
@[simp] theorem agq:dF X 9 = false:=by kernel_rfl
@[simp] theorem agr:dH X 9 = false:=by kernel_rfl
@[simp] theorem akM:iP X 9 = false:=by kernel_rfl
@[simp] theorem anI:bV X 9 = true:=by kernel_rfl
@[simp] theorem zero9:bC X 9 = .str []:=by kernel_rfl
@[simp] theorem akN:und X 22 = .slice 25:=by kernel_rfl
@[simp] theorem ags:sizeT X 22 = 1:=by kernel_rfl
@[simp] theorem aco:bK X 22 = 24:=by kernel_rfl
@[simp] theorem akO:okT X 22 = true:=by kernel_rfl
@[simp] theorem acp:bH X 22 = false:=by kernel_rfl
@[simp] theorem acr:dF X 22 = false:=by kernel_rfl
@[simp] theorem acs:dH X 22 = false:=by kernel_rfl
@[simp] theorem agt:iP X 22 = false:=by kernel_rfl
@[simp] theorem akP:bV X 22 = true:=by kernel_rfl
@[simp] theorem zero22:bC X 22 = .ro 0 .pn 0:=by kernel_rfl
@[simp] theorem size25:sizeT X 25 = 3:=by kernel_rfl
@[simp] theorem bytes25:bK X 25 = 24:=by kernel_rfl
@[simp] theorem akQ:okT X 25 = true:=by kernel_rfl
@[simp] theorem isAgg25:bH X 25 = true:=by kernel_rfl
@[simp] theorem acu:dF X 25 = false:=by kernel_rfl
@[simp] theorem acv:dH X 25 = false:=by kernel_rfl
@[simp] theorem agu:iP X 25 = false:=by kernel_rfl
@[simp] theorem akR:bV X 25 = true:=by kernel_rfl
@[simp] theorem agv:bC X 25 = .agg (.pc [.int .i64 0,.int .i64 0,.int .u8 0]):=by kernel_rfl
@[simp] theorem zf:und X 28 = .slice 5:=by kernel_rfl
@[simp] theorem agw:sizeT X 28 = 1:=by kernel_rfl
@[simp] theorem bytes28:bK X 28 = 24:=by kernel_rfl
@[simp] theorem akS:okT X 28 = true:=by kernel_rfl
@[simp] theorem isAgg28:bH X 28 = false:=by kernel_rfl
@[simp] theorem acw:dF X 28 = false:=by kernel_rfl
@[simp] theorem acy:dH X 28 = false:=by kernel_rfl
@[simp] theorem agx:iP X 28 = false:=by kernel_rfl
@[simp] theorem akT:bV X 28 = true:=by kernel_rfl
@[simp] theorem agy:bC X 28 = .ro 0 .pn 0:=by kernel_rfl
@[simp] theorem akU:und X 31 = .int .i64:=by kernel_rfl
@[simp] theorem agz:sizeT X 31 = 1:=by kernel_rfl
@[simp] theorem acz:bK X 31 = 8:=by kernel_rfl
@[simp] theorem akV:okT X 31 = true:=by kernel_rfl
@[simp] theorem isAgg31:bH X 31 = false:=by kernel_rfl
@[simp] theorem acA:dF X 31 = true:=by kernel_rfl
@[simp] theorem acB:dH X 31 = false:=by kernel_rfl
@[simp] theorem agA:iP X 31 = false:=by kernel_rfl
@[simp] theorem akW:bV X 31 = true:=by kernel_rfl
@[simp] theorem agB:bC X 31 = .int .i64 0:=by kernel_rfl
@[simp] theorem agC:sizeT X 32 = 1:=by kernel_rfl
@[simp] theorem acC:bK X 32 = 0:=by kernel_rfl
@[simp] theorem akX:okT X 32 = true:=by kernel_rfl
@[simp] theorem isAgg32:bH X 32 = false:=by kernel_rfl
@[simp] theorem acD:dF X 32 = false:=by kernel_rfl
@[simp] theorem acE:dH X 32 = false:=by kernel_rfl
@[simp] theorem agD:iP X 32 = false:=by kernel_rfl
@[simp] theorem akY:bV X 32 = true:=by kernel_rfl
@[simp] theorem agE:sizeT X 36 = 1:=by kernel_rfl
@[simp] theorem acF:bK X 36 = 0:=by kernel_rfl
@[simp] theorem akZ:okT X 36 = true:=by kernel_rfl
@[simp] theorem isAgg36:bH X 36 = false:=by kernel_rfl
@[simp] theorem acG:dF X 36 = false:=by kernel_rfl
@[simp] theorem acH:dH X 36 = false:=by kernel_rfl
@[simp] theorem agF:iP X 36 = false:=by kernel_rfl
@[simp] theorem ak0:bV X 36 = true:=by kernel_rfl
@[simp] theorem ak1:und X 39 = .map 40 41:=by kernel_rfl
@[simp] theorem agG:sizeT X 39 = 1:=by kernel_rfl
@[simp] theorem acI:bK X 39 = 8:=by kernel_rfl
@[simp] theorem ak2:okT X 39 = true:=by kernel_rfl
@[simp] theorem isAgg39:bH X 39 = false:=by kernel_rfl
@[simp] theorem acJ:dF X 39 = false:=by kernel_rfl
@[simp] theorem acK:dH X 39 = false:=by kernel_rfl
@[simp] theorem agH:iP X 39 = false:=by kernel_rfl
@[simp] theorem ak3:bV X 39 = true:=by kernel_rfl
@[simp] theorem agI:bC X 39 = .gZ:=by kernel_rfl
@[simp] theorem ak4:und X 40 = .array 3 5:=by kernel_rfl
@[simp] theorem agJ:sizeT X 40 = 3:=by kernel_rfl
@[simp] theorem acL:bK X 40 = 3:=by kernel_rfl
@[simp] theorem ak5:okT X 40 = true:=by kernel_rfl
@[simp] theorem isAgg40:bH X 40 = true:=by kernel_rfl
@[simp] theorem acM:dF X 40 = false:=by kernel_rfl
@[simp] theorem acN:dH X 40 = true:=by kernel_rfl
@[simp] theorem agK:iP X 40 = false:=by kernel_rfl
@[simp] theorem ak6:bV X 40 = true:=by kernel_rfl
@[simp] theorem agL:bC X 40 = .agg (.pb [0,0,0]):=by kernel_rfl
@[simp] theorem HY:und X 41 = .slice 3:=by kernel_rfl
@[simp] theorem agM:sizeT X 41 = 1:=by kernel_rfl
@[simp] theorem acO:bK X 41 = 24:=by kernel_rfl
@[simp] theorem ak7:okT X 41 = true:=by kernel_rfl
@[simp] theorem isAgg41:bH X 41 = false:=by kernel_rfl
@[simp] theorem acP:dF X 41 = false:=by kernel_rfl
@[simp] theorem acQ:dH X 41 = false:=by kernel_rfl
@[simp] theorem agN:iP X 41 = false:=by kernel_rfl
@[simp] theorem ak8:bV X 41 = true:=by kernel_rfl
@[simp] theorem agO:bC X 41 = .ro 0 .pn 0:=by kernel_rfl
@[simp] theorem agP:sizeT X 42 = 1:=by kernel_rfl
@[simp] theorem acR:bK X 42 = 8:=by kernel_rfl
@[simp] theorem ak9:okT X 42 = true:=by kernel_rfl
@[simp] theorem isAgg42:bH X 42 = false:=by kernel_rfl
@[simp] theorem acS:dF X 42 = false:=by kernel_rfl
@[simp] theorem acT:dH X 42 = false:=by kernel_rfl
@[simp] theorem agQ:iP X 42 = false:=by kernel_rfl
@[simp] theorem ala:bV X 42 = true:=by kernel_rfl
@[simp] theorem agS:bC X 42 = .jG:=by kernel_rfl
@[simp] theorem alb:und X 44 = .pointer 46:=by kernel_rfl
@[simp] theorem agT:sizeT X 44 = 1:=by kernel_rfl
@[simp] theorem acU:bK X 44 = 8:=by kernel_rfl
@[simp] theorem alc:okT X 44 = true:=by kernel_rfl
@[simp] theorem isAgg44:bH X 44 = false:=by kernel_rfl
@[simp] theorem acV:dF X 44 = false:=by kernel_rfl
@[simp] theorem acW:dH X 44 = false:=by kernel_rfl
@[simp] theorem agU:iP X 44 = false:=by kernel_rfl
@[simp] theorem ald:bV X 44 = true:=by kernel_rfl
@[simp] theorem agV:bC X 44 = .gY:=by kernel_rfl
@[simp] theorem agW:sizeT X 46 = 2:=by kernel_rfl
@[simp] theorem acX:bK X 46 = 32:=by kernel_rfl
@[simp] theorem ale:okT X 46 = true:=by kernel_rfl
@[simp] theorem isAgg46:bH X 46 = true:=by kernel_rfl
@[simp] theorem acY:dF X 46 = false:=by kernel_rfl
@[simp] theorem acZ:dH X 46 = false:=by kernel_rfl
@[simp] theorem agX:iP X 46 = false:=by kernel_rfl
@[simp] theorem alf:bV X 46 = true:=by kernel_rfl
@[simp] theorem agY:bC X 46 = .agg (.pc [.ro 0 .pn 0,.int .i64 0]):=by kernel_rfl
@[simp] theorem agZ:sizeT X 47 = 1:=by kernel_rfl
@[simp] theorem ac0:bK X 47 = 8:=by kernel_rfl
@[simp] theorem alg:okT X 47 = true:=by kernel_rfl
@[simp] theorem isAgg47:bH X 47 = false:=by kernel_rfl
@[simp] theorem ac1:dF X 47 = false:=by kernel_rfl
@[simp] theorem ac2:dH X 47 = false:=by kernel_rfl
@[simp] theorem ag0:iP X 47 = false:=by kernel_rfl
@[simp] theorem alh:bV X 47 = true:=by kernel_rfl
@[simp] theorem ag1:bC X 47 = .jG:=by kernel_rfl
@[simp] theorem ali:und X 49 = .int .u64:=by kernel_rfl
@[simp] theorem ag2:sizeT X 49 = 1:=by kernel_rfl
@[simp] theorem ac3:bK X 49 = 8:=by kernel_rfl
@[simp] theorem alj:okT X 49 = true:=by kernel_rfl
@[simp] theorem ac4:bH X 49 = false:=by kernel_rfl
@[simp] theorem ac5:dF X 49 = true:=by kernel_rfl
@[simp] theorem ac6:dH X 49 = false:=by kernel_rfl
@[simp] theorem ag3:iP X 49 = false:=by kernel_rfl
@[simp] theorem alk:bV X 49 = true:=by kernel_rfl
@[simp] theorem ag4:bC X 49 = .int .u64 0:=by kernel_rfl
@[simp] theorem alm:und X 50 = .pointer 52:=by kernel_rfl
@[simp] theorem ag5:sizeT X 50 = 1:=by kernel_rfl
@[simp] theorem ac7:bK X 50 = 8:=by kernel_rfl
@[simp] theorem aln:okT X 50 = true:=by kernel_rfl
@[simp] theorem isAgg50:bH X 50 = false:=by kernel_rfl
@[simp] theorem ac8:dF X 50 = false:=by kernel_rfl
@[simp] theorem ac9:dH X 50 = false:=by kernel_rfl
@[simp] theorem ag6:iP X 50 = false:=by kernel_rfl
@[simp] theorem alo:bV X 50 = true:=by kernel_rfl
@[simp] theorem ag7:bC X 50 = .gY:=by kernel_rfl
@[simp] theorem ag8:sizeT X 52 = 5:=by kernel_rfl
@[simp] theorem ada:bK X 52 = 72:=by kernel_rfl
@[simp] theorem alp:okT X 52 = true:=by kernel_rfl
@[simp] theorem isAgg52:bH X 52 = true:=by kernel_rfl
@[simp] theorem adb:dF X 52 = false:=by kernel_rfl
@[simp] theorem ade:dH X 52 = false:=by kernel_rfl
@[simp] theorem ag9:iP X 52 = false:=by kernel_rfl
@[simp] theorem alq:bV X 52 = true:=by kernel_rfl
@[simp] theorem aha:bC X 52 = .agg (.pc [.ro 0 .pn 0,.int .i64 0,.ro 0 .pn 0,.int .i64 0,.int .i64 0]):=by kernel_rfl
@[simp] theorem abe:und X 53 = .slice 68:=by kernel_rfl
@[simp] theorem ahb:sizeT X 53 = 1:=by kernel_rfl
@[simp] theorem adf:bK X 53 = 24:=by kernel_rfl
@[simp] theorem alr:okT X 53 = true:=by kernel_rfl
@[simp] theorem isAgg53:bH X 53 = false:=by kernel_rfl
@[simp] theorem adg:dF X 53 = false:=by kernel_rfl
@[simp] theorem adh:dH X 53 = false:=by kernel_rfl
@[simp] theorem ahc:iP X 53 = false:=by kernel_rfl
@[simp] theorem als:bV X 53 = true:=by kernel_rfl
@[simp] theorem ahd:bC X 53 = .ro 0 .pn 0:=by kernel_rfl
@[simp] theorem ahe:sizeT X 55 = 1:=by kernel_rfl
@[simp] theorem adi:bK X 55 = 0:=by kernel_rfl
@[simp] theorem alu:okT X 55 = true:=by kernel_rfl
@[simp] theorem isAgg55:bH X 55 = false:=by kernel_rfl
@[simp] theorem adk:dF X 55 = false:=by kernel_rfl
@[simp] theorem adl:dH X 55 = false:=by kernel_rfl
@[simp] theorem ahf:iP X 55 = false:=by kernel_rfl
@[simp] theorem alv:bV X 55 = true:=by kernel_rfl
@[simp] theorem ahg:sizeT X 57 = 1:=by kernel_rfl
@[simp] theorem adn:bK X 57 = 0:=by kernel_rfl
@[simp] theorem alx:okT X 57 = true:=by kernel_rfl
@[simp] theorem isAgg57:bH X 57 = false:=by kernel_rfl
@[simp] theorem ado:dF X 57 = false:=by kernel_rfl
@[simp] theorem adp:dH X 57 = false:=by kernel_rfl
@[simp] theorem ahh:iP X 57 = false:=by kernel_rfl
@[simp] theorem aly:bV X 57 = true:=by kernel_rfl
@[simp] theorem ahi:sizeT X 59 = 1:=by kernel_rfl
@[simp] theorem adq:bK X 59 = 0:=by kernel_rfl
@[simp] theorem alz:okT X 59 = true:=by kernel_rfl
@[simp] theorem adr:bH X 59 = false:=by kernel_rfl
@[simp] theorem ads:dF X 59 = false:=by kernel_rfl
@[simp] theorem adt:dH X 59 = false:=by kernel_rfl
@[simp] theorem ahj:iP X 59 = false:=by kernel_rfl
@[simp] theorem alA:bV X 59 = true:=by kernel_rfl
@[simp] theorem alB:und X 61 = .pointer 63:=by kernel_rfl
@[simp] theorem ahk:sizeT X 61 = 1:=by kernel_rfl
@[simp] theorem adu:bK X 61 = 8:=by kernel_rfl
@[simp] theorem alC:okT X 61 = true:=by kernel_rfl
@[simp] theorem adv:bH X 61 = false:=by kernel_rfl
@[simp] theorem adw:dF X 61 = false:=by kernel_rfl
@[simp] theorem adx:dH X 61 = false:=by kernel_rfl
@[simp] theorem ahl:iP X 61 = false:=by kernel_rfl
@[simp] theorem alD:bV X 61 = true:=by kernel_rfl
@[simp] theorem ahm:bC X 61 = .gY:=by kernel_rfl
@[simp] theorem ahn:sizeT X 63 = 2:=by kernel_rfl
@[simp] theorem ady:bK X 63 = 32:=by kernel_rfl
@[simp] theorem alE:okT X 63 = true:=by kernel_rfl
@[simp] theorem adz:bH X 63 = true:=by kernel_rfl
@[simp] theorem adA:dF X 63 = false:=by kernel_rfl
@[simp] theorem adB:dH X 63 = false:=by kernel_rfl
@[simp] theorem aho:iP X 63 = false:=by kernel_rfl
@[simp] theorem alF:bV X 63 = true:=by kernel_rfl
@[simp] theorem ahp:bC X 63 = .agg (.pc [.ro 0 .pn 0,.int .i64 0]):=by kernel_rfl
@[simp] theorem ahq:sizeT X 65 = 1:=by kernel_rfl
@[simp] theorem adC:bK X 65 = 0:=by kernel_rfl
@[simp] theorem alG:okT X 65 = true:=by kernel_rfl
@[simp] theorem adD:bH X 65 = false:=by kernel_rfl
@[simp] theorem adE:dF X 65 = false:=by kernel_rfl
@[simp] theorem adF:dH X 65 = false:=by kernel_rfl
@[simp] theorem ahr:iP X 65 = false:=by kernel_rfl
@[simp] theorem alH:bV X 65 = true:=by kernel_rfl
@[simp] theorem Y7:sizeT X 68 = 4:=by kernel_rfl
@[simp] theorem adG:bK X 68 = 32:=by kernel_rfl
@[simp] theorem alI:okT X 68 = true:=by kernel_rfl
@[simp] theorem adH:bH X 68 = true:=by kernel_rfl
@[simp] theorem adI:dF X 68 = false:=by kernel_rfl
@[simp] theorem adJ:dH X 68 = false:=by kernel_rfl
@[simp] theorem ahs:iP X 68 = false:=by kernel_rfl
@[simp] theorem abf:bV X 68 = true:=by kernel_rfl
@[simp] theorem aht:bC X 68 = .agg (.pc [.int .i64 0,.bool false,.int .i64 0,.int .i64 0]):=by kernel_rfl
@[simp] theorem ahu:sizeT X 71 = 1:=by kernel_rfl
@[simp] theorem adK:bK X 71 = 0:=by kernel_rfl
@[simp] theorem alJ:okT X 71 = true:=by kernel_rfl
@[simp] theorem adL:bH X 71 = false:=by kernel_rfl
@[simp] theorem adM:dF X 71 = false:=by kernel_rfl
@[simp] theorem adN:dH X 71 = false:=by kernel_rfl
@[simp] theorem ahv:iP X 71 = false:=by kernel_rfl
@[simp] theorem alK:bV X 71 = true:=by kernel_rfl
@[simp] theorem alL:und X 73 = .array 16 3:=by kernel_rfl
@[simp] theorem ahw:sizeT X 73 = 16:=by kernel_rfl
@[simp] theorem adO:bK X 73 = 128:=by kernel_rfl
@[simp] theorem alM:okT X 73 = true:=by kernel_rfl
@[simp] theorem adP:bH X 73 = true:=by kernel_rfl
@[simp] theorem adQ:dF X 73 = false:=by kernel_rfl
@[simp] theorem adR:dH X 73 = true:=by kernel_rfl
@[simp] theorem ahx:iP X 73 = false:=by kernel_rfl
@[simp] theorem alN:bV X 73 = true:=by kernel_rfl
@[simp] theorem ahy:bC X 73 = .agg (.pi .i64 [0,0,0,0,0,0,0,0,0,0,0,0,0,0,0,0]):=by kernel_rfl
@[simp] theorem ahz:sizeT X 74 = 1:=by kernel_rfl
@[simp] theorem adS:bK X 74 = 0:=by kernel_rfl
@[simp] theorem alO:okT X 74 = true:=by kernel_rfl
@[simp] theorem adT:bH X 74 = false:=by kernel_rfl
@[simp] theorem adU:dF X 74 = false:=by kernel_rfl
@[simp] theorem adV:dH X 74 = false:=by kernel_rfl
@[simp] theorem ahA:iP X 74 = false:=by kernel_rfl
@[simp] theorem alP:bV X 74 = true:=by kernel_rfl
@[simp] theorem alQ:und X 76 = .array 17 3:=by kernel_rfl
@[simp] theorem ahB:sizeT X 76 = 17:=by kernel_rfl
@[simp] theorem adW:bK X 76 = 136:=by kernel_rfl
@[simp] theorem alR:okT X 76 = true:=by kernel_rfl
@[simp] theorem adX:bH X 76 = true:=by kernel_rfl
@[simp] theorem adY:dF X 76 = false:=by kernel_rfl
@[simp] theorem adZ:dH X 76 = true:=by kernel_rfl
@[simp] theorem ahC:iP X 76 = false:=by kernel_rfl
@[simp] theorem alS:bV X 76 = true:=by kernel_rfl
@[simp] theorem ahD:bC X 76 = .agg (.pi .i64 [0,0,0,0,0,0,0,0,0,0,0,0,0,0,0,0,0]):=by kernel_rfl
@[simp] theorem alT:und X 82 = .array 19 3:=by kernel_rfl
@[simp] theorem ahE:sizeT X 82 = 19:=by kernel_rfl
@[simp] theorem ad1:bK X 82 = 152:=by kernel_rfl
@[simp] theorem alU:okT X 82 = true:=by kernel_rfl
@[simp] theorem ad2:bH X 82 = true:=by kernel_rfl
@[simp] theorem ad3:dF X 82 = false:=by kernel_rfl
@[simp] theorem ad4:dH X 82 = true:=by kernel_rfl
@[simp] theorem ahF:iP X 82 = false:=by kernel_rfl
@[simp] theorem alV:bV X 82 = true:=by kernel_rfl
@[simp] theorem ahG:bC X 82 = .agg (.pi .i64 [0,0,0,0,0,0,0,0,0,0,0,0,0,0,0,0,0,0,0]):=by kernel_rfl
@[simp] theorem ahH:sizeT X 85 = 1:=by kernel_rfl
@[simp] theorem ad5:bK X 85 = 0:=by kernel_rfl
@[simp] theorem alW:okT X 85 = true:=by kernel_rfl
@[simp] theorem ad6:bH X 85 = false:=by kernel_rfl
@[simp] theorem ad7:dF X 85 = false:=by kernel_rfl
@[simp] theorem ad8:dH X 85 = false:=by kernel_rfl
@[simp] theorem ahI:iP X 85 = false:=by kernel_rfl
@[simp] theorem alX:bV X 85 = true:=by kernel_rfl
@[simp] theorem alY:und X 87 = .array 2 3:=by kernel_rfl
@[simp] theorem size87:sizeT X 87 = 2:=by kernel_rfl
@[simp] theorem ad9:bK X 87 = 16:=by kernel_rfl
@[simp] theorem alZ:okT X 87 = true:=by kernel_rfl
@[simp] theorem aea:bH X 87 = true:=by kernel_rfl
@[simp] theorem aeb:dF X 87 = false:=by kernel_rfl
@[simp] theorem aec:dH X 87 = true:=by kernel_rfl
@[simp] theorem ahJ:iP X 87 = false:=by kernel_rfl
@[simp] theorem al0:bV X 87 = true:=by kernel_rfl
@[simp] theorem ahK:bC X 87 = .agg (.pi .i64 [0,0]):=by kernel_rfl
@[simp] theorem al1:und X 88 = .array 29 87:=by kernel_rfl
@[simp] theorem ahL:sizeT X 88 = 58:=by kernel_rfl
@[simp] theorem aed:bK X 88 = 464:=by kernel_rfl
@[simp] theorem al2:okT X 88 = true:=by kernel_rfl
@[simp] theorem aee:bH X 88 = true:=by kernel_rfl
@[simp] theorem aef:dF X 88 = false:=by kernel_rfl
@[simp] theorem aeg:dH X 88 = true:=by kernel_rfl
@[simp] theorem ahM:iP X 88 = false:=by kernel_rfl
@[simp] theorem al3:bV X 88 = true:=by kernel_rfl
@[simp] theorem ahN:bC X 88 = .agg (.pr 2 [.pc [.int .i64 0,.int .i64 0],.pc [.int .i64 0,.int .i64 0],.pc [.int .i64 0,.int .i64 0],.pc [.int .i64 0,.int .i64 0],.pc [.int .i64 0,.int .i64 0],.pc [.int .i64 0,.int .i64 0],.pc [.int .i64 0,.int .i64 0],.pc [.int .i64 0,.int .i64 0],.pc [.int .i64 0,.int .i64 0],.pc [.int .i64 0,.int .i64 0],.pc [.int .i64 0,.int .i64 0],.pc [.int .i64 0,.int .i64 0],.pc [.int .i64 0,.int .i64 0],.pc [.int .i64 0,.int .i64 0],.pc [.int .i64 0,.int .i64 0],.pc [.int .i64 0,.int .i64 0],.pc [.int .i64 0,.int .i64 0],.pc [.int .i64 0,.int .i64 0],.pc [.int .i64 0,.int .i64 0],.pc [.int .i64 0,.int .i64 0],.pc [.int .i64 0,.int .i64 0],.pc [.int .i64 0,.int .i64 0],.pc [.int .i64 0,.int .i64 0],.pc [.int .i64 0,.int .i64 0],.pc [.int .i64 0,.int .i64 0],.pc [.int .i64 0,.int .i64 0],.pc [.int .i64 0,.int .i64 0],.pc [.int .i64 0,.int .i64 0],.pc [.int .i64 0,.int .i64 0]]):=by kernel_rfl
@[simp] theorem ahO:sizeT X 89 = 1:=by kernel_rfl
@[simp] theorem aeh:bK X 89 = 8:=by kernel_rfl
@[simp] theorem al4:okT X 89 = true:=by kernel_rfl
@[simp] theorem aei:bH X 89 = false:=by kernel_rfl
@[simp] theorem aej:dF X 89 = false:=by kernel_rfl
@[simp] theorem aek:dH X 89 = false:=by kernel_rfl
@[simp] theorem ahP:iP X 89 = false:=by kernel_rfl
@[simp] theorem al5:bV X 89 = true:=by kernel_rfl
@[simp] theorem ahQ:bC X 89 = .jG:=by kernel_rfl
@[simp] theorem al6:und X 91 = .array 16 41:=by kernel_rfl
@[simp] theorem ahR:sizeT X 91 = 16:=by kernel_rfl
@[simp] theorem ael:bK X 91 = 384:=by kernel_rfl
@[simp] theorem al7:okT X 91 = true:=by kernel_rfl
@[simp] theorem aem:bH X 91 = true:=by kernel_rfl
@[simp] theorem aen:dF X 91 = false:=by kernel_rfl
@[simp] theorem aeo:dH X 91 = true:=by kernel_rfl
@[simp] theorem ahS:iP X 91 = false:=by kernel_rfl
@[simp] theorem al8:bV X 91 = true:=by kernel_rfl
@[simp] theorem ahT:bC X 91 = .agg (.pc [.ro 0 .pn 0,.ro 0 .pn 0,.ro 0 .pn 0,.ro 0 .pn 0,.ro 0 .pn 0,.ro 0 .pn 0,.ro 0 .pn 0,.ro 0 .pn 0,.ro 0 .pn 0,.ro 0 .pn 0,.ro 0 .pn 0,.ro 0 .pn 0,.ro 0 .pn 0,.ro 0 .pn 0,.ro 0 .pn 0,.ro 0 .pn 0]):=by kernel_rfl
@[simp] theorem ahU (H:AM.Heap) (x:AV):cu X H 25 x 0 = faV H x 0:=dN (ty:=3) (by kernel_rfl) (by kernel_rfl) H x
@[simp] theorem ahV (x:AV):jk X 25 x 0 = fvV X x 0 3:=iI (by kernel_rfl) x
@[simp] theorem ahW (H:AM.Heap) (x:AV):cu X H 25 x 1 = faV H x 1:=dN (ty:=3) (by kernel_rfl) (by kernel_rfl) H x
@[simp] theorem ahX (x:AV):jk X 25 x 1 = fvV X x 1 3:=iI (by kernel_rfl) x
@[simp] theorem ahY (H:AM.Heap) (x:AV):cu X H 25 x 2 = faV H x 2:=dN (ty:=5) (by kernel_rfl) (by kernel_rfl) H x
@[simp] theorem ahZ (x:AV):jk X 25 x 2 = fvV X x 2 5:=iI (by kernel_rfl) x
@[simp] theorem ah0 (H:AM.Heap) (x:AV):cu X H 46 x 0 = faV H x 0:=dN (ty:=28) (by kernel_rfl) (by kernel_rfl) H x
@[simp] theorem ah1 (x:AV):jk X 46 x 0 = fvV X x 0 28:=iI (by kernel_rfl) x
@[simp] theorem ah2 (H:AM.Heap) (x:AV):cu X H 46 x 1 = faV H x 1:=dN (ty:=3) (by kernel_rfl) (by kernel_rfl) H x
@[simp] theorem ah3 (x:AV):jk X 46 x 1 = fvV X x 1 3:=iI (by kernel_rfl) x
@[simp] theorem ah4 (H:AM.Heap) (x:AV):cu X H 52 x 0 = faV H x 0:=dN (ty:=28) (by kernel_rfl) (by kernel_rfl) H x
@[simp] theorem ah5 (x:AV):jk X 52 x 0 = fvV X x 0 28:=iI (by kernel_rfl) x
@[simp] theorem ah6 (H:AM.Heap) (x:AV):cu X H 52 x 1 = faV H x 1:=dN (ty:=3) (by kernel_rfl) (by kernel_rfl) H x
@[simp] theorem ah7 (x:AV):jk X 52 x 1 = fvV X x 1 3:=iI (by kernel_rfl) x
@[simp] theorem ah8 (H:AM.Heap) (x:AV):cu X H 52 x 2 = faV H x 2:=dN (ty:=28) (by kernel_rfl) (by kernel_rfl) H x
@[simp] theorem ah9 (x:AV):jk X 52 x 2 = fvV X x 2 28:=iI (by kernel_rfl) x
@[simp] theorem aia (H:AM.Heap) (x:AV):cu X H 52 x 3 = faV H x 3:=dN (ty:=3) (by kernel_rfl) (by kernel_rfl) H x
@[simp] theorem aib (x:AV):jk X 52 x 3 = fvV X x 3 3:=iI (by kernel_rfl) x
@[simp] theorem aic (H:AM.Heap) (x:AV):cu X H 52 x 4 = faV H x 4:=dN (ty:=31) (by kernel_rfl) (by kernel_rfl) H x
@[simp] theorem aie (x:AV):jk X 52 x 4 = fvV X x 4 31:=iI (by kernel_rfl) x
@[simp] theorem aif (H:AM.Heap) (x:AV):cu X H 63 x 0 = faV H x 0:=dN (ty:=28) (by kernel_rfl) (by kernel_rfl) H x
@[simp] theorem aii (x:AV):jk X 63 x 0 = fvV X x 0 28:=iI (by kernel_rfl) x
@[simp] theorem aij (H:AM.Heap) (x:AV):cu X H 63 x 1 = faV H x 1:=dN (ty:=3) (by kernel_rfl) (by kernel_rfl) H x
@[simp] theorem aik (x:AV):jk X 63 x 1 = fvV X x 1 3:=iI (by kernel_rfl) x
@[simp] theorem ail (H:AM.Heap) (x:AV):cu X H 68 x 0 = faV H x 0:=dN (ty:=3) (by kernel_rfl) (by kernel_rfl) H x
@[simp] theorem ain (x:AV):jk X 68 x 0 = fvV X x 0 3:=iI (by kernel_rfl) x
@[simp] theorem aio (H:AM.Heap) (x:AV):cu X H 68 x 1 = faV H x 1:=dN (ty:=4) (by kernel_rfl) (by kernel_rfl) H x
@[simp] theorem aip (x:AV):jk X 68 x 1 = fvV X x 1 4:=iI (by kernel_rfl) x
@[simp] theorem aiq (H:AM.Heap) (x:AV):cu X H 68 x 3 = faV H x 3:=dN (ty:=3) (by kernel_rfl) (by kernel_rfl) H x
@[simp] theorem air (x:AV):jk X 68 x 3 = fvV X x 3 3:=iI (by kernel_rfl) x
end Go.Proofs.Yteblpjhkgdpchaa
