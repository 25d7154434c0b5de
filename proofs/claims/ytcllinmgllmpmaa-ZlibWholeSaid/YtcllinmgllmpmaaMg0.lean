/- X to X: texts of this claim, one behind the other; what each shows stands at its head. -/
import Derived.Test.YtcllinmgllmpmaaRows
import Derived.Test.YtcllinmgllmpmaaAm3
set_option linter.unusedSimpArgs false
set_option linter.unusedVariables false
set_option maxRecDepth 100000
set_option maxHeartbeats 8000000
namespace Go.Proofs.Ytcllinmgllmpmaa
open Go.AM
def bf:List (List (List Nat)):=[[],[],[[]],[[],[1],[1,3],[1,3,5],[3,5,7],[3,5,7,9],[3,5,7,9,11],[12],[0]],[[0,1],[0,1,11],[4],[0,1,14],[4],[0,1],[0,1,5],[0,1,5,6,7],[0,5,6,7,8,9],[4]],[[0,1],[0,1,13],[4],[0,1,20],[4],[0,1,5],[0,1,5,6,7],[0,5,6,7,8,9],[0,5,62],[4],[0,5,65],[4],[11],[4]],[[0,1],[0,1,10],[4],[0,1,17],[4],[0,1,5],[0,1,5,22],[4],[0,1,5,6],[0,1,5,6,24],[0,1,5,6],[0,1,5,6],[7,8],[4]],[[0,1],[0,1,12],[4],[0,1,15],[4],[0,1,5],[0,1,5,6],[0,1,5,6,21],[0,1,5,6],[0,1,5,6,8],[0,1,5,6,34],[4],[10],[4]],[[0,1],[0,1,12],[4,5],[0,1,6],[0,1,6,16],[4,5],[0,7,8,9],[0,7,8,9,27],[4,5],[0,7],[0,7,35],[4,5],[0,7,10],[0,7,61],[4,5],[7,64],[4,5],[4,5]],[[],[1,2],[0]],[[0,1],[4]],[[0],[0,3],[3,4],[2]],[[0],[0,5],[2],[39],[2],[2]],[[0],[2]],[[0,1],[0,1,12],[4,5],[0,1,6],[0,1,6,16],[4,5],[0,6,7,8],[0,6,7,8,27],[4,5],[7,9],[7,9,35],[4,5],[7,9,10],[7,9,61],[4,5],[7,64],[4,5],[4,5]],[[0],[0,5],[2],[39],[2],[2]],[[0],[0,3],[3,4],[2]],[[0,1],[0,1,18],[4],[5],[5,6],[5,6,33],[5,6],[5,6,40],[4],[4]],[[0,1],[0,1,9],[4,5,6],[7],[7],[7,20],[4,5,6],[4,5,6]],[[0],[2]],[[0],[0,3],[3,5],[3,5,18],[2],[2]],[[0,1],[0,1,10],[4,5,6],[7],[7,21],[4,5,6],[4,5,6]],[[0],[2]],[[0],[0,3],[3,5],[3,5,18],[2],[2]],[[0],[0,3],[0,3,4],[0,3,17],[0,3,5],[0,3,5,6],[0,3,5,6],[0,3,5,6],[0,3,5,6,39],[0,3,5,6,41],[0,3,5,6],[0,3,5,6,41,44],[0,3,5,6],[0,3,5,6,41,48],[0,3,5,6],[0,3,5,6,55],[0,3,5,6,7,8],[0,3,5,6],[0,3,5],[0,3,4],[2]],[[0,1],[1,5,6],[1,5,6],[5,6,18,19,20],[5,6,18,19,20,21],[5,6,8,18,19,20],[5,6,18,19,20],[5,6,18,19,20],[5,6,18,19,20],[4]],[[0],[0,5],[0,5,24],[2,3],[0,6,7],[0,6,7,8],[0,6,7,8,10],[0,6,7,8,10,12],[0,6,7,8,10,12],[0,6,7,8,10,12],[6,7,8,10,12,46,47,48],[6,7,8,10,12,46,47,48,49],[6,7,8,10,12,14,46,47,48],[6,7,8,10,12,14,46,47,48,54],[6,7,8,10,12,46,47,48],[6,7,8,10,12,14,15,16,17,46,47,48],[6,7,8,10,12,14,16,17,46,47,48],[6,7,8,10,12,14,46,47,48],[6,7,8,10,12,14,15,16,17,46,47,48],[6,7,8,10,12,14,16,17,46,47,48],[6,7,8,10,12,46,47,48],[6,7,8,10,12,46,47,48],[12],[2,3]],[[1],[1,3],[1,3,4],[1,3,4,5],[1,3,4,5,6],[1,3,4,5,6,18],[1,3,4,5,6,7,8],[1,3,4,5,6,7,8,23],[1,3,4,5,6,7,8,9],[1,3,4,5,6,7,8,9,10],[1,3,4,5,6,7,8,9,10,58],[1,3,4,5,6,7,8,9,10],[1,3,4,5,6,7,8,9,10,11],[1,3,4,5,6,7,8,9,10,11,70],[1,3,4,5,6,7,8,9,10],[1,3,4,5,6,7,8,12],[1,3,4,5,6,7,8,12,84],[1,3,4,5,6,12],[1,3,4,5,6,12],[1,3,4,5,6,94,95],[1,3,4,5,6,94,95,96],[1,3,4,5,6,94,95],[1,3,4,5,6,94,95],[1,3,4,5,6,94,95],[2]],[[0],[0,3],[0,3,4],[0,3,4,5],[0,3,4,5,14],[0,3,4,5],[0,3,4,5],[0,3,4,5],[0,3,4,5],[0,3,4,5],[0,3,4,5],[0,3,4,5],[0,3,5],[0,3,58],[2]],[[0,1],[6],[6,7],[6,7,22],[6,7,8],[6,7,8,9],[6,7,8,9],[6,7,8,9],[6,7,8,9,44],[4,5],[6,7,8,9,48],[6],[4,5],[6,7,8,9,55],[6,7,8,9],[6,7,8,9,60],[6,7,8,9,10,11],[6,7,8,9],[6,7,8,9,73],[6,7,8,9,12,13],[6,7,8,9],[6,7,8],[6,7,8],[6,7,96],[4,5],[4,5]],[[0,1],[1,5,6],[1,5,6,7],[1,5,6,7,17],[1,5,6,7],[1,5,6,7],[1,5,6,7],[4]],[[0],[0,5],[0,5,24],[2,3],[0,6,7],[0,6,7,8],[0,6,7,8,10],[0,6,7,8,10,12],[0,6,7,8,10,12],[0,6,7,8,10,12],[0,6,7,8,10,12,13],[0,6,7,8,10,12,13,49],[0,6,7,8,10,12,13],[0,6,7,8,10,12,13,57],[0,6,7,8,10,12,13,14],[0,6,7,8,10,12,13],[0,6,7,8,10,12,13,15],[0,6,7,8,10,12,13,15,16,17],[0,6,7,8,10,12,13,16,17],[0,6,7,8,10,12,13],[0,6,7,8,10,12,13,15],[0,6,7,8,10,12,13,15,16,17],[0,6,7,8,10,12,13,16,17],[0,6,7,8,10,12,13],[12],[2,3]],[[0],[0,3],[0,3,4],[0,3,4,12],[0,3,4,5,6],[0,3,4,5,6,7],[0,3,4,5,6,7,23],[0,3,4,5,6,7],[0,3,4,5,6,7,8],[0,3,4,5,6,7,8,32],[0,3,4,5,6,7],[0,3,4,5,6,36],[0,3,4,5],[0,3,4],[0,3,4],[0,3,4],[2]],[[0],[0,3],[0,3,4],[0,3,4,14],[0,3,4,5],[0,3,4,5,6],[0,3,4,5,6,25],[0,3,4,5,6],[0,3,4,5,6],[0,3,4,5,6],[0,3,4,6],[0,3,4,54],[2],[2]],[[0,1],[0,1,5],[0,1,5,6],[0,1,5,6,16],[0,1,5,6],[0,1,5,6,29],[],[4],[0,1,5,6],[0,1,5,6],[4]],[[0],[0,2],[0,2,3],[0,2,29],[0,2],[0,2,4],[0,2,4,41],[0,2,4],[0,2,4]],[[0,1,2,11],[0,1,2,6],[0,1,2],[0,1,2,6,19],[0,1,2,6,29],[0,1,2]],[[0,1],[0,1,4],[0,1,4,5],[0,1,2,4],[0,1,2,3,4],[0,1,2,3,4,7],[0,1,3,4],[0,1,3,4,14],[0,1,3,4],[0,1,4],[0,1,4],[0,1,26],[0,1,26,27],[0,1,26],[0,1,26],[0,1]],[[0],[0,4,5,6],[0,4,5,6,36],[0,4,5,6],[0,4,5,6,7],[0,4,5,6,7,8],[0,4,5,7,8,41,42],[0,4,5,7,8,41,42,43],[0,4,5,7,8,9,41,42],[0,4,5,7,8,41,42],[0,4,5,7,8,41,42],[0,4,5,8,57],[2,3],[0,4,5,8,10,11],[0,4,5,8,68],[],[2,3],[0,4,12],[0,4,12,81],[2,3],[0,2,3],[0,2,3,13,14],[0,2,3,109],[0,2,3],[0,2,3,13,14],[0,2,3,132],[2,3],[2,3]],[[0,1,8],[]],[[0],[2,3]],[[0],[0,4],[4,7,8,9],[4,7,8,9,10],[4,6,7,8,9],[4,6,7,8,9,15],[2,3],[4,6,7,8,9,18],[4,7,8,9],[4,6,7,8,9,28],[2,3],[4,6,7,8,9,30,31],[4,6,7,8,9,30,31,32],[4,6,7,8,9,30,31],[4,6,7,8,9,30,31],[4,7,8,9],[2,3]],[[0],[0,5],[0,5,18],[2,3],[0,6],[0,8],[0,8,9],[8,9,30,31,32],[8,9,30,31,32,33],[8,9,10,11,30,31,32],[8,9,10,11,30,31,32],[8,9,10,11,30,31,32,41],[8,9,11,30,31,32],[8,9,30,31,32],[8,9,30,31,32],[2,3]],[[0,1,7,8],[0,1,7,8,9],[0,1,6,7,8],[0,1,7,8],[0,1,7,8]],[[0,1,6],[0,1,6,10],[0,1,6],[0,1,6]],[[0],[0,6],[2,3,4],[0,9],[2,3,4],[0,2,3],[0,2,3,4],[0,2,3,4],[0,2,3,4,15],[0,2,3,4,15,16],[0,2,3,4,15,22],[2,3,4],[0,2,3,4,15],[0,2,3,4,15]],[[0],[0,6],[2,3,4],[0,2,3],[0,2,3,4],[0,2,3,4],[0,2,3,4,12],[0,2,3,4,12,13],[0,2,3,4,12,19],[2,3,4],[0,2,3,4,12],[0,2,3,4,12]],[[0,1,2,9],[0,2,4],[]],[[0,1,2],[0,1,2,7],[0,1,2,7,32],[0,1,2,7],[6]],[[0,1],[0,1,5],[0,1,5,6],[0,1,5,6,16],[0,1,5,6],[0,1,5,6,29],[],[4],[0,1,5,6],[0,1,5,6],[4]],[[0],[0,2],[0,2,3],[0,2,30],[0,2],[0,2,4],[0,2,4,43],[0,2,4],[0,2,4,5],[0,2,4]],[[],[2,3],[2,3,4],[2,3,4,9],[2,3,4],[2,3,4],[2,3,4,16],[2,3,4],[2,3,4,21],[2,3,4],[2,3,4,26],[2,3,4],[2,3,5],[2,3,5,31],[2,3,5],[2,3,5],[0,1]],[[0,4,5],[0,4,5,17],[0,4,5,6],[0,4,5,6,29],[0,4,5,6,31],[0,4,5],[0,4,5,6,37],[],[0,4,5,7,8],[0,4,5,9],[0,4,5,9,10],[0,4,5,9,10,62],[0,4,5,9,10],[0,4,5,9,10,70],[0,4,5,7,8,9],[0,4,5,9,11],[0,4,5,9,11,94],[0,4,5,9,11],[0,4,5,9,11,12],[0,4,5,9,11,12,107],[0,4,5,9,11,12],[0,4,5,9,11,12]],[[0,2],[0,2,3],[2]],[[0,2,3],[0,2,3,4],[0,2,3,4,5],[0,2,3,4,5,6],[0,2,3,4,5,6,35],[0,2,3,4,5,6],[0,2,3,4,5,6,7],[0,2,3,4,5,6,7,8],[0,2,3,4,5,6,7,8,49],[0,2,3,4,5,6,7,8],[0,2,3,4,5,6,7,8],[0,2,3,4,5,7,9,10],[0,2,3,4,5,7,75],[0,2,3,4,5,7],[0,2,3,4,5,7,83],[2,3],[0,2,3,4,11],[0,2,3,4,11,97],[2,3],[0,2,3,12,13],[0,2,3,9,10,12,13],[0,2,3,12,13,127],[0,2,3,12,13],[0,2,3,9,10,12,13],[0,2,3,12,13,151],[2,3,12,13],[2,3]],[[0],[0,4],[0,4,5],[0,4,5,10],[0,4,5],[0,4,5,18],[2,3],[0,4,5,24],[0,4,5],[0,4,5,40],[2,3],[0,4,5,6],[0,4,5,6,47],[0,4,5,6],[0,4,5,6],[2,3]],[[0],[0,5],[0,5,18],[2,3],[0,6],[0,6,7,8],[0,6,7,8,9],[0,6,7,8,9,24],[0,6,7,8,9],[0,6,7,8,9,10],[0,6,7,8,9,10,30],[0,6,7,8,9,10],[0,6,7,8,9,10,38],[0,6,7,8,9,10,40],[0,6,7,9,10],[0,6,7,8,9,10],[0,6,11],[0,6,11,56],[0,6,11],[0,6,11,63],[0,6,11],[2,3]],[[0,1,2,6],[0,1,2,6,9],[0,1,2,6],[0,1,2,6],[0,1,2,6]],[[0,1,6],[0,1,6,10],[0,1,6],[0,1,6],[0,1,6]],[[0],[0,8],[2],[0,3],[0,3,4],[0,3,4,10],[0,3,4],[0,3,4,5],[0,3,4,20],[0,3,4],[2]],[[0],[0,6],[2,3],[0,8],[2,3],[0,4],[2,3]],[[0],[0,3],[0,3,4],[0,3,4,8],[0,3,4],[0,3,4,5],[0,3,4,18],[0,3,4],[2]],[[0],[0,6],[2,3],[0,4],[2,3]],[[0,1,2],[0,1,2,7],[0,1,2,7,34],[0,1,2,7],[6]],[[0,1,8],[0,1,18],[],[]],[[0,1],[0,1,12],[4],[0,5,6,7],[0,5,6,7,28],[0,5,6],[5],[4]],[[0,1,2,6],[0,1,2,6,44],[],[0,2,7],[0,7,8],[0,7,8,67],[0,7,8,69],[],[0,7,8,9],[0,7,8,9,75],[0,7,8,10],[0,7,9],[0,7,9,102],[0,7,9],[0,7,9,11],[0,7,9,11,114],[0,7,9,11],[0,7,9,11]],[[0],[3,4],[3,4,13],[2,3],[4,5],[4,5,6],[4,5,6,16],[4,5,6],[4,5,6],[5,28],[2,3],[2,3]],[[1,3,5],[1,3,5,7],[1,3,5,7,8],[1,3,5,7,8,24],[1,3,5,7,8,9],[1,3,5,7,8,9,28],[1,3,5,7,8],[1,3,5,7,8,9,28,33],[1,3,5,7,8,37],[1,3,5,7,8],[1,3,5,7,8,10],[1,3,5,7,8,10,47],[1,3,5,7,8],[1,3,5,7,8,9,28,57],[1,3,5,7,8,11],[1,3,5,7,8,11,66],[1,3,5,7,8],[1,3,5,7,8,9,70],[1,3,5,7,8,12],[1,3,5,7,8,12,79],[1,3,5,7,8],[6]],[[0],[0,3,4],[3,4,7,8,9],[3,4,7,8,9,10],[3,4,6,7,8,9],[3,4,6,7,8,9,14],[3,4,7,8,9],[3,4,7,8,9],[2]],[[0],[5,6,7],[5,6,7,8],[4,5,6,7],[5,6,7,12],[2],[5,6,7],[2]],[[1],[1,5],[2],[2]],[[0,2],[0,2,4],[0,2,4,9],[2,3],[2,4,11,12,13],[2,4,11,12,13,14],[2,4,6,11,12,13],[2,4,6,11,12,13,22],[2,3],[2,4,11,12,13],[2,4,11,12,13],[2,3]],[[1,2],[1,2,3],[1,2,3],[1,2,3,4],[1,2,3,4,7],[1,2,3,4],[1,2,3,4],[2]],[[0,1,9],[0,1],[0],[]],[[0,1],[4]],[[0,1,20],[0,1],[0,1,28],[]],[[0,3],[0,3,12],[4],[0,5,6,7],[0,5,6],[5],[4]],[[0],[2]],[[0],[0,8],[2,3],[0,4],[0,4,5],[0,4,5,12],[0,4,5],[0,4,5,26],[2,3],[0,4,5,31],[0,4,5],[4,42],[2,3],[2,3]],[[0,2,4],[0,2,4,7],[0,2,4,7,22],[0,2,4,7,8],[0,2,4,7,8,30],[6],[0,2,4,7,8,9,10],[0,2,4,7,8,9,10,33],[0,2,4,7,8,36],[],[6],[0,2,4,7,8,9],[0,2,4,7,8,9,10],[0,2,4,7,8,9,10,50],[0,2,4,7,8,9,10],[0,2,4,7,8,9,10,52],[0,2,4,7,8,9,10],[0,2,4,7,9,10,57],[0,2,4,7,9,10],[0,2,4,7,9,10,73],[0,2,4,7,9,10],[0,2,4,7,9,10,11],[0,2,4,7,9,10,11,86],[0,2,4,7,9,10,11],[0,2,4,7,9,10,11],[6]],[[0],[0,3,4],[0,3,4,5],[0,3,4,5,9],[0,3,4,5],[0,3,4,5],[0,3,4,5,22],[0,3,4,5],[2]],[[0],[0,3],[0,3,7],[0,3],[0,3,14],[2],[2]],[[1],[1,5],[2],[2]],[[0,1,2],[0,1,2,9],[0,1,2],[0],[6]],[[0,1,2],[0,1,2,10],[0,1,2,10,17],[6,7,8],[0,1,2,20],[6,7,8],[6,7,8]],[[0,1,2,4,12],[],[0,2,15,16],[0,2,15,16,17],[0,2,15,16],[0,2,15,16]],[[0,1,2,3],[0,1,2,3,11],[0,1,2,3,11,12],[0,1,2,3,11,12,19],[0,1,2,3,11,12],[0,1,2,3,11,12],[0,1,2,3,11,13],[0,1,2,3,11,13,14],[0,1,2,3,11,13,14,30],[0,1,2,3,11,13,14],[0,1,2,3,11,13,14,39],[8,9,10],[0,1,2,3,11,13,14],[0,1,2,3,11,13,14,15],[0,1,2,3,11,13,14,15,52],[0,1,2,3,11,13,14,15],[0,1,2,3,11,13,14,15,68],[8,9,10],[8,9,10]],[[0,4,5],[0,4,5,7],[0,4,5,7,9],[0,4,5,7,9,10],[0,4,5,7,9,10,11],[4,5,7,9,10,11,21,22,23],[4,5,7,9,10,11,21,22,23,24],[4,5,7,9,10,11,12,13,21,22,23],[4,5,7,9,10,11,13,21,22,23],[4,5,7,9,10,11,21,22,23],[4,5,7,9,10,11,21,22,23],[6]],[[0,1,2,3,4,5],[0,1,2,3,4,5,9],[0,1,2,3,4,5,9,10],[0,1,2,3,4,5,9,10],[0,1,2,3,4,5,9,10,16],[6,7,8],[0,1,2,3,4,5,9,10,21],[6,7,8],[0,1,2,3,4,5,9,10],[0,1,2,3,4,5,9,10],[0,1,2,3,4,5,9,10,11],[0,1,2,3,4,5,9,10,11,50],[6,7,8]],[],[],[],[],[],[],[],[],[],[],[],[],[],[],[],[]]
noncomputable def X:AM.Ctx:={ P:=Try.prog,G:=fun _=>.none,rw:=fun f i=>false,keep:=fun f i=>((bf[f]?).getD [])[i]?,norm:=fun _ _=>false,dr:=fun _ _=>true,dy:=fun f id=>[(18,6),(18,7),(21,5),(21,6),(24,19),(38,9),(38,20),(47,1),(51,1),(54,19),(66,3)].contains (f,id) }
theorem own:ownKnob Try.prog.godebug = .none:=by kernel_rfl
theorem full:∀ t e,t < Try.prog.types.size→Try.prog.underlying t = some (.slice e)→0 < Try.prog.cellsOf e:=slices_full_of Try.prog (by kernel_rfl)
theorem acP:AM.G9 X:=AM.UH (by kernel_rfl) (by kernel_rfl)
@[simp] theorem apX (f i:Nat):X.dr f i = true:=rfl
@[simp] theorem ag7 (f i:Nat):X.norm f i = false:=rfl
@[simp] theorem apY (f i:Nat):X.rw f i = (false):=rfl
@[simp] theorem alW (i:Nat):X.keep 3 i = ([[],[1],[1,3],[1,3,5],[3,5,7],[3,5,7,9],[3,5,7,9,11],[12],[0]]:List (List Nat))[i]?:=congrArg (fun (l:List (List Nat))=>l[i]?) (show (bf[3]?).getD [] = _ by kernel_rfl)
@[simp] theorem alX (i:Nat):X.keep 4 i = ([[0,1],[0,1,11],[4],[0,1,14],[4],[0,1],[0,1,5],[0,1,5,6,7],[0,5,6,7,8,9],[4]]:List (List Nat))[i]?:=congrArg (fun (l:List (List Nat))=>l[i]?) (show (bf[4]?).getD [] = _ by kernel_rfl)
@[simp] theorem alY (i:Nat):X.keep 5 i = ([[0,1],[0,1,13],[4],[0,1,20],[4],[0,1,5],[0,1,5,6,7],[0,5,6,7,8,9],[0,5,62],[4],[0,5,65],[4],[11],[4]]:List (List Nat))[i]?:=congrArg (fun (l:List (List Nat))=>l[i]?) (show (bf[5]?).getD [] = _ by kernel_rfl)
@[simp] theorem alZ (i:Nat):X.keep 6 i = ([[0,1],[0,1,10],[4],[0,1,17],[4],[0,1,5],[0,1,5,22],[4],[0,1,5,6],[0,1,5,6,24],[0,1,5,6],[0,1,5,6],[7,8],[4]]:List (List Nat))[i]?:=congrArg (fun (l:List (List Nat))=>l[i]?) (show (bf[6]?).getD [] = _ by kernel_rfl)
@[simp] theorem al0 (i:Nat):X.keep 7 i = ([[0,1],[0,1,12],[4],[0,1,15],[4],[0,1,5],[0,1,5,6],[0,1,5,6,21],[0,1,5,6],[0,1,5,6,8],[0,1,5,6,34],[4],[10],[4]]:List (List Nat))[i]?:=congrArg (fun (l:List (List Nat))=>l[i]?) (show (bf[7]?).getD [] = _ by kernel_rfl)
@[simp] theorem al1 (i:Nat):X.keep 8 i = ([[0,1],[0,1,12],[4,5],[0,1,6],[0,1,6,16],[4,5],[0,7,8,9],[0,7,8,9,27],[4,5],[0,7],[0,7,35],[4,5],[0,7,10],[0,7,61],[4,5],[7,64],[4,5],[4,5]]:List (List Nat))[i]?:=congrArg (fun (l:List (List Nat))=>l[i]?) (show (bf[8]?).getD [] = _ by kernel_rfl)
@[simp] theorem al2 (i:Nat):X.keep 9 i = ([[],[1,2],[0]]:List (List Nat))[i]?:=congrArg (fun (l:List (List Nat))=>l[i]?) (show (bf[9]?).getD [] = _ by kernel_rfl)
@[simp] theorem ag8 (i:Nat):X.keep 10 i = ([[0,1],[4]]:List (List Nat))[i]?:=congrArg (fun (l:List (List Nat))=>l[i]?) (show (bf[10]?).getD [] = _ by kernel_rfl)
@[simp] theorem ag9 (i:Nat):X.keep 11 i = ([[0],[0,3],[3,4],[2]]:List (List Nat))[i]?:=congrArg (fun (l:List (List Nat))=>l[i]?) (show (bf[11]?).getD [] = _ by kernel_rfl)
@[simp] theorem aha (i:Nat):X.keep 12 i = ([[0],[0,5],[2],[39],[2],[2]]:List (List Nat))[i]?:=congrArg (fun (l:List (List Nat))=>l[i]?) (show (bf[12]?).getD [] = _ by kernel_rfl)
@[simp] theorem ahb (i:Nat):X.keep 13 i = ([[0],[2]]:List (List Nat))[i]?:=congrArg (fun (l:List (List Nat))=>l[i]?) (show (bf[13]?).getD [] = _ by kernel_rfl)
@[simp] theorem ahc (i:Nat):X.keep 14 i = ([[0,1],[0,1,12],[4,5],[0,1,6],[0,1,6,16],[4,5],[0,6,7,8],[0,6,7,8,27],[4,5],[7,9],[7,9,35],[4,5],[7,9,10],[7,9,61],[4,5],[7,64],[4,5],[4,5]]:List (List Nat))[i]?:=congrArg (fun (l:List (List Nat))=>l[i]?) (show (bf[14]?).getD [] = _ by kernel_rfl)
@[simp] theorem ahd (i:Nat):X.keep 15 i = ([[0],[0,5],[2],[39],[2],[2]]:List (List Nat))[i]?:=congrArg (fun (l:List (List Nat))=>l[i]?) (show (bf[15]?).getD [] = _ by kernel_rfl)
@[simp] theorem ahe (i:Nat):X.keep 16 i = ([[0],[0,3],[3,4],[2]]:List (List Nat))[i]?:=congrArg (fun (l:List (List Nat))=>l[i]?) (show (bf[16]?).getD [] = _ by kernel_rfl)
@[simp] theorem ahf (i:Nat):X.keep 17 i = ([[0,1],[0,1,18],[4],[5],[5,6],[5,6,33],[5,6],[5,6,40],[4],[4]]:List (List Nat))[i]?:=congrArg (fun (l:List (List Nat))=>l[i]?) (show (bf[17]?).getD [] = _ by kernel_rfl)
@[simp] theorem ahg (i:Nat):X.keep 18 i = ([[0,1],[0,1,9],[4,5,6],[7],[7],[7,20],[4,5,6],[4,5,6]]:List (List Nat))[i]?:=congrArg (fun (l:List (List Nat))=>l[i]?) (show (bf[18]?).getD [] = _ by kernel_rfl)
@[simp] theorem ahh (i:Nat):X.keep 19 i = ([[0],[2]]:List (List Nat))[i]?:=congrArg (fun (l:List (List Nat))=>l[i]?) (show (bf[19]?).getD [] = _ by kernel_rfl)
@[simp] theorem ahi (i:Nat):X.keep 20 i = ([[0],[0,3],[3,5],[3,5,18],[2],[2]]:List (List Nat))[i]?:=congrArg (fun (l:List (List Nat))=>l[i]?) (show (bf[20]?).getD [] = _ by kernel_rfl)
@[simp] theorem ahj (i:Nat):X.keep 21 i = ([[0,1],[0,1,10],[4,5,6],[7],[7,21],[4,5,6],[4,5,6]]:List (List Nat))[i]?:=congrArg (fun (l:List (List Nat))=>l[i]?) (show (bf[21]?).getD [] = _ by kernel_rfl)
@[simp] theorem ahk (i:Nat):X.keep 22 i = ([[0],[2]]:List (List Nat))[i]?:=congrArg (fun (l:List (List Nat))=>l[i]?) (show (bf[22]?).getD [] = _ by kernel_rfl)
@[simp] theorem ahl (i:Nat):X.keep 23 i = ([[0],[0,3],[3,5],[3,5,18],[2],[2]]:List (List Nat))[i]?:=congrArg (fun (l:List (List Nat))=>l[i]?) (show (bf[23]?).getD [] = _ by kernel_rfl)
@[simp] theorem ahm (i:Nat):X.keep 24 i = ([[0],[0,3],[0,3,4],[0,3,17],[0,3,5],[0,3,5,6],[0,3,5,6],[0,3,5,6],[0,3,5,6,39],[0,3,5,6,41],[0,3,5,6],[0,3,5,6,41,44],[0,3,5,6],[0,3,5,6,41,48],[0,3,5,6],[0,3,5,6,55],[0,3,5,6,7,8],[0,3,5,6],[0,3,5],[0,3,4],[2]]:List (List Nat))[i]?:=congrArg (fun (l:List (List Nat))=>l[i]?) (show (bf[24]?).getD [] = _ by kernel_rfl)
@[simp] theorem ahn (i:Nat):X.keep 25 i = ([[0,1],[1,5,6],[1,5,6],[5,6,18,19,20],[5,6,18,19,20,21],[5,6,8,18,19,20],[5,6,18,19,20],[5,6,18,19,20],[5,6,18,19,20],[4]]:List (List Nat))[i]?:=congrArg (fun (l:List (List Nat))=>l[i]?) (show (bf[25]?).getD [] = _ by kernel_rfl)
@[simp] theorem aho (i:Nat):X.keep 26 i = ([[0],[0,5],[0,5,24],[2,3],[0,6,7],[0,6,7,8],[0,6,7,8,10],[0,6,7,8,10,12],[0,6,7,8,10,12],[0,6,7,8,10,12],[6,7,8,10,12,46,47,48],[6,7,8,10,12,46,47,48,49],[6,7,8,10,12,14,46,47,48],[6,7,8,10,12,14,46,47,48,54],[6,7,8,10,12,46,47,48],[6,7,8,10,12,14,15,16,17,46,47,48],[6,7,8,10,12,14,16,17,46,47,48],[6,7,8,10,12,14,46,47,48],[6,7,8,10,12,14,15,16,17,46,47,48],[6,7,8,10,12,14,16,17,46,47,48],[6,7,8,10,12,46,47,48],[6,7,8,10,12,46,47,48],[12],[2,3]]:List (List Nat))[i]?:=congrArg (fun (l:List (List Nat))=>l[i]?) (show (bf[26]?).getD [] = _ by kernel_rfl)
@[simp] theorem ahp (i:Nat):X.keep 27 i = ([[1],[1,3],[1,3,4],[1,3,4,5],[1,3,4,5,6],[1,3,4,5,6,18],[1,3,4,5,6,7,8],[1,3,4,5,6,7,8,23],[1,3,4,5,6,7,8,9],[1,3,4,5,6,7,8,9,10],[1,3,4,5,6,7,8,9,10,58],[1,3,4,5,6,7,8,9,10],[1,3,4,5,6,7,8,9,10,11],[1,3,4,5,6,7,8,9,10,11,70],[1,3,4,5,6,7,8,9,10],[1,3,4,5,6,7,8,12],[1,3,4,5,6,7,8,12,84],[1,3,4,5,6,12],[1,3,4,5,6,12],[1,3,4,5,6,94,95],[1,3,4,5,6,94,95,96],[1,3,4,5,6,94,95],[1,3,4,5,6,94,95],[1,3,4,5,6,94,95],[2]]:List (List Nat))[i]?:=congrArg (fun (l:List (List Nat))=>l[i]?) (show (bf[27]?).getD [] = _ by kernel_rfl)
@[simp] theorem ahq (i:Nat):X.keep 28 i = ([[0],[0,3],[0,3,4],[0,3,4,5],[0,3,4,5,14],[0,3,4,5],[0,3,4,5],[0,3,4,5],[0,3,4,5],[0,3,4,5],[0,3,4,5],[0,3,4,5],[0,3,5],[0,3,58],[2]]:List (List Nat))[i]?:=congrArg (fun (l:List (List Nat))=>l[i]?) (show (bf[28]?).getD [] = _ by kernel_rfl)
@[simp] theorem ahr (i:Nat):X.keep 29 i = ([[0,1],[6],[6,7],[6,7,22],[6,7,8],[6,7,8,9],[6,7,8,9],[6,7,8,9],[6,7,8,9,44],[4,5],[6,7,8,9,48],[6],[4,5],[6,7,8,9,55],[6,7,8,9],[6,7,8,9,60],[6,7,8,9,10,11],[6,7,8,9],[6,7,8,9,73],[6,7,8,9,12,13],[6,7,8,9],[6,7,8],[6,7,8],[6,7,96],[4,5],[4,5]]:List (List Nat))[i]?:=congrArg (fun (l:List (List Nat))=>l[i]?) (show (bf[29]?).getD [] = _ by kernel_rfl)
@[simp] theorem ahs (i:Nat):X.keep 30 i = ([[0,1],[1,5,6],[1,5,6,7],[1,5,6,7,17],[1,5,6,7],[1,5,6,7],[1,5,6,7],[4]]:List (List Nat))[i]?:=congrArg (fun (l:List (List Nat))=>l[i]?) (show (bf[30]?).getD [] = _ by kernel_rfl)
@[simp] theorem aht (i:Nat):X.keep 31 i = ([[0],[0,5],[0,5,24],[2,3],[0,6,7],[0,6,7,8],[0,6,7,8,10],[0,6,7,8,10,12],[0,6,7,8,10,12],[0,6,7,8,10,12],[0,6,7,8,10,12,13],[0,6,7,8,10,12,13,49],[0,6,7,8,10,12,13],[0,6,7,8,10,12,13,57],[0,6,7,8,10,12,13,14],[0,6,7,8,10,12,13],[0,6,7,8,10,12,13,15],[0,6,7,8,10,12,13,15,16,17],[0,6,7,8,10,12,13,16,17],[0,6,7,8,10,12,13],[0,6,7,8,10,12,13,15],[0,6,7,8,10,12,13,15,16,17],[0,6,7,8,10,12,13,16,17],[0,6,7,8,10,12,13],[12],[2,3]]:List (List Nat))[i]?:=congrArg (fun (l:List (List Nat))=>l[i]?) (show (bf[31]?).getD [] = _ by kernel_rfl)
@[simp] theorem ahu (i:Nat):X.keep 32 i = ([[0],[0,3],[0,3,4],[0,3,4,12],[0,3,4,5,6],[0,3,4,5,6,7],[0,3,4,5,6,7,23],[0,3,4,5,6,7],[0,3,4,5,6,7,8],[0,3,4,5,6,7,8,32],[0,3,4,5,6,7],[0,3,4,5,6,36],[0,3,4,5],[0,3,4],[0,3,4],[0,3,4],[2]]:List (List Nat))[i]?:=congrArg (fun (l:List (List Nat))=>l[i]?) (show (bf[32]?).getD [] = _ by kernel_rfl)
@[simp] theorem ahv (i:Nat):X.keep 33 i = ([[0],[0,3],[0,3,4],[0,3,4,14],[0,3,4,5],[0,3,4,5,6],[0,3,4,5,6,25],[0,3,4,5,6],[0,3,4,5,6],[0,3,4,5,6],[0,3,4,6],[0,3,4,54],[2],[2]]:List (List Nat))[i]?:=congrArg (fun (l:List (List Nat))=>l[i]?) (show (bf[33]?).getD [] = _ by kernel_rfl)
@[simp] theorem ahw (i:Nat):X.keep 34 i = ([[0,1],[0,1,5],[0,1,5,6],[0,1,5,6,16],[0,1,5,6],[0,1,5,6,29],[],[4],[0,1,5,6],[0,1,5,6],[4]]:List (List Nat))[i]?:=congrArg (fun (l:List (List Nat))=>l[i]?) (show (bf[34]?).getD [] = _ by kernel_rfl)
@[simp] theorem ahx (i:Nat):X.keep 35 i = ([[0],[0,2],[0,2,3],[0,2,29],[0,2],[0,2,4],[0,2,4,41],[0,2,4],[0,2,4]]:List (List Nat))[i]?:=congrArg (fun (l:List (List Nat))=>l[i]?) (show (bf[35]?).getD [] = _ by kernel_rfl)
@[simp] theorem ahy (i:Nat):X.keep 36 i = ([[0,1,2,11],[0,1,2,6],[0,1,2],[0,1,2,6,19],[0,1,2,6,29],[0,1,2]]:List (List Nat))[i]?:=congrArg (fun (l:List (List Nat))=>l[i]?) (show (bf[36]?).getD [] = _ by kernel_rfl)
@[simp] theorem ahz (i:Nat):X.keep 37 i = ([[0,1],[0,1,4],[0,1,4,5],[0,1,2,4],[0,1,2,3,4],[0,1,2,3,4,7],[0,1,3,4],[0,1,3,4,14],[0,1,3,4],[0,1,4],[0,1,4],[0,1,26],[0,1,26,27],[0,1,26],[0,1,26],[0,1]]:List (List Nat))[i]?:=congrArg (fun (l:List (List Nat))=>l[i]?) (show (bf[37]?).getD [] = _ by kernel_rfl)
@[simp] theorem ahA (i:Nat):X.keep 38 i = ([[0],[0,4,5,6],[0,4,5,6,36],[0,4,5,6],[0,4,5,6,7],[0,4,5,6,7,8],[0,4,5,7,8,41,42],[0,4,5,7,8,41,42,43],[0,4,5,7,8,9,41,42],[0,4,5,7,8,41,42],[0,4,5,7,8,41,42],[0,4,5,8,57],[2,3],[0,4,5,8,10,11],[0,4,5,8,68],[],[2,3],[0,4,12],[0,4,12,81],[2,3],[0,2,3],[0,2,3,13,14],[0,2,3,109],[0,2,3],[0,2,3,13,14],[0,2,3,132],[2,3],[2,3]]:List (List Nat))[i]?:=congrArg (fun (l:List (List Nat))=>l[i]?) (show (bf[38]?).getD [] = _ by kernel_rfl)
@[simp] theorem ahB (i:Nat):X.keep 39 i = ([[0,1,8],[]]:List (List Nat))[i]?:=congrArg (fun (l:List (List Nat))=>l[i]?) (show (bf[39]?).getD [] = _ by kernel_rfl)
@[simp] theorem ahC (i:Nat):X.keep 40 i = ([[0],[2,3]]:List (List Nat))[i]?:=congrArg (fun (l:List (List Nat))=>l[i]?) (show (bf[40]?).getD [] = _ by kernel_rfl)
@[simp] theorem ahD (i:Nat):X.keep 41 i = ([[0],[0,4],[4,7,8,9],[4,7,8,9,10],[4,6,7,8,9],[4,6,7,8,9,15],[2,3],[4,6,7,8,9,18],[4,7,8,9],[4,6,7,8,9,28],[2,3],[4,6,7,8,9,30,31],[4,6,7,8,9,30,31,32],[4,6,7,8,9,30,31],[4,6,7,8,9,30,31],[4,7,8,9],[2,3]]:List (List Nat))[i]?:=congrArg (fun (l:List (List Nat))=>l[i]?) (show (bf[41]?).getD [] = _ by kernel_rfl)
@[simp] theorem ahE (i:Nat):X.keep 42 i = ([[0],[0,5],[0,5,18],[2,3],[0,6],[0,8],[0,8,9],[8,9,30,31,32],[8,9,30,31,32,33],[8,9,10,11,30,31,32],[8,9,10,11,30,31,32],[8,9,10,11,30,31,32,41],[8,9,11,30,31,32],[8,9,30,31,32],[8,9,30,31,32],[2,3]]:List (List Nat))[i]?:=congrArg (fun (l:List (List Nat))=>l[i]?) (show (bf[42]?).getD [] = _ by kernel_rfl)
@[simp] theorem ahF (i:Nat):X.keep 43 i = ([[0,1,7,8],[0,1,7,8,9],[0,1,6,7,8],[0,1,7,8],[0,1,7,8]]:List (List Nat))[i]?:=congrArg (fun (l:List (List Nat))=>l[i]?) (show (bf[43]?).getD [] = _ by kernel_rfl)
@[simp] theorem ahG (i:Nat):X.keep 44 i = ([[0,1,6],[0,1,6,10],[0,1,6],[0,1,6]]:List (List Nat))[i]?:=congrArg (fun (l:List (List Nat))=>l[i]?) (show (bf[44]?).getD [] = _ by kernel_rfl)
@[simp] theorem ahH (i:Nat):X.keep 45 i = ([[0],[0,6],[2,3,4],[0,9],[2,3,4],[0,2,3],[0,2,3,4],[0,2,3,4],[0,2,3,4,15],[0,2,3,4,15,16],[0,2,3,4,15,22],[2,3,4],[0,2,3,4,15],[0,2,3,4,15]]:List (List Nat))[i]?:=congrArg (fun (l:List (List Nat))=>l[i]?) (show (bf[45]?).getD [] = _ by kernel_rfl)
@[simp] theorem ahI (i:Nat):X.keep 46 i = ([[0],[0,6],[2,3,4],[0,2,3],[0,2,3,4],[0,2,3,4],[0,2,3,4,12],[0,2,3,4,12,13],[0,2,3,4,12,19],[2,3,4],[0,2,3,4,12],[0,2,3,4,12]]:List (List Nat))[i]?:=congrArg (fun (l:List (List Nat))=>l[i]?) (show (bf[46]?).getD [] = _ by kernel_rfl)
@[simp] theorem ahJ (i:Nat):X.keep 47 i = ([[0,1,2,9],[0,2,4],[]]:List (List Nat))[i]?:=congrArg (fun (l:List (List Nat))=>l[i]?) (show (bf[47]?).getD [] = _ by kernel_rfl)
@[simp] theorem ahK (i:Nat):X.keep 48 i = ([[0,1,2],[0,1,2,7],[0,1,2,7,32],[0,1,2,7],[6]]:List (List Nat))[i]?:=congrArg (fun (l:List (List Nat))=>l[i]?) (show (bf[48]?).getD [] = _ by kernel_rfl)
@[simp] theorem ahL (i:Nat):X.keep 49 i = ([[0,1],[0,1,5],[0,1,5,6],[0,1,5,6,16],[0,1,5,6],[0,1,5,6,29],[],[4],[0,1,5,6],[0,1,5,6],[4]]:List (List Nat))[i]?:=congrArg (fun (l:List (List Nat))=>l[i]?) (show (bf[49]?).getD [] = _ by kernel_rfl)
@[simp] theorem ahM (i:Nat):X.keep 50 i = ([[0],[0,2],[0,2,3],[0,2,30],[0,2],[0,2,4],[0,2,4,43],[0,2,4],[0,2,4,5],[0,2,4]]:List (List Nat))[i]?:=congrArg (fun (l:List (List Nat))=>l[i]?) (show (bf[50]?).getD [] = _ by kernel_rfl)
@[simp] theorem ahN (i:Nat):X.keep 51 i = ([[],[2,3],[2,3,4],[2,3,4,9],[2,3,4],[2,3,4],[2,3,4,16],[2,3,4],[2,3,4,21],[2,3,4],[2,3,4,26],[2,3,4],[2,3,5],[2,3,5,31],[2,3,5],[2,3,5],[0,1]]:List (List Nat))[i]?:=congrArg (fun (l:List (List Nat))=>l[i]?) (show (bf[51]?).getD [] = _ by kernel_rfl)
@[simp] theorem ahO (i:Nat):X.keep 52 i = ([[0,4,5],[0,4,5,17],[0,4,5,6],[0,4,5,6,29],[0,4,5,6,31],[0,4,5],[0,4,5,6,37],[],[0,4,5,7,8],[0,4,5,9],[0,4,5,9,10],[0,4,5,9,10,62],[0,4,5,9,10],[0,4,5,9,10,70],[0,4,5,7,8,9],[0,4,5,9,11],[0,4,5,9,11,94],[0,4,5,9,11],[0,4,5,9,11,12],[0,4,5,9,11,12,107],[0,4,5,9,11,12],[0,4,5,9,11,12]]:List (List Nat))[i]?:=congrArg (fun (l:List (List Nat))=>l[i]?) (show (bf[52]?).getD [] = _ by kernel_rfl)
@[simp] theorem ahP (i:Nat):X.keep 53 i = ([[0,2],[0,2,3],[2]]:List (List Nat))[i]?:=congrArg (fun (l:List (List Nat))=>l[i]?) (show (bf[53]?).getD [] = _ by kernel_rfl)
@[simp] theorem ahQ (i:Nat):X.keep 54 i = ([[0,2,3],[0,2,3,4],[0,2,3,4,5],[0,2,3,4,5,6],[0,2,3,4,5,6,35],[0,2,3,4,5,6],[0,2,3,4,5,6,7],[0,2,3,4,5,6,7,8],[0,2,3,4,5,6,7,8,49],[0,2,3,4,5,6,7,8],[0,2,3,4,5,6,7,8],[0,2,3,4,5,7,9,10],[0,2,3,4,5,7,75],[0,2,3,4,5,7],[0,2,3,4,5,7,83],[2,3],[0,2,3,4,11],[0,2,3,4,11,97],[2,3],[0,2,3,12,13],[0,2,3,9,10,12,13],[0,2,3,12,13,127],[0,2,3,12,13],[0,2,3,9,10,12,13],[0,2,3,12,13,151],[2,3,12,13],[2,3]]:List (List Nat))[i]?:=congrArg (fun (l:List (List Nat))=>l[i]?) (show (bf[54]?).getD [] = _ by kernel_rfl)
@[simp] theorem ahR (i:Nat):X.keep 55 i = ([[0],[0,4],[0,4,5],[0,4,5,10],[0,4,5],[0,4,5,18],[2,3],[0,4,5,24],[0,4,5],[0,4,5,40],[2,3],[0,4,5,6],[0,4,5,6,47],[0,4,5,6],[0,4,5,6],[2,3]]:List (List Nat))[i]?:=congrArg (fun (l:List (List Nat))=>l[i]?) (show (bf[55]?).getD [] = _ by kernel_rfl)
@[simp] theorem ahS (i:Nat):X.keep 56 i = ([[0],[0,5],[0,5,18],[2,3],[0,6],[0,6,7,8],[0,6,7,8,9],[0,6,7,8,9,24],[0,6,7,8,9],[0,6,7,8,9,10],[0,6,7,8,9,10,30],[0,6,7,8,9,10],[0,6,7,8,9,10,38],[0,6,7,8,9,10,40],[0,6,7,9,10],[0,6,7,8,9,10],[0,6,11],[0,6,11,56],[0,6,11],[0,6,11,63],[0,6,11],[2,3]]:List (List Nat))[i]?:=congrArg (fun (l:List (List Nat))=>l[i]?) (show (bf[56]?).getD [] = _ by kernel_rfl)
@[simp] theorem ahT (i:Nat):X.keep 57 i = ([[0,1,2,6],[0,1,2,6,9],[0,1,2,6],[0,1,2,6],[0,1,2,6]]:List (List Nat))[i]?:=congrArg (fun (l:List (List Nat))=>l[i]?) (show (bf[57]?).getD [] = _ by kernel_rfl)
@[simp] theorem ahU (i:Nat):X.keep 58 i = ([[0,1,6],[0,1,6,10],[0,1,6],[0,1,6],[0,1,6]]:List (List Nat))[i]?:=congrArg (fun (l:List (List Nat))=>l[i]?) (show (bf[58]?).getD [] = _ by kernel_rfl)
@[simp] theorem ahV (i:Nat):X.keep 59 i = ([[0],[0,8],[2],[0,3],[0,3,4],[0,3,4,10],[0,3,4],[0,3,4,5],[0,3,4,20],[0,3,4],[2]]:List (List Nat))[i]?:=congrArg (fun (l:List (List Nat))=>l[i]?) (show (bf[59]?).getD [] = _ by kernel_rfl)
@[simp] theorem ahW (i:Nat):X.keep 60 i = ([[0],[0,6],[2,3],[0,8],[2,3],[0,4],[2,3]]:List (List Nat))[i]?:=congrArg (fun (l:List (List Nat))=>l[i]?) (show (bf[60]?).getD [] = _ by kernel_rfl)
@[simp] theorem ahX (i:Nat):X.keep 61 i = ([[0],[0,3],[0,3,4],[0,3,4,8],[0,3,4],[0,3,4,5],[0,3,4,18],[0,3,4],[2]]:List (List Nat))[i]?:=congrArg (fun (l:List (List Nat))=>l[i]?) (show (bf[61]?).getD [] = _ by kernel_rfl)
@[simp] theorem ahY (i:Nat):X.keep 62 i = ([[0],[0,6],[2,3],[0,4],[2,3]]:List (List Nat))[i]?:=congrArg (fun (l:List (List Nat))=>l[i]?) (show (bf[62]?).getD [] = _ by kernel_rfl)
@[simp] theorem ahZ (i:Nat):X.keep 63 i = ([[0,1,2],[0,1,2,7],[0,1,2,7,34],[0,1,2,7],[6]]:List (List Nat))[i]?:=congrArg (fun (l:List (List Nat))=>l[i]?) (show (bf[63]?).getD [] = _ by kernel_rfl)
@[simp] theorem ah0 (i:Nat):X.keep 64 i = ([[0,1,8],[0,1,18],[],[]]:List (List Nat))[i]?:=congrArg (fun (l:List (List Nat))=>l[i]?) (show (bf[64]?).getD [] = _ by kernel_rfl)
@[simp] theorem ah1 (i:Nat):X.keep 65 i = ([[0,1],[0,1,12],[4],[0,5,6,7],[0,5,6,7,28],[0,5,6],[5],[4]]:List (List Nat))[i]?:=congrArg (fun (l:List (List Nat))=>l[i]?) (show (bf[65]?).getD [] = _ by kernel_rfl)
@[simp] theorem ah2 (i:Nat):X.keep 66 i = ([[0,1,2,6],[0,1,2,6,44],[],[0,2,7],[0,7,8],[0,7,8,67],[0,7,8,69],[],[0,7,8,9],[0,7,8,9,75],[0,7,8,10],[0,7,9],[0,7,9,102],[0,7,9],[0,7,9,11],[0,7,9,11,114],[0,7,9,11],[0,7,9,11]]:List (List Nat))[i]?:=congrArg (fun (l:List (List Nat))=>l[i]?) (show (bf[66]?).getD [] = _ by kernel_rfl)
@[simp] theorem ah3 (i:Nat):X.keep 67 i = ([[0],[3,4],[3,4,13],[2,3],[4,5],[4,5,6],[4,5,6,16],[4,5,6],[4,5,6],[5,28],[2,3],[2,3]]:List (List Nat))[i]?:=congrArg (fun (l:List (List Nat))=>l[i]?) (show (bf[67]?).getD [] = _ by kernel_rfl)
@[simp] theorem ah4 (i:Nat):X.keep 68 i = ([[1,3,5],[1,3,5,7],[1,3,5,7,8],[1,3,5,7,8,24],[1,3,5,7,8,9],[1,3,5,7,8,9,28],[1,3,5,7,8],[1,3,5,7,8,9,28,33],[1,3,5,7,8,37],[1,3,5,7,8],[1,3,5,7,8,10],[1,3,5,7,8,10,47],[1,3,5,7,8],[1,3,5,7,8,9,28,57],[1,3,5,7,8,11],[1,3,5,7,8,11,66],[1,3,5,7,8],[1,3,5,7,8,9,70],[1,3,5,7,8,12],[1,3,5,7,8,12,79],[1,3,5,7,8],[6]]:List (List Nat))[i]?:=congrArg (fun (l:List (List Nat))=>l[i]?) (show (bf[68]?).getD [] = _ by kernel_rfl)
@[simp] theorem ah5 (i:Nat):X.keep 69 i = ([[0],[0,3,4],[3,4,7,8,9],[3,4,7,8,9,10],[3,4,6,7,8,9],[3,4,6,7,8,9,14],[3,4,7,8,9],[3,4,7,8,9],[2]]:List (List Nat))[i]?:=congrArg (fun (l:List (List Nat))=>l[i]?) (show (bf[69]?).getD [] = _ by kernel_rfl)
@[simp] theorem ah6 (i:Nat):X.keep 70 i = ([[0],[5,6,7],[5,6,7,8],[4,5,6,7],[5,6,7,12],[2],[5,6,7],[2]]:List (List Nat))[i]?:=congrArg (fun (l:List (List Nat))=>l[i]?) (show (bf[70]?).getD [] = _ by kernel_rfl)
@[simp] theorem ah7 (i:Nat):X.keep 71 i = ([[1],[1,5],[2],[2]]:List (List Nat))[i]?:=congrArg (fun (l:List (List Nat))=>l[i]?) (show (bf[71]?).getD [] = _ by kernel_rfl)
@[simp] theorem ah8 (i:Nat):X.keep 72 i = ([[0,2],[0,2,4],[0,2,4,9],[2,3],[2,4,11,12,13],[2,4,11,12,13,14],[2,4,6,11,12,13],[2,4,6,11,12,13,22],[2,3],[2,4,11,12,13],[2,4,11,12,13],[2,3]]:List (List Nat))[i]?:=congrArg (fun (l:List (List Nat))=>l[i]?) (show (bf[72]?).getD [] = _ by kernel_rfl)
@[simp] theorem ah9 (i:Nat):X.keep 73 i = ([[1,2],[1,2,3],[1,2,3],[1,2,3,4],[1,2,3,4,7],[1,2,3,4],[1,2,3,4],[2]]:List (List Nat))[i]?:=congrArg (fun (l:List (List Nat))=>l[i]?) (show (bf[73]?).getD [] = _ by kernel_rfl)
@[simp] theorem aia (i:Nat):X.keep 74 i = ([[0,1,9],[0,1],[0],[]]:List (List Nat))[i]?:=congrArg (fun (l:List (List Nat))=>l[i]?) (show (bf[74]?).getD [] = _ by kernel_rfl)
@[simp] theorem aib (i:Nat):X.keep 75 i = ([[0,1],[4]]:List (List Nat))[i]?:=congrArg (fun (l:List (List Nat))=>l[i]?) (show (bf[75]?).getD [] = _ by kernel_rfl)
@[simp] theorem aic (i:Nat):X.keep 76 i = ([[0,1,20],[0,1],[0,1,28],[]]:List (List Nat))[i]?:=congrArg (fun (l:List (List Nat))=>l[i]?) (show (bf[76]?).getD [] = _ by kernel_rfl)
@[simp] theorem aie (i:Nat):X.keep 77 i = ([[0,3],[0,3,12],[4],[0,5,6,7],[0,5,6],[5],[4]]:List (List Nat))[i]?:=congrArg (fun (l:List (List Nat))=>l[i]?) (show (bf[77]?).getD [] = _ by kernel_rfl)
@[simp] theorem aif (i:Nat):X.keep 78 i = ([[0],[2]]:List (List Nat))[i]?:=congrArg (fun (l:List (List Nat))=>l[i]?) (show (bf[78]?).getD [] = _ by kernel_rfl)
@[simp] theorem aii (i:Nat):X.keep 79 i = ([[0],[0,8],[2,3],[0,4],[0,4,5],[0,4,5,12],[0,4,5],[0,4,5,26],[2,3],[0,4,5,31],[0,4,5],[4,42],[2,3],[2,3]]:List (List Nat))[i]?:=congrArg (fun (l:List (List Nat))=>l[i]?) (show (bf[79]?).getD [] = _ by kernel_rfl)
@[simp] theorem aij (i:Nat):X.keep 80 i = ([[0,2,4],[0,2,4,7],[0,2,4,7,22],[0,2,4,7,8],[0,2,4,7,8,30],[6],[0,2,4,7,8,9,10],[0,2,4,7,8,9,10,33],[0,2,4,7,8,36],[],[6],[0,2,4,7,8,9],[0,2,4,7,8,9,10],[0,2,4,7,8,9,10,50],[0,2,4,7,8,9,10],[0,2,4,7,8,9,10,52],[0,2,4,7,8,9,10],[0,2,4,7,9,10,57],[0,2,4,7,9,10],[0,2,4,7,9,10,73],[0,2,4,7,9,10],[0,2,4,7,9,10,11],[0,2,4,7,9,10,11,86],[0,2,4,7,9,10,11],[0,2,4,7,9,10,11],[6]]:List (List Nat))[i]?:=congrArg (fun (l:List (List Nat))=>l[i]?) (show (bf[80]?).getD [] = _ by kernel_rfl)
@[simp] theorem aik (i:Nat):X.keep 81 i = ([[0],[0,3,4],[0,3,4,5],[0,3,4,5,9],[0,3,4,5],[0,3,4,5],[0,3,4,5,22],[0,3,4,5],[2]]:List (List Nat))[i]?:=congrArg (fun (l:List (List Nat))=>l[i]?) (show (bf[81]?).getD [] = _ by kernel_rfl)
@[simp] theorem ail (i:Nat):X.keep 82 i = ([[0],[0,3],[0,3,7],[0,3],[0,3,14],[2],[2]]:List (List Nat))[i]?:=congrArg (fun (l:List (List Nat))=>l[i]?) (show (bf[82]?).getD [] = _ by kernel_rfl)
@[simp] theorem ain (i:Nat):X.keep 83 i = ([[1],[1,5],[2],[2]]:List (List Nat))[i]?:=congrArg (fun (l:List (List Nat))=>l[i]?) (show (bf[83]?).getD [] = _ by kernel_rfl)
@[simp] theorem aio (i:Nat):X.keep 84 i = ([[0,1,2],[0,1,2,9],[0,1,2],[0],[6]]:List (List Nat))[i]?:=congrArg (fun (l:List (List Nat))=>l[i]?) (show (bf[84]?).getD [] = _ by kernel_rfl)
@[simp] theorem aip (i:Nat):X.keep 85 i = ([[0,1,2],[0,1,2,10],[0,1,2,10,17],[6,7,8],[0,1,2,20],[6,7,8],[6,7,8]]:List (List Nat))[i]?:=congrArg (fun (l:List (List Nat))=>l[i]?) (show (bf[85]?).getD [] = _ by kernel_rfl)
@[simp] theorem aiq (i:Nat):X.keep 86 i = ([[0,1,2,4,12],[],[0,2,15,16],[0,2,15,16,17],[0,2,15,16],[0,2,15,16]]:List (List Nat))[i]?:=congrArg (fun (l:List (List Nat))=>l[i]?) (show (bf[86]?).getD [] = _ by kernel_rfl)
@[simp] theorem air (i:Nat):X.keep 87 i = ([[0,1,2,3],[0,1,2,3,11],[0,1,2,3,11,12],[0,1,2,3,11,12,19],[0,1,2,3,11,12],[0,1,2,3,11,12],[0,1,2,3,11,13],[0,1,2,3,11,13,14],[0,1,2,3,11,13,14,30],[0,1,2,3,11,13,14],[0,1,2,3,11,13,14,39],[8,9,10],[0,1,2,3,11,13,14],[0,1,2,3,11,13,14,15],[0,1,2,3,11,13,14,15,52],[0,1,2,3,11,13,14,15],[0,1,2,3,11,13,14,15,68],[8,9,10],[8,9,10]]:List (List Nat))[i]?:=congrArg (fun (l:List (List Nat))=>l[i]?) (show (bf[87]?).getD [] = _ by kernel_rfl)
@[simp] theorem ais (i:Nat):X.keep 88 i = ([[0,4,5],[0,4,5,7],[0,4,5,7,9],[0,4,5,7,9,10],[0,4,5,7,9,10,11],[4,5,7,9,10,11,21,22,23],[4,5,7,9,10,11,21,22,23,24],[4,5,7,9,10,11,12,13,21,22,23],[4,5,7,9,10,11,13,21,22,23],[4,5,7,9,10,11,21,22,23],[4,5,7,9,10,11,21,22,23],[6]]:List (List Nat))[i]?:=congrArg (fun (l:List (List Nat))=>l[i]?) (show (bf[88]?).getD [] = _ by kernel_rfl)
@[simp] theorem ait (i:Nat):X.keep 89 i = ([[0,1,2,3,4,5],[0,1,2,3,4,5,9],[0,1,2,3,4,5,9,10],[0,1,2,3,4,5,9,10],[0,1,2,3,4,5,9,10,16],[6,7,8],[0,1,2,3,4,5,9,10,21],[6,7,8],[0,1,2,3,4,5,9,10],[0,1,2,3,4,5,9,10],[0,1,2,3,4,5,9,10,11],[0,1,2,3,4,5,9,10,11,50],[6,7,8]]:List (List Nat))[i]?:=congrArg (fun (l:List (List Nat))=>l[i]?) (show (bf[89]?).getD [] = _ by kernel_rfl)
attribute [go_sem] List.getElem?_cons_zero List.getElem?_cons_succ Go.AM.vG Go.AM.yD
@[simp] theorem nt3:dh X 3 = 86:=by kernel_rfl
@[simp] theorem apZ:bodied X 3 = true:=by kernel_rfl
@[simp] theorem ap0:au X 3 = []:=by kernel_rfl
@[simp] theorem nt4:dh X 4 = 58:=by kernel_rfl
@[simp] theorem ap1:bodied X 4 = true:=by kernel_rfl
@[simp] theorem ap2:au X 4 = [22,3]:=by kernel_rfl
@[simp] theorem nt5:dh X 5 = 76:=by kernel_rfl
@[simp] theorem ap3:bodied X 5 = true:=by kernel_rfl
@[simp] theorem ap4:au X 5 = [22,3]:=by kernel_rfl
@[simp] theorem nt6:dh X 6 = 63:=by kernel_rfl
@[simp] theorem ap5:bodied X 6 = true:=by kernel_rfl
@[simp] theorem ap6:au X 6 = [22,31]:=by kernel_rfl
@[simp] theorem nt7:dh X 7 = 49:=by kernel_rfl
@[simp] theorem ap7:bodied X 7 = true:=by kernel_rfl
@[simp] theorem ap8:au X 7 = [22,5]:=by kernel_rfl
@[simp] theorem nt8:dh X 8 = 66:=by kernel_rfl
@[simp] theorem ap9:bodied X 8 = true:=by kernel_rfl
@[simp] theorem agm:au X 8 = [22,3]:=by kernel_rfl
@[simp] theorem nt9:dh X 9 = 22:=by kernel_rfl
@[simp] theorem aqa:bodied X 9 = true:=by kernel_rfl
@[simp] theorem aqb:au X 9 = []:=by kernel_rfl
@[simp] theorem aqc:dh X 10 = 10:=by kernel_rfl
@[simp] theorem al3:bodied X 10 = true:=by kernel_rfl
@[simp] theorem abp:au X 10 = [22,22]:=by kernel_rfl
@[simp] theorem aqd:dh X 11 = 25:=by kernel_rfl
@[simp] theorem al4:bodied X 11 = true:=by kernel_rfl
@[simp] theorem abl:au X 11 = [22]:=by kernel_rfl
@[simp] theorem aqe:dh X 12 = 40:=by kernel_rfl
@[simp] theorem al5:bodied X 12 = true:=by kernel_rfl
@[simp] theorem abo:au X 12 = [22]:=by kernel_rfl
@[simp] theorem aqf:dh X 13 = 14:=by kernel_rfl
@[simp] theorem al6:bodied X 13 = true:=by kernel_rfl
@[simp] theorem al7:au X 13 = [22]:=by kernel_rfl
@[simp] theorem aqg:dh X 14 = 66:=by kernel_rfl
@[simp] theorem al8:bodied X 14 = true:=by kernel_rfl
@[simp] theorem al9:au X 14 = [22,3]:=by kernel_rfl
@[simp] theorem aqh:dh X 15 = 40:=by kernel_rfl
@[simp] theorem ama:bodied X 15 = true:=by kernel_rfl
@[simp] theorem amb:au X 15 = [22]:=by kernel_rfl
@[simp] theorem aqi:dh X 16 = 25:=by kernel_rfl
@[simp] theorem amc:bodied X 16 = true:=by kernel_rfl
@[simp] theorem amd:au X 16 = [22]:=by kernel_rfl
@[simp] theorem aqj:dh X 17 = 41:=by kernel_rfl
@[simp] theorem ame:bodied X 17 = true:=by kernel_rfl
@[simp] theorem amf:au X 17 = [22,22]:=by kernel_rfl
@[simp] theorem aqk:dh X 18 = 35:=by kernel_rfl
@[simp] theorem amg:bodied X 18 = true:=by kernel_rfl
@[simp] theorem acO:au X 18 = [22,3]:=by kernel_rfl
@[simp] theorem aql:dh X 19 = 5:=by kernel_rfl
@[simp] theorem amh:bodied X 19 = true:=by kernel_rfl
@[simp] theorem YU:au X 19 = [22]:=by kernel_rfl
@[simp] theorem aqm:dh X 20 = 21:=by kernel_rfl
@[simp] theorem ami:bodied X 20 = true:=by kernel_rfl
@[simp] theorem acQ:au X 20 = [22]:=by kernel_rfl
@[simp] theorem aqn:dh X 21 = 36:=by kernel_rfl
@[simp] theorem amj:bodied X 21 = true:=by kernel_rfl
@[simp] theorem amk:au X 21 = [22,3]:=by kernel_rfl
@[simp] theorem aqo:dh X 22 = 5:=by kernel_rfl
@[simp] theorem aml:bodied X 22 = true:=by kernel_rfl
@[simp] theorem amm:au X 22 = [22]:=by kernel_rfl
@[simp] theorem aqp:dh X 23 = 21:=by kernel_rfl
@[simp] theorem amn:bodied X 23 = true:=by kernel_rfl
@[simp] theorem amo:au X 23 = [22]:=by kernel_rfl
@[simp] theorem aqr:dh X 24 = 81:=by kernel_rfl
@[simp] theorem amq:bodied X 24 = true:=by kernel_rfl
@[simp] theorem acN:au X 24 = [38]:=by kernel_rfl
@[simp] theorem aqs:dh X 25 = 38:=by kernel_rfl
@[simp] theorem amr:bodied X 25 = true:=by kernel_rfl
@[simp] theorem abj:au X 25 = [31,22]:=by kernel_rfl
@[simp] theorem aqt:dh X 26 = 128:=by kernel_rfl
@[simp] theorem ams:bodied X 26 = true:=by kernel_rfl
@[simp] theorem acR:au X 26 = [45]:=by kernel_rfl
@[simp] theorem aqu:dh X 27 = 104:=by kernel_rfl
@[simp] theorem amu:bodied X 27 = true:=by kernel_rfl
@[simp] theorem abX:au X 27 = [22]:=by kernel_rfl
@[simp] theorem aqv:dh X 28 = 63:=by kernel_rfl
@[simp] theorem amv:bodied X 28 = true:=by kernel_rfl
@[simp] theorem acS:au X 28 = [22]:=by kernel_rfl
@[simp] theorem aqw:dh X 29 = 100:=by kernel_rfl
@[simp] theorem amw:bodied X 29 = true:=by kernel_rfl
@[simp] theorem amx:au X 29 = [22,3]:=by kernel_rfl
@[simp] theorem aqx:dh X 30 = 36:=by kernel_rfl
@[simp] theorem amy:bodied X 30 = true:=by kernel_rfl
@[simp] theorem amA:au X 30 = [31,22]:=by kernel_rfl
@[simp] theorem aqy:dh X 31 = 148:=by kernel_rfl
@[simp] theorem amB:bodied X 31 = true:=by kernel_rfl
@[simp] theorem amC:au X 31 = [45]:=by kernel_rfl
@[simp] theorem aqz:dh X 32 = 57:=by kernel_rfl
@[simp] theorem amD:bodied X 32 = true:=by kernel_rfl
@[simp] theorem amE:au X 32 = [22]:=by kernel_rfl
@[simp] theorem aqA:dh X 33 = 57:=by kernel_rfl
@[simp] theorem amF:bodied X 33 = true:=by kernel_rfl
@[simp] theorem amG:au X 33 = [22]:=by kernel_rfl
@[simp] theorem aqB:dh X 34 = 63:=by kernel_rfl
@[simp] theorem amH:bodied X 34 = true:=by kernel_rfl
@[simp] theorem aaU:au X 34 = [38,3]:=by kernel_rfl
@[simp] theorem aqC:dh X 35 = 49:=by kernel_rfl
@[simp] theorem amI:bodied X 35 = true:=by kernel_rfl
@[simp] theorem aa3:au X 35 = [38]:=by kernel_rfl
@[simp] theorem aqD:dh X 36 = 36:=by kernel_rfl
@[simp] theorem amJ:bodied X 36 = true:=by kernel_rfl
@[simp] theorem abe:au X 36 = [38,56,56]:=by kernel_rfl
@[simp] theorem aqE:dh X 37 = 34:=by kernel_rfl
@[simp] theorem amK:bodied X 37 = true:=by kernel_rfl
@[simp] theorem amL:au X 37 = []:=by kernel_rfl
@[simp] theorem aqF:dh X 38 = 137:=by kernel_rfl
@[simp] theorem amM:bodied X 38 = true:=by kernel_rfl
@[simp] theorem acI:au X 38 = [38]:=by kernel_rfl
@[simp] theorem aqG:dh X 39 = 13:=by kernel_rfl
@[simp] theorem amN:bodied X 39 = true:=by kernel_rfl
@[simp] theorem acT:au X 39 = [38,23]:=by kernel_rfl
@[simp] theorem aqH:dh X 40 = 8:=by kernel_rfl
@[simp] theorem amO:bodied X 40 = true:=by kernel_rfl
@[simp] theorem amP:au X 40 = [31]:=by kernel_rfl
@[simp] theorem aqI:dh X 41 = 47:=by kernel_rfl
@[simp] theorem amQ:bodied X 41 = true:=by kernel_rfl
@[simp] theorem ab9:au X 41 = [45]:=by kernel_rfl
@[simp] theorem aqJ:dh X 42 = 55:=by kernel_rfl
@[simp] theorem amR:bodied X 42 = true:=by kernel_rfl
@[simp] theorem amS:au X 42 = [56]:=by kernel_rfl
@[simp] theorem aqK:dh X 43 = 17:=by kernel_rfl
@[simp] theorem amT:bodied X 43 = true:=by kernel_rfl
@[simp] theorem acw:au X 43 = [64,3,3]:=by kernel_rfl
@[simp] theorem aqL:dh X 44 = 18:=by kernel_rfl
@[simp] theorem amU:bodied X 44 = true:=by kernel_rfl
@[simp] theorem acy:au X 44 = [64,3,3]:=by kernel_rfl
@[simp] theorem aqM:dh X 45 = 33:=by kernel_rfl
@[simp] theorem amV:bodied X 45 = true:=by kernel_rfl
@[simp] theorem ace:au X 45 = [3]:=by kernel_rfl
@[simp] theorem aqN:dh X 46 = 30:=by kernel_rfl
@[simp] theorem amW:bodied X 46 = true:=by kernel_rfl
@[simp] theorem acg:au X 46 = [3]:=by kernel_rfl
@[simp] theorem aqO:dh X 47 = 33:=by kernel_rfl
@[simp] theorem amX:bodied X 47 = true:=by kernel_rfl
@[simp] theorem abP:au X 47 = [3]:=by kernel_rfl
@[simp] theorem aqP:dh X 48 = 36:=by kernel_rfl
@[simp] theorem amY:bodied X 48 = true:=by kernel_rfl
@[simp] theorem acA:au X 48 = [22,3,3]:=by kernel_rfl
@[simp] theorem aqQ:dh X 49 = 55:=by kernel_rfl
@[simp] theorem amZ:bodied X 49 = true:=by kernel_rfl
@[simp] theorem am0:au X 49 = [47,3]:=by kernel_rfl
@[simp] theorem aqR:dh X 50 = 52:=by kernel_rfl
@[simp] theorem am1:bodied X 50 = true:=by kernel_rfl
@[simp] theorem am2:au X 50 = [47]:=by kernel_rfl
@[simp] theorem aqS:dh X 51 = 39:=by kernel_rfl
@[simp] theorem am3:bodied X 51 = true:=by kernel_rfl
@[simp] theorem am4:au X 51 = []:=by kernel_rfl
@[simp] theorem aqT:dh X 52 = 125:=by kernel_rfl
@[simp] theorem am5:bodied X 52 = true:=by kernel_rfl
@[simp] theorem am6:au X 52 = [47,78,78]:=by kernel_rfl
@[simp] theorem aqU:dh X 53 = 13:=by kernel_rfl
@[simp] theorem am7:bodied X 53 = true:=by kernel_rfl
@[simp] theorem am8:au X 53 = [56]:=by kernel_rfl
@[simp] theorem aqV:dh X 54 = 159:=by kernel_rfl
@[simp] theorem am9:bodied X 54 = true:=by kernel_rfl
@[simp] theorem ana:au X 54 = [47]:=by kernel_rfl
@[simp] theorem aqW:dh X 55 = 65:=by kernel_rfl
@[simp] theorem anb:bodied X 55 = true:=by kernel_rfl
@[simp] theorem anc:au X 55 = [45]:=by kernel_rfl
@[simp] theorem aqX:dh X 56 = 68:=by kernel_rfl
@[simp] theorem ane:bodied X 56 = true:=by kernel_rfl
@[simp] theorem anf:au X 56 = [56]:=by kernel_rfl
@[simp] theorem aqY:dh X 57 = 36:=by kernel_rfl
@[simp] theorem ang:bodied X 57 = true:=by kernel_rfl
@[simp] theorem anh:au X 57 = [82,3,3]:=by kernel_rfl
@[simp] theorem aqZ:dh X 58 = 37:=by kernel_rfl
@[simp] theorem ani:bodied X 58 = true:=by kernel_rfl
@[simp] theorem anj:au X 58 = [82,3,3]:=by kernel_rfl
@[simp] theorem aq0:dh X 59 = 23:=by kernel_rfl
@[simp] theorem ank:bodied X 59 = true:=by kernel_rfl
@[simp] theorem anl:au X 59 = [3]:=by kernel_rfl
@[simp] theorem aq1:dh X 60 = 23:=by kernel_rfl
@[simp] theorem anm:bodied X 60 = true:=by kernel_rfl
@[simp] theorem ano:au X 60 = [3]:=by kernel_rfl
@[simp] theorem aq2:dh X 61 = 21:=by kernel_rfl
@[simp] theorem anp:bodied X 61 = true:=by kernel_rfl
@[simp] theorem anq:au X 61 = [3]:=by kernel_rfl
@[simp] theorem aq3:dh X 62 = 20:=by kernel_rfl
@[simp] theorem anr:bodied X 62 = true:=by kernel_rfl
@[simp] theorem ant:au X 62 = [3]:=by kernel_rfl
@[simp] theorem aq4:dh X 63 = 38:=by kernel_rfl
@[simp] theorem anu:bodied X 63 = true:=by kernel_rfl
@[simp] theorem anv:au X 63 = [22,3,3]:=by kernel_rfl
@[simp] theorem aq5:dh X 64 = 31:=by kernel_rfl
@[simp] theorem anw:bodied X 64 = true:=by kernel_rfl
@[simp] theorem aaT:au X 64 = [38,5]:=by kernel_rfl
@[simp] theorem aq6:dh X 65 = 41:=by kernel_rfl
@[simp] theorem anx:bodied X 65 = true:=by kernel_rfl
@[simp] theorem aaW:au X 65 = [38,56]:=by kernel_rfl
@[simp] theorem aq7:dh X 66 = 132:=by kernel_rfl
@[simp] theorem anz:bodied X 66 = true:=by kernel_rfl
@[simp] theorem aa9:au X 66 = [38,3,56]:=by kernel_rfl
@[simp] theorem aq8:dh X 67 = 31:=by kernel_rfl
@[simp] theorem anA:bodied X 67 = true:=by kernel_rfl
@[simp] theorem anB:au X 67 = [56]:=by kernel_rfl
@[simp] theorem aq9:dh X 68 = 84:=by kernel_rfl
@[simp] theorem anC:bodied X 68 = true:=by kernel_rfl
@[simp] theorem abw:au X 68 = [38,56,3]:=by kernel_rfl
@[simp] theorem ara:dh X 69 = 27:=by kernel_rfl
@[simp] theorem anD:bodied X 69 = true:=by kernel_rfl
@[simp] theorem anE:au X 69 = [56]:=by kernel_rfl
@[simp] theorem arb:dh X 70 = 14:=by kernel_rfl
@[simp] theorem anF:bodied X 70 = true:=by kernel_rfl
@[simp] theorem anG:au X 70 = [56]:=by kernel_rfl
@[simp] theorem ard:dh X 71 = 32:=by kernel_rfl
@[simp] theorem anH:bodied X 71 = true:=by kernel_rfl
@[simp] theorem abY:au X 71 = [69]:=by kernel_rfl
@[simp] theorem arf:dh X 72 = 31:=by kernel_rfl
@[simp] theorem anI:bodied X 72 = true:=by kernel_rfl
@[simp] theorem anJ:au X 72 = [56]:=by kernel_rfl
@[simp] theorem arh:dh X 73 = 22:=by kernel_rfl
@[simp] theorem anK:bodied X 73 = true:=by kernel_rfl
@[simp] theorem anL:au X 73 = [96]:=by kernel_rfl
@[simp] theorem ari:dh X 74 = 48:=by kernel_rfl
@[simp] theorem anM:bodied X 74 = true:=by kernel_rfl
@[simp] theorem acu:au X 74 = [64,3]:=by kernel_rfl
@[simp] theorem arj:dh X 75 = 16:=by kernel_rfl
@[simp] theorem anN:bodied X 75 = true:=by kernel_rfl
@[simp] theorem anO:au X 75 = [22,3]:=by kernel_rfl
@[simp] theorem ark:dh X 76 = 39:=by kernel_rfl
@[simp] theorem anP:bodied X 76 = true:=by kernel_rfl
@[simp] theorem anQ:au X 76 = [47,5]:=by kernel_rfl
@[simp] theorem arl:dh X 77 = 44:=by kernel_rfl
@[simp] theorem anR:bodied X 77 = true:=by kernel_rfl
@[simp] theorem anS:au X 77 = [47,78]:=by kernel_rfl
@[simp] theorem arn:dh X 78 = 7:=by kernel_rfl
@[simp] theorem anT:bodied X 78 = true:=by kernel_rfl
@[simp] theorem anU:au X 78 = [3]:=by kernel_rfl
@[simp] theorem aro:dh X 79 = 45:=by kernel_rfl
@[simp] theorem anV:bodied X 79 = true:=by kernel_rfl
@[simp] theorem anW:au X 79 = [56]:=by kernel_rfl
@[simp] theorem arp:dh X 80 = 94:=by kernel_rfl
@[simp] theorem anX:bodied X 80 = true:=by kernel_rfl
@[simp] theorem anY:au X 80 = [47,78,3]:=by kernel_rfl
@[simp] theorem arq:dh X 81 = 31:=by kernel_rfl
@[simp] theorem anZ:bodied X 81 = true:=by kernel_rfl
@[simp] theorem an0:au X 81 = [56]:=by kernel_rfl
@[simp] theorem ars:dh X 82 = 15:=by kernel_rfl
@[simp] theorem an1:bodied X 82 = true:=by kernel_rfl
@[simp] theorem an2:au X 82 = [56]:=by kernel_rfl
@[simp] theorem aru:dh X 83 = 32:=by kernel_rfl
@[simp] theorem an3:bodied X 83 = true:=by kernel_rfl
@[simp] theorem an4:au X 83 = [69]:=by kernel_rfl
@[simp] theorem arv:dh X 84 = 30:=by kernel_rfl
@[simp] theorem an5:bodied X 84 = true:=by kernel_rfl
@[simp] theorem an6:au X 84 = [22,3,3]:=by kernel_rfl
@[simp] theorem arw:dh X 85 = 29:=by kernel_rfl
@[simp] theorem an7:bodied X 85 = true:=by kernel_rfl
@[simp] theorem an8:au X 85 = [56,22,3]:=by kernel_rfl
@[simp] theorem arx:dh X 86 = 23:=by kernel_rfl
@[simp] theorem an9:bodied X 86 = true:=by kernel_rfl
@[simp] theorem aaZ:au X 86 = [3,3]:=by kernel_rfl
@[simp] theorem arz:dh X 87 = 71:=by kernel_rfl
@[simp] theorem aoa:bodied X 87 = true:=by kernel_rfl
@[simp] theorem aob:au X 87 = [56,56,22,3]:=by kernel_rfl
@[simp] theorem arA:dh X 88 = 41:=by kernel_rfl
@[simp] theorem aoc:bodied X 88 = true:=by kernel_rfl
@[simp] theorem aod:au X 88 = [56,22,3]:=by kernel_rfl
@[simp] theorem arB:dh X 89 = 58:=by kernel_rfl
@[simp] theorem aoe:bodied X 89 = true:=by kernel_rfl
@[simp] theorem aof:au X 89 = []:=by kernel_rfl
@[simp] theorem WE:X.keep 18 6 = some [4,5,6]:=by kernel_rfl
@[simp] theorem FY:X.keep 18 7 = some [4,5,6]:=by kernel_rfl
@[simp] theorem Uf:X.keep 24 19 = some [0,3,4]:=by kernel_rfl
@[simp] theorem Vp:X.keep 38 9 = some [0,4,5,7,8,41,42]:=by kernel_rfl
@[simp] theorem Tm:X.keep 38 20 = some [0,2,3]:=by kernel_rfl
@[simp] theorem Wy:X.keep 47 1 = some [0,2,4]:=by kernel_rfl
@[simp] theorem U6:X.keep 66 3 = some [0,2,7]:=by kernel_rfl
@[simp] theorem aiu:X.dy 8 12 = false:=by kernel_rfl
@[simp] theorem aiv:X.dy 12 3 = false:=by kernel_rfl
@[simp] theorem adt:X.dy 14 12 = false:=by kernel_rfl
@[simp] theorem aiw:X.dy 15 3 = false:=by kernel_rfl
@[simp] theorem aix:X.dy 18 6 = true:=by kernel_rfl
@[simp] theorem aiy:X.dy 18 7 = true:=by kernel_rfl
@[simp] theorem aiz:X.dy 21 5 = true:=by kernel_rfl
@[simp] theorem aiA:X.dy 21 6 = true:=by kernel_rfl
@[simp] theorem adu:X.dy 24 19 = true:=by kernel_rfl
@[simp] theorem adv:X.dy 26 14 = false:=by kernel_rfl
@[simp] theorem adw:X.dy 26 16 = false:=by kernel_rfl
@[simp] theorem adx:X.dy 26 19 = false:=by kernel_rfl
@[simp] theorem ady:X.dy 26 22 = false:=by kernel_rfl
@[simp] theorem aiB:X.dy 27 8 = false:=by kernel_rfl
@[simp] theorem adz:X.dy 27 12 = false:=by kernel_rfl
@[simp] theorem adA:X.dy 27 14 = false:=by kernel_rfl
@[simp] theorem adB:X.dy 28 10 = false:=by kernel_rfl
@[simp] theorem adC:X.dy 31 15 = false:=by kernel_rfl
@[simp] theorem adD:X.dy 31 18 = false:=by kernel_rfl
@[simp] theorem adE:X.dy 31 22 = false:=by kernel_rfl
@[simp] theorem adF:X.dy 31 24 = false:=by kernel_rfl
@[simp] theorem aiC:X.dy 34 5 = false:=by kernel_rfl
@[simp] theorem aiD:X.dy 34 8 = false:=by kernel_rfl
@[simp] theorem aiE:X.dy 38 9 = true:=by kernel_rfl
@[simp] theorem adG:X.dy 38 20 = true:=by kernel_rfl
@[simp] theorem adH:X.dy 45 12 = false:=by kernel_rfl
@[simp] theorem adI:X.dy 46 10 = false:=by kernel_rfl
@[simp] theorem aiF:X.dy 47 1 = true:=by kernel_rfl
@[simp] theorem aiG:X.dy 48 2 = false:=by kernel_rfl
@[simp] theorem aiH:X.dy 49 5 = false:=by kernel_rfl
@[simp] theorem aiI:X.dy 49 8 = false:=by kernel_rfl
@[simp] theorem aiJ:X.dy 51 1 = true:=by kernel_rfl
@[simp] theorem adJ:X.dy 52 21 = false:=by kernel_rfl
@[simp] theorem adK:X.dy 54 19 = true:=by kernel_rfl
@[simp] theorem aiK:X.dy 57 3 = false:=by kernel_rfl
@[simp] theorem aiL:X.dy 58 3 = false:=by kernel_rfl
@[simp] theorem aiM:X.dy 63 2 = false:=by kernel_rfl
@[simp] theorem aiN:X.dy 64 1 = false:=by kernel_rfl
@[simp] theorem aiO:X.dy 65 3 = false:=by kernel_rfl
@[simp] theorem aiP:X.dy 66 3 = true:=by kernel_rfl
@[simp] theorem adL:X.dy 66 11 = false:=by kernel_rfl
@[simp] theorem adM:X.dy 66 17 = false:=by kernel_rfl
@[simp] theorem aiQ:X.dy 73 6 = false:=by kernel_rfl
@[simp] theorem aiR:X.dy 74 2 = false:=by kernel_rfl
@[simp] theorem aiS:X.dy 76 0 = false:=by kernel_rfl
@[simp] theorem aiT:X.dy 77 3 = false:=by kernel_rfl
@[simp] theorem aiU:X.dy 89 8 = false:=by kernel_rfl
@[simp] theorem aog:sizeT X 0 = 1:=by kernel_rfl
@[simp] theorem aiV:bH X 0 = 0:=by kernel_rfl
@[simp] theorem arC:okT X 0 = true:=by kernel_rfl
@[simp] theorem isAgg0:bG X 0 = false:=by kernel_rfl
@[simp] theorem aiW:cu X 0 = false:=by kernel_rfl
@[simp] theorem aiX:dA X 0 = false:=by kernel_rfl
@[simp] theorem aoh:gY X 0 = false:=by kernel_rfl
@[simp] theorem arD:bP X 0 = true:=by kernel_rfl
@[simp] theorem arE:und X 3 = .int .i64:=by kernel_rfl
@[simp] theorem size3:sizeT X 3 = 1:=by kernel_rfl
@[simp] theorem bytes3:bH X 3 = 8:=by kernel_rfl
@[simp] theorem arF:okT X 3 = true:=by kernel_rfl
@[simp] theorem isAgg3:bG X 3 = false:=by kernel_rfl
@[simp] theorem aiY:cu X 3 = true:=by kernel_rfl
@[simp] theorem aiZ:dA X 3 = false:=by kernel_rfl
@[simp] theorem aoi:gY X 3 = false:=by kernel_rfl
@[simp] theorem SE:bP X 3 = true:=by kernel_rfl
@[simp] theorem zero3:bn X 3 = .int .i64 0:=by kernel_rfl
@[simp] theorem arG:und X 4 = .bool:=by kernel_rfl
@[simp] theorem aoj:sizeT X 4 = 1:=by kernel_rfl
@[simp] theorem bytes4:bH X 4 = 1:=by kernel_rfl
@[simp] theorem arH:okT X 4 = true:=by kernel_rfl
@[simp] theorem isAgg4:bG X 4 = false:=by kernel_rfl
@[simp] theorem ai0:cu X 4 = false:=by kernel_rfl
@[simp] theorem ai1:dA X 4 = false:=by kernel_rfl
@[simp] theorem aok:gY X 4 = false:=by kernel_rfl
@[simp] theorem arI:bP X 4 = true:=by kernel_rfl
@[simp] theorem aol:bn X 4 = .bool false:=by kernel_rfl
@[simp] theorem OJ:und X 5 = .int .u8:=by kernel_rfl
@[simp] theorem wH:sizeT X 5 = 1:=by kernel_rfl
@[simp] theorem bytes5:bH X 5 = 1:=by kernel_rfl
@[simp] theorem arJ:okT X 5 = true:=by kernel_rfl
@[simp] theorem isAgg5:bG X 5 = false:=by kernel_rfl
@[simp] theorem ai2:cu X 5 = true:=by kernel_rfl
@[simp] theorem ai3:dA X 5 = false:=by kernel_rfl
@[simp] theorem aom:gY X 5 = true:=by kernel_rfl
@[simp] theorem Ez:bP X 5 = true:=by kernel_rfl
@[simp] theorem aon:bn X 5 = .int .u8 0:=by kernel_rfl
@[simp] theorem arK:und X 9 = .string:=by kernel_rfl
@[simp] theorem aoo:sizeT X 9 = 1:=by kernel_rfl
@[simp] theorem bytes9:bH X 9 = 16:=by kernel_rfl
@[simp] theorem arL:okT X 9 = true:=by kernel_rfl
@[simp] theorem isAgg9:bG X 9 = false:=by kernel_rfl
@[simp] theorem ai4:cu X 9 = false:=by kernel_rfl
@[simp] theorem ai5:dA X 9 = false:=by kernel_rfl
@[simp] theorem aop:gY X 9 = false:=by kernel_rfl
@[simp] theorem arM:bP X 9 = true:=by kernel_rfl
@[simp] theorem zero9:bn X 9 = .str []:=by kernel_rfl
@[simp] theorem qW:und X 22 = .slice 5:=by kernel_rfl
@[simp] theorem ai6:sizeT X 22 = 1:=by kernel_rfl
@[simp] theorem adN:bH X 22 = 24:=by kernel_rfl
@[simp] theorem aoq:okT X 22 = true:=by kernel_rfl
@[simp] theorem adO:bG X 22 = false:=by kernel_rfl
@[simp] theorem adP:cu X 22 = false:=by kernel_rfl
@[simp] theorem adQ:dA X 22 = false:=by kernel_rfl
@[simp] theorem ai7:gY X 22 = false:=by kernel_rfl
@[simp] theorem aor:bP X 22 = true:=by kernel_rfl
@[simp] theorem zero22:bn X 22 = .ro 0 .pn 0:=by kernel_rfl
@[simp] theorem aos:und X 23 = .int .i64:=by kernel_rfl
@[simp] theorem ai8:sizeT X 23 = 1:=by kernel_rfl
@[simp] theorem bytes23:bH X 23 = 8:=by kernel_rfl
@[simp] theorem aot:okT X 23 = true:=by kernel_rfl
@[simp] theorem adR:bG X 23 = false:=by kernel_rfl
@[simp] theorem adS:cu X 23 = true:=by kernel_rfl
@[simp] theorem adT:dA X 23 = false:=by kernel_rfl
@[simp] theorem ai9:gY X 23 = false:=by kernel_rfl
@[simp] theorem aou:bP X 23 = true:=by kernel_rfl
@[simp] theorem aja:bn X 23 = .int .i64 0:=by kernel_rfl
@[simp] theorem ajb:sizeT X 24 = 1:=by kernel_rfl
@[simp] theorem adU:bH X 24 = 0:=by kernel_rfl
@[simp] theorem aov:okT X 24 = true:=by kernel_rfl
@[simp] theorem isAgg24:bG X 24 = false:=by kernel_rfl
@[simp] theorem adV:cu X 24 = false:=by kernel_rfl
@[simp] theorem adW:dA X 24 = false:=by kernel_rfl
@[simp] theorem ajc:gY X 24 = false:=by kernel_rfl
@[simp] theorem aow:bP X 24 = true:=by kernel_rfl
@[simp] theorem aox:und X 31 = .int .u32:=by kernel_rfl
@[simp] theorem ajd:sizeT X 31 = 1:=by kernel_rfl
@[simp] theorem adX:bH X 31 = 4:=by kernel_rfl
@[simp] theorem aoy:okT X 31 = true:=by kernel_rfl
@[simp] theorem isAgg31:bG X 31 = false:=by kernel_rfl
@[simp] theorem adY:cu X 31 = true:=by kernel_rfl
@[simp] theorem adZ:dA X 31 = false:=by kernel_rfl
@[simp] theorem aje:gY X 31 = false:=by kernel_rfl
@[simp] theorem aoz:bP X 31 = true:=by kernel_rfl
@[simp] theorem ajf:bn X 31 = .int .u32 0:=by kernel_rfl
@[simp] theorem aoA:und X 32 = .int .u64:=by kernel_rfl
@[simp] theorem ajg:sizeT X 32 = 1:=by kernel_rfl
@[simp] theorem ad1:bH X 32 = 8:=by kernel_rfl
@[simp] theorem aoB:okT X 32 = true:=by kernel_rfl
@[simp] theorem isAgg32:bG X 32 = false:=by kernel_rfl
@[simp] theorem ad2:cu X 32 = true:=by kernel_rfl
@[simp] theorem ad3:dA X 32 = false:=by kernel_rfl
@[simp] theorem ajh:gY X 32 = false:=by kernel_rfl
@[simp] theorem aoC:bP X 32 = true:=by kernel_rfl
@[simp] theorem zero32:bn X 32 = .int .u64 0:=by kernel_rfl
@[simp] theorem aji:sizeT X 35 = 1:=by kernel_rfl
@[simp] theorem ad4:bH X 35 = 0:=by kernel_rfl
@[simp] theorem aoD:okT X 35 = true:=by kernel_rfl
@[simp] theorem isAgg35:bG X 35 = false:=by kernel_rfl
@[simp] theorem ad5:cu X 35 = false:=by kernel_rfl
@[simp] theorem ad6:dA X 35 = false:=by kernel_rfl
@[simp] theorem ajj:gY X 35 = false:=by kernel_rfl
@[simp] theorem aoE:bP X 35 = true:=by kernel_rfl
@[simp] theorem aoF:und X 38 = .pointer 40:=by kernel_rfl
@[simp] theorem ajk:sizeT X 38 = 1:=by kernel_rfl
@[simp] theorem ad7:bH X 38 = 8:=by kernel_rfl
@[simp] theorem aoG:okT X 38 = true:=by kernel_rfl
@[simp] theorem isAgg38:bG X 38 = false:=by kernel_rfl
@[simp] theorem ad8:cu X 38 = false:=by kernel_rfl
@[simp] theorem ad9:dA X 38 = false:=by kernel_rfl
@[simp] theorem ajl:gY X 38 = false:=by kernel_rfl
@[simp] theorem aoH:bP X 38 = true:=by kernel_rfl
@[simp] theorem ajm:bn X 38 = .gK:=by kernel_rfl
@[simp] theorem ajn:sizeT X 40 = 5:=by kernel_rfl
@[simp] theorem aea:bH X 40 = 72:=by kernel_rfl
@[simp] theorem aoI:okT X 40 = true:=by kernel_rfl
@[simp] theorem isAgg40:bG X 40 = true:=by kernel_rfl
@[simp] theorem aeb:cu X 40 = false:=by kernel_rfl
@[simp] theorem aec:dA X 40 = false:=by kernel_rfl
@[simp] theorem ajo:gY X 40 = false:=by kernel_rfl
@[simp] theorem aoJ:bP X 40 = true:=by kernel_rfl
@[simp] theorem ajp:bn X 40 = .agg (.pc [.ro 0 .pn 0,.int .i64 0,.ro 0 .pn 0,.int .i64 0,.int .i64 0]):=by kernel_rfl
@[simp] theorem acJ:und X 41 = .slice 53:=by kernel_rfl
@[simp] theorem ajq:sizeT X 41 = 1:=by kernel_rfl
@[simp] theorem aed:bH X 41 = 24:=by kernel_rfl
@[simp] theorem aoK:okT X 41 = true:=by kernel_rfl
@[simp] theorem isAgg41:bG X 41 = false:=by kernel_rfl
@[simp] theorem aee:cu X 41 = false:=by kernel_rfl
@[simp] theorem aef:dA X 41 = false:=by kernel_rfl
@[simp] theorem ajr:gY X 41 = false:=by kernel_rfl
@[simp] theorem aoL:bP X 41 = true:=by kernel_rfl
@[simp] theorem ajs:bn X 41 = .ro 0 .pn 0:=by kernel_rfl
@[simp] theorem aoM:und X 45 = .slice 69:=by kernel_rfl
@[simp] theorem ajt:sizeT X 45 = 1:=by kernel_rfl
@[simp] theorem aeg:bH X 45 = 24:=by kernel_rfl
@[simp] theorem aoN:okT X 45 = true:=by kernel_rfl
@[simp] theorem isAgg45:bG X 45 = false:=by kernel_rfl
@[simp] theorem aeh:cu X 45 = false:=by kernel_rfl
@[simp] theorem aei:dA X 45 = false:=by kernel_rfl
@[simp] theorem aju:gY X 45 = false:=by kernel_rfl
@[simp] theorem aoO:bP X 45 = true:=by kernel_rfl
@[simp] theorem ajv:bn X 45 = .ro 0 .pn 0:=by kernel_rfl
@[simp] theorem aoP:und X 47 = .pointer 51:=by kernel_rfl
@[simp] theorem ajw:sizeT X 47 = 1:=by kernel_rfl
@[simp] theorem aej:bH X 47 = 8:=by kernel_rfl
@[simp] theorem aoQ:okT X 47 = true:=by kernel_rfl
@[simp] theorem isAgg47:bG X 47 = false:=by kernel_rfl
@[simp] theorem aek:cu X 47 = false:=by kernel_rfl
@[simp] theorem ael:dA X 47 = false:=by kernel_rfl
@[simp] theorem ajx:gY X 47 = false:=by kernel_rfl
@[simp] theorem aoR:bP X 47 = true:=by kernel_rfl
@[simp] theorem ajy:bn X 47 = .gK:=by kernel_rfl
@[simp] theorem ajz:sizeT X 48 = 1:=by kernel_rfl
@[simp] theorem aem:bH X 48 = 0:=by kernel_rfl
@[simp] theorem aoS:okT X 48 = true:=by kernel_rfl
@[simp] theorem isAgg48:bG X 48 = false:=by kernel_rfl
@[simp] theorem aen:cu X 48 = false:=by kernel_rfl
@[simp] theorem aeo:dA X 48 = false:=by kernel_rfl
@[simp] theorem ajA:gY X 48 = false:=by kernel_rfl
@[simp] theorem aoT:bP X 48 = true:=by kernel_rfl
@[simp] theorem ajB:sizeT X 51 = 5:=by kernel_rfl
@[simp] theorem aep:bH X 51 = 72:=by kernel_rfl
@[simp] theorem aoU:okT X 51 = true:=by kernel_rfl
@[simp] theorem isAgg51:bG X 51 = true:=by kernel_rfl
@[simp] theorem aer:cu X 51 = false:=by kernel_rfl
@[simp] theorem aes:dA X 51 = false:=by kernel_rfl
@[simp] theorem ajC:gY X 51 = false:=by kernel_rfl
@[simp] theorem aoV:bP X 51 = true:=by kernel_rfl
@[simp] theorem ajD:bn X 51 = .agg (.pc [.ro 0 .pn 0,.int .i64 0,.int .i64 0,.ro 0 .pn 0,.int .i64 0]):=by kernel_rfl
@[simp] theorem aaB:sizeT X 53 = 4:=by kernel_rfl
@[simp] theorem aeu:bH X 53 = 32:=by kernel_rfl
@[simp] theorem aoW:okT X 53 = true:=by kernel_rfl
@[simp] theorem isAgg53:bG X 53 = true:=by kernel_rfl
@[simp] theorem aev:cu X 53 = false:=by kernel_rfl
@[simp] theorem aew:dA X 53 = false:=by kernel_rfl
@[simp] theorem ajE:gY X 53 = false:=by kernel_rfl
@[simp] theorem acK:bP X 53 = true:=by kernel_rfl
@[simp] theorem ajF:bn X 53 = .agg (.pc [.int .i64 0,.bool false,.int .i64 0,.int .i64 0]):=by kernel_rfl
@[simp] theorem Hg:und X 56 = .slice 3:=by kernel_rfl
@[simp] theorem ajG:sizeT X 56 = 1:=by kernel_rfl
@[simp] theorem aex:bH X 56 = 24:=by kernel_rfl
@[simp] theorem aoX:okT X 56 = true:=by kernel_rfl
@[simp] theorem isAgg56:bG X 56 = false:=by kernel_rfl
@[simp] theorem aey:cu X 56 = false:=by kernel_rfl
@[simp] theorem aez:dA X 56 = false:=by kernel_rfl
@[simp] theorem ajH:gY X 56 = false:=by kernel_rfl
@[simp] theorem aoY:bP X 56 = true:=by kernel_rfl
@[simp] theorem ajI:bn X 56 = .ro 0 .pn 0:=by kernel_rfl
@[simp] theorem ajJ:sizeT X 57 = 1:=by kernel_rfl
@[simp] theorem aeA:bH X 57 = 0:=by kernel_rfl
@[simp] theorem aoZ:okT X 57 = true:=by kernel_rfl
@[simp] theorem isAgg57:bG X 57 = false:=by kernel_rfl
@[simp] theorem aeB:cu X 57 = false:=by kernel_rfl
@[simp] theorem aeC:dA X 57 = false:=by kernel_rfl
@[simp] theorem ajK:gY X 57 = false:=by kernel_rfl
@[simp] theorem ao0:bP X 57 = true:=by kernel_rfl
@[simp] theorem ajL:sizeT X 60 = 1:=by kernel_rfl
@[simp] theorem aeD:bH X 60 = 0:=by kernel_rfl
@[simp] theorem ao1:okT X 60 = true:=by kernel_rfl
@[simp] theorem aeE:bG X 60 = false:=by kernel_rfl
@[simp] theorem aeF:cu X 60 = false:=by kernel_rfl
@[simp] theorem aeG:dA X 60 = false:=by kernel_rfl
@[simp] theorem ajM:gY X 60 = false:=by kernel_rfl
@[simp] theorem ao2:bP X 60 = true:=by kernel_rfl
@[simp] theorem ajN:sizeT X 62 = 1:=by kernel_rfl
@[simp] theorem aeH:bH X 62 = 0:=by kernel_rfl
@[simp] theorem ao3:okT X 62 = true:=by kernel_rfl
@[simp] theorem aeI:bG X 62 = false:=by kernel_rfl
@[simp] theorem aeJ:cu X 62 = false:=by kernel_rfl
@[simp] theorem aeK:dA X 62 = false:=by kernel_rfl
@[simp] theorem ajO:gY X 62 = false:=by kernel_rfl
@[simp] theorem ao4:bP X 62 = true:=by kernel_rfl
@[simp] theorem ao5:und X 64 = .pointer 66:=by kernel_rfl
@[simp] theorem ajP:sizeT X 64 = 1:=by kernel_rfl
@[simp] theorem aeL:bH X 64 = 8:=by kernel_rfl
@[simp] theorem ao6:okT X 64 = true:=by kernel_rfl
@[simp] theorem aeM:bG X 64 = false:=by kernel_rfl
@[simp] theorem aeN:cu X 64 = false:=by kernel_rfl
@[simp] theorem aeO:dA X 64 = false:=by kernel_rfl
@[simp] theorem ajQ:gY X 64 = false:=by kernel_rfl
@[simp] theorem ao7:bP X 64 = true:=by kernel_rfl
@[simp] theorem zero64:bn X 64 = .gK:=by kernel_rfl
@[simp] theorem ajR:sizeT X 66 = 2:=by kernel_rfl
@[simp] theorem aeP:bH X 66 = 32:=by kernel_rfl
@[simp] theorem ao8:okT X 66 = true:=by kernel_rfl
@[simp] theorem aeQ:bG X 66 = true:=by kernel_rfl
@[simp] theorem aeR:cu X 66 = false:=by kernel_rfl
@[simp] theorem aeS:dA X 66 = false:=by kernel_rfl
@[simp] theorem ajS:gY X 66 = false:=by kernel_rfl
@[simp] theorem ao9:bP X 66 = true:=by kernel_rfl
@[simp] theorem ajT:bn X 66 = .agg (.pc [.ro 0 .pn 0,.int .i64 0]):=by kernel_rfl
@[simp] theorem ajU:sizeT X 67 = 1:=by kernel_rfl
@[simp] theorem aeT:bH X 67 = 8:=by kernel_rfl
@[simp] theorem apa:okT X 67 = true:=by kernel_rfl
@[simp] theorem aeU:bG X 67 = false:=by kernel_rfl
@[simp] theorem aeV:cu X 67 = false:=by kernel_rfl
@[simp] theorem aeW:dA X 67 = false:=by kernel_rfl
@[simp] theorem ajV:gY X 67 = false:=by kernel_rfl
@[simp] theorem apb:bP X 67 = true:=by kernel_rfl
@[simp] theorem ajW:bn X 67 = .jE:=by kernel_rfl
@[simp] theorem ajX:sizeT X 69 = 3:=by kernel_rfl
@[simp] theorem aeX:bH X 69 = 24:=by kernel_rfl
@[simp] theorem apc:okT X 69 = true:=by kernel_rfl
@[simp] theorem aeY:bG X 69 = true:=by kernel_rfl
@[simp] theorem aeZ:cu X 69 = false:=by kernel_rfl
@[simp] theorem ae0:dA X 69 = false:=by kernel_rfl
@[simp] theorem ajY:gY X 69 = false:=by kernel_rfl
@[simp] theorem apd:bP X 69 = true:=by kernel_rfl
@[simp] theorem ajZ:bn X 69 = .agg (.pc [.int .i64 0,.int .i64 0,.int .u8 0]):=by kernel_rfl
@[simp] theorem aj0:sizeT X 70 = 1:=by kernel_rfl
@[simp] theorem ae1:bH X 70 = 0:=by kernel_rfl
@[simp] theorem ape:okT X 70 = true:=by kernel_rfl
@[simp] theorem ae2:bG X 70 = false:=by kernel_rfl
@[simp] theorem ae3:cu X 70 = false:=by kernel_rfl
@[simp] theorem ae4:dA X 70 = false:=by kernel_rfl
@[simp] theorem aj1:gY X 70 = false:=by kernel_rfl
@[simp] theorem apf:bP X 70 = true:=by kernel_rfl
@[simp] theorem apg:und X 72 = .map 73 56:=by kernel_rfl
@[simp] theorem aj2:sizeT X 72 = 1:=by kernel_rfl
@[simp] theorem ae5:bH X 72 = 8:=by kernel_rfl
@[simp] theorem aph:okT X 72 = true:=by kernel_rfl
@[simp] theorem ae6:bG X 72 = false:=by kernel_rfl
@[simp] theorem ae7:cu X 72 = false:=by kernel_rfl
@[simp] theorem ae8:dA X 72 = false:=by kernel_rfl
@[simp] theorem aj3:gY X 72 = false:=by kernel_rfl
@[simp] theorem apj:bP X 72 = true:=by kernel_rfl
@[simp] theorem aj6:bn X 72 = .iD:=by kernel_rfl
@[simp] theorem apk:und X 73 = .array 3 5:=by kernel_rfl
@[simp] theorem aj7:sizeT X 73 = 3:=by kernel_rfl
@[simp] theorem ae9:bH X 73 = 3:=by kernel_rfl
@[simp] theorem apl:okT X 73 = true:=by kernel_rfl
@[simp] theorem afa:bG X 73 = true:=by kernel_rfl
@[simp] theorem afb:cu X 73 = false:=by kernel_rfl
@[simp] theorem afc:dA X 73 = true:=by kernel_rfl
@[simp] theorem aj8:gY X 73 = false:=by kernel_rfl
@[simp] theorem apm:bP X 73 = true:=by kernel_rfl
@[simp] theorem aj9:bn X 73 = .agg (.pb [0,0,0]):=by kernel_rfl
@[simp] theorem akb:sizeT X 74 = 1:=by kernel_rfl
@[simp] theorem afd:bH X 74 = 8:=by kernel_rfl
@[simp] theorem apn:okT X 74 = true:=by kernel_rfl
@[simp] theorem afe:bG X 74 = false:=by kernel_rfl
@[simp] theorem aff:cu X 74 = false:=by kernel_rfl
@[simp] theorem afg:dA X 74 = false:=by kernel_rfl
@[simp] theorem akc:gY X 74 = false:=by kernel_rfl
@[simp] theorem apo:bP X 74 = true:=by kernel_rfl
@[simp] theorem akd:bn X 74 = .jE:=by kernel_rfl
@[simp] theorem ake:sizeT X 78 = 2:=by kernel_rfl
@[simp] theorem afh:bH X 78 = 48:=by kernel_rfl
@[simp] theorem apq:okT X 78 = true:=by kernel_rfl
@[simp] theorem afi:bG X 78 = true:=by kernel_rfl
@[simp] theorem afj:cu X 78 = false:=by kernel_rfl
@[simp] theorem afk:dA X 78 = false:=by kernel_rfl
@[simp] theorem akf:gY X 78 = false:=by kernel_rfl
@[simp] theorem apr:bP X 78 = true:=by kernel_rfl
@[simp] theorem akg:bn X 78 = .agg (.pc [.ro 0 .pn 0,.ro 0 .pn 0]):=by kernel_rfl
@[simp] theorem akh:sizeT X 80 = 1:=by kernel_rfl
@[simp] theorem afl:bH X 80 = 0:=by kernel_rfl
@[simp] theorem aps:okT X 80 = true:=by kernel_rfl
@[simp] theorem afm:bG X 80 = false:=by kernel_rfl
@[simp] theorem afn:cu X 80 = false:=by kernel_rfl
@[simp] theorem afo:dA X 80 = false:=by kernel_rfl
@[simp] theorem aki:gY X 80 = false:=by kernel_rfl
@[simp] theorem apt:bP X 80 = true:=by kernel_rfl
@[simp] theorem apu:und X 82 = .pointer 84:=by kernel_rfl
@[simp] theorem akj:sizeT X 82 = 1:=by kernel_rfl
@[simp] theorem afp:bH X 82 = 8:=by kernel_rfl
@[simp] theorem apv:okT X 82 = true:=by kernel_rfl
@[simp] theorem afq:bG X 82 = false:=by kernel_rfl
@[simp] theorem afr:cu X 82 = false:=by kernel_rfl
@[simp] theorem afs:dA X 82 = false:=by kernel_rfl
@[simp] theorem akk:gY X 82 = false:=by kernel_rfl
@[simp] theorem apw:bP X 82 = true:=by kernel_rfl
@[simp] theorem akl:bn X 82 = .gK:=by kernel_rfl
@[simp] theorem akm:sizeT X 84 = 2:=by kernel_rfl
@[simp] theorem aft:bH X 84 = 32:=by kernel_rfl
@[simp] theorem apx:okT X 84 = true:=by kernel_rfl
@[simp] theorem afu:bG X 84 = true:=by kernel_rfl
@[simp] theorem afv:cu X 84 = false:=by kernel_rfl
@[simp] theorem afw:dA X 84 = false:=by kernel_rfl
@[simp] theorem akn:gY X 84 = false:=by kernel_rfl
@[simp] theorem apy:bP X 84 = true:=by kernel_rfl
@[simp] theorem ako:bn X 84 = .agg (.pc [.ro 0 .pn 0,.int .i64 0]):=by kernel_rfl
@[simp] theorem akp:sizeT X 85 = 1:=by kernel_rfl
@[simp] theorem afx:bH X 85 = 0:=by kernel_rfl
@[simp] theorem apz:okT X 85 = true:=by kernel_rfl
@[simp] theorem afy:bG X 85 = false:=by kernel_rfl
@[simp] theorem afz:cu X 85 = false:=by kernel_rfl
@[simp] theorem afA:dA X 85 = false:=by kernel_rfl
@[simp] theorem akq:gY X 85 = false:=by kernel_rfl
@[simp] theorem apA:bP X 85 = true:=by kernel_rfl
@[simp] theorem apB:und X 90 = .array 19 3:=by kernel_rfl
@[simp] theorem akr:sizeT X 90 = 19:=by kernel_rfl
@[simp] theorem afB:bH X 90 = 152:=by kernel_rfl
@[simp] theorem apC:okT X 90 = true:=by kernel_rfl
@[simp] theorem afC:bG X 90 = true:=by kernel_rfl
@[simp] theorem afD:cu X 90 = false:=by kernel_rfl
@[simp] theorem afE:dA X 90 = true:=by kernel_rfl
@[simp] theorem aks:gY X 90 = false:=by kernel_rfl
@[simp] theorem apD:bP X 90 = true:=by kernel_rfl
@[simp] theorem akt:bn X 90 = .agg (.pi .i64 [0,0,0,0,0,0,0,0,0,0,0,0,0,0,0,0,0,0,0]):=by kernel_rfl
@[simp] theorem aku:sizeT X 91 = 1:=by kernel_rfl
@[simp] theorem afF:bH X 91 = 0:=by kernel_rfl
@[simp] theorem apE:okT X 91 = true:=by kernel_rfl
@[simp] theorem afG:bG X 91 = false:=by kernel_rfl
@[simp] theorem afH:cu X 91 = false:=by kernel_rfl
@[simp] theorem afI:dA X 91 = false:=by kernel_rfl
@[simp] theorem akv:gY X 91 = false:=by kernel_rfl
@[simp] theorem apF:bP X 91 = true:=by kernel_rfl
@[simp] theorem apG:und X 96 = .array 16 3:=by kernel_rfl
@[simp] theorem akw:sizeT X 96 = 16:=by kernel_rfl
@[simp] theorem afJ:bH X 96 = 128:=by kernel_rfl
@[simp] theorem apH:okT X 96 = true:=by kernel_rfl
@[simp] theorem afK:bG X 96 = true:=by kernel_rfl
@[simp] theorem afL:cu X 96 = false:=by kernel_rfl
@[simp] theorem afM:dA X 96 = true:=by kernel_rfl
@[simp] theorem akx:gY X 96 = false:=by kernel_rfl
@[simp] theorem apI:bP X 96 = true:=by kernel_rfl
@[simp] theorem aky:bn X 96 = .agg (.pi .i64 [0,0,0,0,0,0,0,0,0,0,0,0,0,0,0,0]):=by kernel_rfl
@[simp] theorem akz:sizeT X 97 = 1:=by kernel_rfl
@[simp] theorem afN:bH X 97 = 0:=by kernel_rfl
@[simp] theorem apJ:okT X 97 = true:=by kernel_rfl
@[simp] theorem afO:bG X 97 = false:=by kernel_rfl
@[simp] theorem afP:cu X 97 = false:=by kernel_rfl
@[simp] theorem afQ:dA X 97 = false:=by kernel_rfl
@[simp] theorem akA:gY X 97 = false:=by kernel_rfl
@[simp] theorem apK:bP X 97 = true:=by kernel_rfl
@[simp] theorem apL:und X 99 = .array 17 3:=by kernel_rfl
@[simp] theorem akB:sizeT X 99 = 17:=by kernel_rfl
@[simp] theorem afR:bH X 99 = 136:=by kernel_rfl
@[simp] theorem apM:okT X 99 = true:=by kernel_rfl
@[simp] theorem afS:bG X 99 = true:=by kernel_rfl
@[simp] theorem afT:cu X 99 = false:=by kernel_rfl
@[simp] theorem afU:dA X 99 = true:=by kernel_rfl
@[simp] theorem akC:gY X 99 = false:=by kernel_rfl
@[simp] theorem apN:bP X 99 = true:=by kernel_rfl
@[simp] theorem akD:bn X 99 = .agg (.pi .i64 [0,0,0,0,0,0,0,0,0,0,0,0,0,0,0,0,0]):=by kernel_rfl
@[simp] theorem afV:sizeT X 105 = 1:=by kernel_rfl
@[simp] theorem acU:bH X 105 = 0:=by kernel_rfl
@[simp] theorem akE:okT X 105 = true:=by kernel_rfl
@[simp] theorem acV:bG X 105 = false:=by kernel_rfl
@[simp] theorem acW:cu X 105 = false:=by kernel_rfl
@[simp] theorem acX:dA X 105 = false:=by kernel_rfl
@[simp] theorem afW:gY X 105 = false:=by kernel_rfl
@[simp] theorem akF:bP X 105 = true:=by kernel_rfl
@[simp] theorem akG:und X 107 = .array 2 3:=by kernel_rfl
@[simp] theorem afX:sizeT X 107 = 2:=by kernel_rfl
@[simp] theorem acY:bH X 107 = 16:=by kernel_rfl
@[simp] theorem akH:okT X 107 = true:=by kernel_rfl
@[simp] theorem acZ:bG X 107 = true:=by kernel_rfl
@[simp] theorem ac0:cu X 107 = false:=by kernel_rfl
@[simp] theorem ac1:dA X 107 = true:=by kernel_rfl
@[simp] theorem afY:gY X 107 = false:=by kernel_rfl
@[simp] theorem akI:bP X 107 = true:=by kernel_rfl
@[simp] theorem afZ:bn X 107 = .agg (.pi .i64 [0,0]):=by kernel_rfl
@[simp] theorem akJ:und X 108 = .array 29 107:=by kernel_rfl
@[simp] theorem af0:sizeT X 108 = 58:=by kernel_rfl
@[simp] theorem ac2:bH X 108 = 464:=by kernel_rfl
@[simp] theorem akK:okT X 108 = true:=by kernel_rfl
@[simp] theorem ac3:bG X 108 = true:=by kernel_rfl
@[simp] theorem ac4:cu X 108 = false:=by kernel_rfl
@[simp] theorem ac5:dA X 108 = true:=by kernel_rfl
@[simp] theorem af2:gY X 108 = false:=by kernel_rfl
@[simp] theorem akL:bP X 108 = true:=by kernel_rfl
@[simp] theorem af4:bn X 108 = .agg (.pr 2 [.pc [.int .i64 0,.int .i64 0],.pc [.int .i64 0,.int .i64 0],.pc [.int .i64 0,.int .i64 0],.pc [.int .i64 0,.int .i64 0],.pc [.int .i64 0,.int .i64 0],.pc [.int .i64 0,.int .i64 0],.pc [.int .i64 0,.int .i64 0],.pc [.int .i64 0,.int .i64 0],.pc [.int .i64 0,.int .i64 0],.pc [.int .i64 0,.int .i64 0],.pc [.int .i64 0,.int .i64 0],.pc [.int .i64 0,.int .i64 0],.pc [.int .i64 0,.int .i64 0],.pc [.int .i64 0,.int .i64 0],.pc [.int .i64 0,.int .i64 0],.pc [.int .i64 0,.int .i64 0],.pc [.int .i64 0,.int .i64 0],.pc [.int .i64 0,.int .i64 0],.pc [.int .i64 0,.int .i64 0],.pc [.int .i64 0,.int .i64 0],.pc [.int .i64 0,.int .i64 0],.pc [.int .i64 0,.int .i64 0],.pc [.int .i64 0,.int .i64 0],.pc [.int .i64 0,.int .i64 0],.pc [.int .i64 0,.int .i64 0],.pc [.int .i64 0,.int .i64 0],.pc [.int .i64 0,.int .i64 0],.pc [.int .i64 0,.int .i64 0],.pc [.int .i64 0,.int .i64 0]]):=by kernel_rfl
@[simp] theorem af5:sizeT X 110 = 1:=by kernel_rfl
@[simp] theorem ac6:bH X 110 = 8:=by kernel_rfl
@[simp] theorem akM:okT X 110 = true:=by kernel_rfl
@[simp] theorem ac7:bG X 110 = false:=by kernel_rfl
@[simp] theorem ac8:cu X 110 = false:=by kernel_rfl
@[simp] theorem ac9:dA X 110 = false:=by kernel_rfl
@[simp] theorem af6:gY X 110 = false:=by kernel_rfl
@[simp] theorem akN:bP X 110 = true:=by kernel_rfl
@[simp] theorem af7:bn X 110 = .jE:=by kernel_rfl
@[simp] theorem akO:und X 112 = .array 16 56:=by kernel_rfl
@[simp] theorem af8:sizeT X 112 = 16:=by kernel_rfl
@[simp] theorem ada:bH X 112 = 384:=by kernel_rfl
@[simp] theorem akP:okT X 112 = true:=by kernel_rfl
@[simp] theorem adb:bG X 112 = true:=by kernel_rfl
@[simp] theorem ade:cu X 112 = false:=by kernel_rfl
@[simp] theorem adf:dA X 112 = true:=by kernel_rfl
@[simp] theorem af9:gY X 112 = false:=by kernel_rfl
@[simp] theorem akQ:bP X 112 = true:=by kernel_rfl
@[simp] theorem aga:bn X 112 = .agg (.pc [.ro 0 .pn 0,.ro 0 .pn 0,.ro 0 .pn 0,.ro 0 .pn 0,.ro 0 .pn 0,.ro 0 .pn 0,.ro 0 .pn 0,.ro 0 .pn 0,.ro 0 .pn 0,.ro 0 .pn 0,.ro 0 .pn 0,.ro 0 .pn 0,.ro 0 .pn 0,.ro 0 .pn 0,.ro 0 .pn 0,.ro 0 .pn 0]):=by kernel_rfl
@[simp] theorem akR (H:AM.Heap) (x:AV):bF X H 40 x 0 = faV H x 0:=bM (ty:=22) (by kernel_rfl) (by kernel_rfl) H x
@[simp] theorem akS (x:AV):gG X 40 x 0 = fvV X x 0 22:=fC (by kernel_rfl) x
@[simp] theorem akT (H:AM.Heap) (x:AV):bF X H 40 x 1 = faV H x 1:=bM (ty:=3) (by kernel_rfl) (by kernel_rfl) H x
@[simp] theorem akU (x:AV):gG X 40 x 1 = fvV X x 1 3:=fC (by kernel_rfl) x
@[simp] theorem akV (H:AM.Heap) (x:AV):bF X H 40 x 2 = faV H x 2:=bM (ty:=22) (by kernel_rfl) (by kernel_rfl) H x
@[simp] theorem akW (x:AV):gG X 40 x 2 = fvV X x 2 22:=fC (by kernel_rfl) x
@[simp] theorem akX (H:AM.Heap) (x:AV):bF X H 40 x 3 = faV H x 3:=bM (ty:=3) (by kernel_rfl) (by kernel_rfl) H x
@[simp] theorem akY (x:AV):gG X 40 x 3 = fvV X x 3 3:=fC (by kernel_rfl) x
@[simp] theorem akZ (H:AM.Heap) (x:AV):bF X H 40 x 4 = faV H x 4:=bM (ty:=23) (by kernel_rfl) (by kernel_rfl) H x
@[simp] theorem ak0 (x:AV):gG X 40 x 4 = fvV X x 4 23:=fC (by kernel_rfl) x
@[simp] theorem ak1 (H:AM.Heap) (x:AV):bF X H 51 x 0 = faV H x 0:=bM (ty:=22) (by kernel_rfl) (by kernel_rfl) H x
@[simp] theorem ak2 (x:AV):gG X 51 x 0 = fvV X x 0 22:=fC (by kernel_rfl) x
@[simp] theorem ak3 (H:AM.Heap) (x:AV):bF X H 51 x 1 = faV H x 1:=bM (ty:=3) (by kernel_rfl) (by kernel_rfl) H x
@[simp] theorem ak4 (x:AV):gG X 51 x 1 = fvV X x 1 3:=fC (by kernel_rfl) x
@[simp] theorem ak5 (H:AM.Heap) (x:AV):bF X H 51 x 2 = faV H x 2:=bM (ty:=23) (by kernel_rfl) (by kernel_rfl) H x
@[simp] theorem ak6 (x:AV):gG X 51 x 2 = fvV X x 2 23:=fC (by kernel_rfl) x
@[simp] theorem ak7 (H:AM.Heap) (x:AV):bF X H 51 x 3 = faV H x 3:=bM (ty:=22) (by kernel_rfl) (by kernel_rfl) H x
@[simp] theorem ak8 (x:AV):gG X 51 x 3 = fvV X x 3 22:=fC (by kernel_rfl) x
@[simp] theorem ak9 (H:AM.Heap) (x:AV):bF X H 51 x 4 = faV H x 4:=bM (ty:=3) (by kernel_rfl) (by kernel_rfl) H x
@[simp] theorem ala (x:AV):gG X 51 x 4 = fvV X x 4 3:=fC (by kernel_rfl) x
@[simp] theorem alb (H:AM.Heap) (x:AV):bF X H 53 x 0 = faV H x 0:=bM (ty:=3) (by kernel_rfl) (by kernel_rfl) H x
@[simp] theorem alc (x:AV):gG X 53 x 0 = fvV X x 0 3:=fC (by kernel_rfl) x
@[simp] theorem ald (H:AM.Heap) (x:AV):bF X H 53 x 1 = faV H x 1:=bM (ty:=4) (by kernel_rfl) (by kernel_rfl) H x
@[simp] theorem ale (x:AV):gG X 53 x 1 = fvV X x 1 4:=fC (by kernel_rfl) x
@[simp] theorem alf (H:AM.Heap) (x:AV):bF X H 53 x 3 = faV H x 3:=bM (ty:=3) (by kernel_rfl) (by kernel_rfl) H x
@[simp] theorem alg (x:AV):gG X 53 x 3 = fvV X x 3 3:=fC (by kernel_rfl) x
@[simp] theorem alh (H:AM.Heap) (x:AV):bF X H 66 x 0 = faV H x 0:=bM (ty:=22) (by kernel_rfl) (by kernel_rfl) H x
@[simp] theorem ali (x:AV):gG X 66 x 0 = fvV X x 0 22:=fC (by kernel_rfl) x
@[simp] theorem alj (H:AM.Heap) (x:AV):bF X H 66 x 1 = faV H x 1:=bM (ty:=3) (by kernel_rfl) (by kernel_rfl) H x
@[simp] theorem alk (x:AV):gG X 66 x 1 = fvV X x 1 3:=fC (by kernel_rfl) x
@[simp] theorem alm (H:AM.Heap) (x:AV):bF X H 69 x 0 = faV H x 0:=bM (ty:=3) (by kernel_rfl) (by kernel_rfl) H x
@[simp] theorem aln (x:AV):gG X 69 x 0 = fvV X x 0 3:=fC (by kernel_rfl) x
@[simp] theorem alo (H:AM.Heap) (x:AV):bF X H 69 x 1 = faV H x 1:=bM (ty:=3) (by kernel_rfl) (by kernel_rfl) H x
@[simp] theorem alp (x:AV):gG X 69 x 1 = fvV X x 1 3:=fC (by kernel_rfl) x
@[simp] theorem alq (H:AM.Heap) (x:AV):bF X H 69 x 2 = faV H x 2:=bM (ty:=5) (by kernel_rfl) (by kernel_rfl) H x
@[simp] theorem alr (x:AV):gG X 69 x 2 = fvV X x 2 5:=fC (by kernel_rfl) x
@[simp] theorem als (H:AM.Heap) (x:AV):bF X H 78 x 0 = faV H x 0:=bM (ty:=56) (by kernel_rfl) (by kernel_rfl) H x
@[simp] theorem alu (x:AV):gG X 78 x 0 = fvV X x 0 56:=fC (by kernel_rfl) x
@[simp] theorem alv (H:AM.Heap) (x:AV):bF X H 78 x 1 = faV H x 1:=bM (ty:=56) (by kernel_rfl) (by kernel_rfl) H x
@[simp] theorem alx (x:AV):gG X 78 x 1 = fvV X x 1 56:=fC (by kernel_rfl) x
@[simp] theorem aly (H:AM.Heap) (x:AV):bF X H 84 x 0 = faV H x 0:=bM (ty:=22) (by kernel_rfl) (by kernel_rfl) H x
@[simp] theorem alz (x:AV):gG X 84 x 0 = fvV X x 0 22:=fC (by kernel_rfl) x
@[simp] theorem alA (H:AM.Heap) (x:AV):bF X H 84 x 1 = faV H x 1:=bM (ty:=3) (by kernel_rfl) (by kernel_rfl) H x
@[simp] theorem alB (x:AV):gG X 84 x 1 = fvV X x 1 3:=fC (by kernel_rfl) x
end Go.Proofs.Ytcllinmgllmpmaa
