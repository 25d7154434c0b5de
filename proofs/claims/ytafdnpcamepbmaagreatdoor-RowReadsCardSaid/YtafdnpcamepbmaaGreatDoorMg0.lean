/- X to X: texts of this claim, one behind the other; what each shows stands at its head. -/
import Derived.Test.YtafdnpcamepbmaaGreatDoorRows
import Derived.Test.YtafdnpcamepbmaaGreatDoorAm3
set_option linter.unusedSimpArgs false
set_option linter.unusedVariables false
set_option maxRecDepth 100000
set_option maxHeartbeats 8000000
namespace Go.Proofs.YtafdnpcamepbmaaGreatDoor
open Go.AM
def keepT:List (List (List Nat)):=[[],[],[[]],[[0,1,2],[0,1,2,17],[6],[0,1,2,25],[6],[0,1,2,7],[0,1,2,7,8,9],[0,2,7,8,9,10,11],[0,2,7,48],[6],[0,2,7,8,9],[0,2,7,8,9,10,11],[0,2,7,8,9,10,11,12,13],[0,7,8,9,10,11,12,13,14,15],[6]],[[],[1,2],[1,2,3,4],[0]],[[0],[2]],[[0,1],[0,1,15],[4,5],[0,1,6],[0,6,16,17],[0,6,16,17,18],[0,6,16,17,27],[0,6,16,17],[0,6,7,8,9,16,17],[0,6,7,8,9,16,17,41],[4,5],[0,6,7,8,16,17,45],[4,5],[0,6,16,17],[0,6,16,17],[6,57],[4,5],[4,5]],[[0,1],[0,1,15],[4,5],[1,6],[1,6,7],[1,6,7,8],[1,6,7,8,28],[1,6,7,8],[1,6,7,8,45],[1,6,7,8],[1,6,7,8],[1,6,7,8,9],[1,6,7,8,9],[1,6,7,8],[6,7,66],[4,5],[4,5]],[[0,1],[0,1,10],[4],[0,1,5],[0,1,5,14],[0,1,5],[0,1,5,25],[4],[4]],[[1,2],[1,2,24],[4,5],[1,2,25,26,27],[1,2,25,26,27,28],[1,2,7,25,26,27],[1,2,25,26,27,33],[4,5],[1,2,25,26,27],[1,2,8],[1,2,8,9,10],[1,2,8,9,10,41],[4,5],[1,2,8,45],[4,5],[1,2,10,11],[1,2,10,11,60],[4,5],[1,2,11,12],[1,2,12,65,66],[1,2,12,65,66,67],[1,2,12,13,65,66],[1,2,12,65,66,82],[4,5],[1,2,12,65,66],[1,2,12,84,85,86],[1,2,12,84,85,86,87],[1,2,12,14,15,84,85,86],[1,2,12,84,85,86,100],[4,5],[1,2,12,84,85,86],[1,2,12,16],[2,12,16,102,103,104],[2,12,16,102,103,104,105],[2,12,16,17,18,102,103,104],[2,12,16,18,102,103,104,112],[2,12,16,102,103,104],[2,12,16,19,20,21,102,103,104],[2,12,16,19,20,21,102,103,104,125],[4,5],[2,12,16,102,103,104],[2,12,16,102,103,104],[16,137],[4,5],[4,5]],[[0,1],[0,1,14],[4,5],[0,1,6],[0,1,6,18],[0,1,6],[0,1,6,26],[4,5],[1,7],[1,7],[1,7,8],[1,7,8],[1,7,8,9],[1,7,8,9,47],[1,7,8,9],[1,7,8,9],[1,7,8,10],[1,7,8,10,11],[1,7,8,10,11,83],[1,7,8,10,11],[1,7,8,10,11,98],[1,7,8,10,11],[1,7,8,10,11],[7,10,114],[4,5],[4,5]],[[0,1],[1,6,7],[1,6,7,19],[4,5],[6,21,22,23],[6,21,22,23,24],[6,8,9,21,22,23],[6,8,9,21,22,23,35],[4,5],[6,8,9,21,22,23,41],[6,8,10,21,22,23],[6,21,22,23],[6,21,22,23],[4,5]],[[0,1],[1,6,7],[1,6,7,19],[4,5],[1,6,8],[1,6,8,9],[1,6,8,9,24],[1,6,8,9],[1,6,8,9,40],[4,5],[1,6,8,9,46],[1,6,8,9],[1,6,8,9,10],[1,6,8,9],[4,5]],[[0,1],[4]],[[0,1],[0,1,18],[4],[5],[5,6],[5,6,33],[5,6],[5,6,40],[4],[4]],[[0,1],[0,1,13],[4,5],[0,1,14,15,16],[0,1,14,15,16,17],[0,1,7,14,15,16],[0,1,14,15,16,23],[4,5],[0,1,14,15,16],[1,8],[8,27,28,29],[8,27,28,29,30],[8,10,27,28,29],[8,10,27,28,29,35],[8,27,28,29],[8,27,28,29],[8,27,28,29],[4,5]],[[0,1,2],[0,1,2,17],[6,7],[0,1,2,22],[6,7],[0,1,2,23,24,25],[0,1,2,23,24,25,26],[0,1,2,8,9,23,24,25],[0,1,2,23,24,25,36],[6,7],[0,1,2,23,24,25],[1,2,10],[1,2,10,11],[1,2,10,11,12],[2,10,11,12,47,48,49],[2,10,11,12,47,48,49,50],[2,10,11,12,13,14,47,48,49],[2,10,11,12,13,14,47,48,49,56],[2,10,11,12,47,48,49],[2,10,11,12,47,48,49],[2,10,11,12,47,48,49],[6,7]],[[0],[0,3,4,5],[0,3,4,5,13],[2,3,4],[0,3,5,21],[2,3,4],[2,3,4]],[[0],[2]],[[0],[0,10],[2],[0,3,4,5],[0,3,4],[3],[2]],[[0,11],[]],[[0],[0],[2]],[[1],[1,4],[1,4,5],[1,4,5],[1,4,5],[1,4,5],[1,4,5],[1,4,5],[13],[2],[2],[1,4,14],[2],[1,4,16],[2],[1,4,18],[1,4,18],[1,4,18],[2],[1,4,22],[2],[1,24],[2],[28],[2],[2]],[[0,1],[0,1,9],[3,4],[0,1,5],[5],[3,4]],[[0,1],[3]],[[0,3,4],[0,3,4,7],[0,3,4,7,19],[0,3,4,7,19,20],[4,5,6],[0,3,4,7,19,23],[4,5,6],[0,3,4,7,19,26],[0,3,4,7,19,26],[4,7,8,9,10],[4,7,8,9,10,38],[4,5,6],[4,5,6],[0,3,4,7,45],[4,7,11,12,13],[4,7,11,12,13,53],[4,5,6],[4,7,11,12,58],[4,5,6],[4,5,6],[0,4,7,14],[4,6,7,14,15],[4,6,7,14,15,77],[4,5,6],[4,7,14,15,81],[4,7,14,15,16],[4,5,6],[4,5,6]],[[1],[1,6],[2],[1,8],[1,8,9],[1,8,9],[1,8,9],[1,8,9],[1,8,9],[1,8,9],[17],[2],[2],[8,18],[2],[8,20],[2],[8,22],[8,22],[8,22],[2],[8,26],[2],[28],[2],[2]],[[0,1,4],[0,1,4,5],[0,1,4,5,6],[0,1,4,5,6,12],[0,1,4,5,6],[0,1,4,5,6],[]],[[0,1],[0,1,19],[0,1],[0,1,27],[4],[0,1,5],[5],[4]],[[0,1,2],[0,1,2,7],[0,1,2,7,12],[0,1,2,7],[0,1,2,7,37],[6],[6]],[[0,3,4],[0,3,4,12],[4],[0,4,5,6,7],[0,4,5,6],[4,5],[4]],[[2,3],[2,3,6],[2,3,6,11],[4,5],[2,3,14],[2,3,14,15],[4,5],[2,3,14,20],[4,5],[2,3,14,25],[2,3,14,25],[4,5],[2,33],[4,5],[4,5]],[[2,3],[2,3,11],[4,5],[2,3,13],[2,3,13,14],[2,18],[4,5],[4,5],[2,3,13,31],[4,5],[2,3,13,36],[2,3,6],[2,6,59],[6],[4,5],[2,13,73],[2,7],[7,91],[7],[4,5],[2,95],[4,5],[4,5]],[[0,1],[0,1,10],[4,5],[1,6],[1,6,7],[1,6,7,17],[1,6,7],[1,6,7,26],[4,5],[1,6,7,32],[1,6,7],[1,6,7],[4,5]],[[2,3],[2,3,5],[2,3,5,11],[4],[2,3,5,14],[4],[2,3,5,6],[2,3,5,6,7],[2,3,5,6,7,24],[2,3,5,6,7,24,25],[6],[2,3,5,6,7,24,27],[6],[2,3,5,6,7,24,60],[2,3,5,6,7,24,60],[2,3,5,6,7,24,60],[6],[2,3,5,6,24,84],[2,3,5,6,24,84],[6],[2,5,6,103],[6],[121],[4],[4]],[[0],[0]],[[0],[0,4],[2],[2]],[[0,1],[4]],[[0,4,5],[0,4,5,8],[0,4,5,24],[6,7],[4,5,9],[4,5,9,28],[4,5,9,28,29],[6,7],[4,5,9,28,39],[4,5,9,28,39],[4,5,9,28,39],[6,7],[4,5,9,28,50],[4,5,9,28,50],[6,7],[4,9,59],[6,7],[6,7]],[[0],[0,8],[2,3,4],[0],[0,11],[2,3,4],[0,11,16],[0,5],[0,11,18],[0,5],[0,11,20],[0,5],[0,11,22],[0,22],[2,3,4],[2,4,5],[2,4,5,33],[2,3,4],[2,3,4]],[[0],[0,5,6,7],[0,5,6,7,15],[2,3,4],[0,5,6,23],[2,3,4],[2,3,4]],[[0],[2]],[[0,1,4],[0,1,4,7],[0,1,4,7,17],[4,5,6],[0,1,4,7,8],[0,1,4,7,8,9],[0,1,4,7,8,9,25],[0,1,4,7,8,9],[0,1,4,7,8,9,10],[0,1,4,7,8,10,27,28,29],[0,1,4,7,8,10,27,28,29,30],[0,1,4,7,8,10,12,27,28,29],[0,1,4,7,8,10,27,28,29],[0,1,4,7,8,10,27,28,29],[0,1,4,7,8,41],[4,5,6],[0,1,4,7,8,47],[4,5,6],[0,1,4,7,8,13],[1,4,7,8,13],[1,4,7,8,13,14],[1,4,7,8,13,14,58],[1,4,7,8,13,14,62],[4,5,6],[1,4,7,8],[1,4,7,8],[4,7,8,97],[4,5,6],[4,5,6]],[[0],[3],[3,4],[2],[3,6],[3,6],[2],[3,9],[3,9],[3,9],[2],[3,13],[13],[2],[2]],[[0,1],[0,1,13],[4,5],[0,1,17],[4,5],[0,1,6],[0,6,18,19],[0,6,18,19,20],[0,6,7,18,19],[0,6,18,19],[0,6,18,19],[4,5]],[[0],[2]],[[0,3,4],[0,3,4,7],[0,3,4,7,15],[4,5,6],[0,3,4,7,8],[0,3,4,7,8,9],[0,3,4,7,8,9,10],[0,3,4,8,9,10,25],[0,3,4,8,9,10,25,26],[0,4,8,9,10,11],[0,4,8,9],[0,3,4,8,9,10,25,44],[0,3,4,8,9,10,25,44],[0,3,4,8,9,10,25,44],[0,4,8,9],[0,3,4,8,9,25,52],[0,3,4,8,9,25,52],[0,4,8,9],[0,4,8,9,60],[0,4,8,9],[0,4,8,9],[0,4,8,9,75],[4,5,6],[4,5,6]],[[0,1],[4]],[[0,1],[4]],[[1,2],[1,2,5],[1,2,5,22],[2,5,6],[2,5,6,24],[2,5,6],[4],[1,2,5,7],[2,5,7,50],[4],[4]],[[2,3],[2,3,5],[2,3,6],[2,3,6,7],[2,3,6,7,81],[2,3,6,7],[2,3,6,7,82],[4],[2,3,6,7,84],[2,3,6,7,84,85],[6],[2,3,6,7,84,105],[2,3,6,7,84,105],[2,3,6,7,84,105],[6],[2,3,6,84,118],[2,3,6,84,118],[6],[2,6,127],[6],[133],[4],[4]],[[0,1],[0,1,5],[0,1,5,13],[0,1,5],[0,1,5],[4]],[[1],[1,3],[1,3,17],[3],[2]],[[0],[0]],[[0,1],[4]],[[1,2],[1,2,7],[4],[1,2,9],[4],[1,2,52],[4],[4]],[[0,1],[0,1,5,6],[1,5,6,7],[1,5,6,7,16],[1,6,7],[7],[4]],[[0,1,2],[0,1,8,9],[0,1,8,9,10],[0,1,7,8,9],[0,1,8,9],[0,1,8,9],[6]],[[0,2,4],[0,4,10],[0,4],[0,4,14],[6],[0,4,21],[0,4],[0,4,7],[0,4,7,29],[0,4,7],[0,4],[0,4],[0,4,8],[0,4,8,50],[6],[0,4,8,57],[0,4,8],[0,4,8,67],[0,4,8],[0,4,8],[0,4,88],[0,4],[0,4,103],[0],[6]],[[0],[0,10],[2,3,4],[0,14],[2,3,4],[0,28],[2,3,4],[0,5],[0,5,37],[0,5],[5,6,7],[5,6,7,46],[2,3,4],[2,3,4]],[[0],[0]],[[0,1,2],[6],[5]],[[0],[0,3],[0,3,9],[2],[0,14],[0,14,15],[2],[0,17],[2],[0,3],[0,3,21],[2],[2]],[[0],[3],[3,4],[2],[3,6],[3,6],[2],[3,9],[3,9],[9],[2],[2]],[[0,1],[5],[4]],[[0,1,4],[0,1,4,5],[0,1,4,5,6],[0,1,4,5,6,13],[0,1,4,5,6],[0,1,4,5,6,34],[0,1,4,5,6,7],[0,1,4,5,6,7],[0,1,4,5,6,7],[0,1,4,6,7],[0,1,4,6],[0,1,4,5,6],[0,1,4,5,6,77],[0,1,4,5,6],[0,1,4,5,6],[0,1,4,5,6],[0,1,4,5,6,98],[0,1,4,6],[4,6],[4]],[[0,1],[0,1,11],[0,17],[4],[0,5],[0,5,6],[0,5,6,23],[0,5,6],[0,5,6,7],[0,5,7],[5,7,34],[5,7],[4],[4],[9],[4]],[[0,1],[0,1,10],[0,12],[4],[0,5],[0,5,6],[5,6],[4],[8],[4]],[[0,1],[1,5],[4]],[[0],[0,4],[2],[2]],[[1,2],[1,2,7],[4],[1,2,9],[4],[4]],[[0,1],[0,1,5],[1,5,6],[1,5,6,14],[4],[1,5,6,7],[1,5,6,7,21],[1,5,6,7],[6],[4]],[[1],[2]],[[0,1,2],[6]],[[0],[0,4],[2,3],[0,7],[2,3],[10],[2,3],[2,3]],[[0,1,2],[0,1,2,26],[6,7],[1,2,8],[1,8,29,30],[1,8,29,30,31],[1,8,9,29,30],[1,8,29,30],[1,8,29,30],[6,7]],[[0,1],[0,1,13],[4,5],[0,1,17],[4,5],[0,1,6],[0,1,6,7],[0,1,6,7,20],[0,1,6,7],[0,1,6,7],[4,5]],[[0,2,4,6],[0,2,4,6],[0,2,4,6],[0,2,4,6],[0,4,6,19],[4,6],[6]],[[0],[0,4],[2],[2]],[[0],[0,3],[2]],[[0,1,4],[0,1,4,20],[0,1,4,5],[0,1,4,5],[0,1,4,6,7],[0,1,4,6,8,9],[0,1,4,8,9,10,11],[0,1,4,8,10,11],[0,1,4,10,11],[0,1,4,10],[0,1,4],[0,1,4],[0,4,12],[0,4,12,99],[0,4,12,13],[0,4,12,13],[0,4,12,14,15],[0,4,12,14],[0,4,12],[0,4,12],[0,4,12,139],[0,4,12,16],[0,4,12,16],[0,4,12],[0,4,12],[0,12,161],[]],[[0,1,2,3,4,10,11],[0,1,2,3,4,10,11,28],[0,1,2,3,4,10,11],[0,1,2,3,4,10,11,12],[0,1,2,3,4,10,11,12,13],[0,1,2,3,4,10,11,12,13,30],[0,1,2,3,4,10,11,12,13],[0,1,2,3,4,10,11,12,13,34],[0,1,2,3,4,10,11,12,13,14],[0,1,2,3,4,10,11,12,13,14,15],[0,1,3,4,10,11,12,13,14,15,16],[0,1,3,4,10,11,12,13,14,15,16,46],[0,1,3,4,10,11,12,13,14,15,16],[0,1,3,4,10,11,12,13,14,15,16],[0,1,3,4,10,11,12,13,14,15,16],[0,1,3,4,10,11,12,13],[0,3,4,10,11,12,13],[0,1,3,4,10,11,12,13,17],[0,1,3,4,10,11,12,13,17,68],[0,1,3,4,10,11,12,13,17],[0,1,3,4,10,11,12,13,17,18],[0,3,4,10,11,12,13,17,18],[0,1,3,4,10,11,12,13,17],[0,1,3,4,10,11,12,13],[0,3,4,10,11,12,13],[0,4,10,11,12,13,89],[0,4,10,11,12,13],[0,4,10,11,12,13],[0,10,11,12,13,94],[10,11],[10,11]],[[0],[2]],[[0,1],[0,1,11],[0,1,11,12],[4],[0,1,14],[4],[0,1,18],[0,1],[0,5,6],[0,6,34],[0,6],[0,7],[0,7,40],[4],[0,7,42],[0,7,42,43],[0,7,42,43],[0,7,42,43],[0,7,42,43],[0,7,43],[0,7,49],[4],[0,7,58],[4],[0,7,67],[4],[0,7,76],[4],[0,7,85],[4],[0,7,8],[0,7,8,96],[0,7,8],[0,7,8,104],[0,7,8],[0,7,8,9],[0,7,8,9],[7,8,9],[7,8,9,113],[7,8,9,10],[7,8,9],[4]],[[1],[2]],[[1],[2]],[[0],[0,4],[2],[0,6],[2],[8],[2],[2]],[[0,1,2],[0,1,2,27],[6,7],[1,2,8],[1,2,8,9],[1,2,8,9,33],[1,2,8,9],[1,2,8,9],[6,7]],[[0],[2]],[[0,2],[0,2,4],[0],[0,2],[0,2,8],[0,2],[0,2],[0,2,14],[0,2],[0,2],[2]],[[0],[3],[2],[2]],[[0],[2]],[[0],[2],[2]],[[0],[2]],[[0,1],[6,7],[4,5],[8,9],[4,5]],[[0,1],[4]],[[0,1],[0,1,7],[0,1],[0,1,21],[]],[[0,1],[0,1],[1],[4,5]],[[0],[2]],[[0],[2]],[[0],[0,4],[2],[2]],[[0],[0,4],[2],[2]],[[0,1],[6],[4,5]],[[0,1],[0,1,6],[0,1,6,7],[0,1,6,7,8],[0,1,6,7,8,9],[0,1,6,7,8,9,10],[0,1,6,7,9,11],[0,1,6,7,9,11,12],[0,1,6,7,9,12,13],[0,1,7,9,12,13],[0,1,4],[4,5]],[[0,1],[4]],[[0,6],[],[19]],[[0,4],[0,4],[]],[],[],[],[],[],[],[],[],[],[],[],[],[],[],[],[],[],[],[],[],[],[],[],[],[[],[],[]]]
def globs:List (Nat × AM.AV):=[(0,.pi .u64 [1,10,100,1000,10000,100000,1000000,10000000,100000000,1000000000,10000000000,100000000000,1000000000000,10000000000000,100000000000000,1000000000000000,10000000000000000,100000000000000000,1000000000000000000,10000000000000000000]),(1,.pb [0,1,28,2,29,14,24,3,30,22,20,15,25,17,4,8,31,27,13,23,21,19,16,7,26,12,18,6,11,5,10,9]),(2,.pb [0,1,56,2,57,49,28,3,61,58,42,50,38,29,17,4,62,47,59,36,45,43,51,22,53,39,33,30,24,18,12,5,63,55,48,27,60,41,37,16,46,35,44,21,52,32,23,11,54,26,40,15,34,20,31,10,25,14,19,9,13,8,7,6])]
noncomputable def X:AM.Ctx:={ P:=Tryz.prog,G:=AM.globF globs,rw:=fun f i=>(f == 14 && i == 0) || (f == 57 && i == 0) || (f == 58 && i == 0) || (f == 80 && i == 0),keep:=fun f i=>((keepT[f]?).getD [])[i]?,norm:=fun _ _=>false,dr:=fun _ _=>true,dy:=fun f id=>[(6,7),(6,13),(7,15),(9,40),(10,24),(15,6),(30,3),(32,11),(32,13),(32,16),(33,7),(38,7),(38,11),(42,24),(46,22),(46,23),(49,1),(49,7),(52,1),(58,10),(58,19),(99,1),(106,0)].contains (f,id) }
theorem own:ownKnob Tryz.prog.godebug = .none:=by kernel_rfl
theorem full:∀ t e,t < Tryz.prog.types.size→Tryz.prog.underlying t = some (.slice e)→0 < Tryz.prog.cellsOf e:=slices_full_of Tryz.prog (by kernel_rfl)
theorem ctxOk:AM.CtxOk X:=AM.ctxOk_of (by kernel_rfl) (by kernel_rfl)
@[simp] theorem X_dr (f i:Nat):X.dr f i = true:=rfl
@[simp] theorem X_norm (f i:Nat):X.norm f i = false:=rfl
@[simp] theorem X_rw (f i:Nat):X.rw f i = ((f == 14 && i == 0) || (f == 57 && i == 0) || (f == 58 && i == 0) || (f == 80 && i == 0)):=rfl
@[simp] theorem keep3 (i:Nat):X.keep 3 i = ([[0,1,2],[0,1,2,17],[6],[0,1,2,25],[6],[0,1,2,7],[0,1,2,7,8,9],[0,2,7,8,9,10,11],[0,2,7,48],[6],[0,2,7,8,9],[0,2,7,8,9,10,11],[0,2,7,8,9,10,11,12,13],[0,7,8,9,10,11,12,13,14,15],[6]]:List (List Nat))[i]?:=congrArg (fun (l:List (List Nat))=>l[i]?) (show (keepT[3]?).getD [] = _ by kernel_rfl)
@[simp] theorem keep4 (i:Nat):X.keep 4 i = ([[],[1,2],[1,2,3,4],[0]]:List (List Nat))[i]?:=congrArg (fun (l:List (List Nat))=>l[i]?) (show (keepT[4]?).getD [] = _ by kernel_rfl)
@[simp] theorem keep5 (i:Nat):X.keep 5 i = ([[0],[2]]:List (List Nat))[i]?:=congrArg (fun (l:List (List Nat))=>l[i]?) (show (keepT[5]?).getD [] = _ by kernel_rfl)
@[simp] theorem keep6 (i:Nat):X.keep 6 i = ([[0,1],[0,1,15],[4,5],[0,1,6],[0,6,16,17],[0,6,16,17,18],[0,6,16,17,27],[0,6,16,17],[0,6,7,8,9,16,17],[0,6,7,8,9,16,17,41],[4,5],[0,6,7,8,16,17,45],[4,5],[0,6,16,17],[0,6,16,17],[6,57],[4,5],[4,5]]:List (List Nat))[i]?:=congrArg (fun (l:List (List Nat))=>l[i]?) (show (keepT[6]?).getD [] = _ by kernel_rfl)
@[simp] theorem keep7 (i:Nat):X.keep 7 i = ([[0,1],[0,1,15],[4,5],[1,6],[1,6,7],[1,6,7,8],[1,6,7,8,28],[1,6,7,8],[1,6,7,8,45],[1,6,7,8],[1,6,7,8],[1,6,7,8,9],[1,6,7,8,9],[1,6,7,8],[6,7,66],[4,5],[4,5]]:List (List Nat))[i]?:=congrArg (fun (l:List (List Nat))=>l[i]?) (show (keepT[7]?).getD [] = _ by kernel_rfl)
@[simp] theorem keep8 (i:Nat):X.keep 8 i = ([[0,1],[0,1,10],[4],[0,1,5],[0,1,5,14],[0,1,5],[0,1,5,25],[4],[4]]:List (List Nat))[i]?:=congrArg (fun (l:List (List Nat))=>l[i]?) (show (keepT[8]?).getD [] = _ by kernel_rfl)
@[simp] theorem keep9 (i:Nat):X.keep 9 i = ([[1,2],[1,2,24],[4,5],[1,2,25,26,27],[1,2,25,26,27,28],[1,2,7,25,26,27],[1,2,25,26,27,33],[4,5],[1,2,25,26,27],[1,2,8],[1,2,8,9,10],[1,2,8,9,10,41],[4,5],[1,2,8,45],[4,5],[1,2,10,11],[1,2,10,11,60],[4,5],[1,2,11,12],[1,2,12,65,66],[1,2,12,65,66,67],[1,2,12,13,65,66],[1,2,12,65,66,82],[4,5],[1,2,12,65,66],[1,2,12,84,85,86],[1,2,12,84,85,86,87],[1,2,12,14,15,84,85,86],[1,2,12,84,85,86,100],[4,5],[1,2,12,84,85,86],[1,2,12,16],[2,12,16,102,103,104],[2,12,16,102,103,104,105],[2,12,16,17,18,102,103,104],[2,12,16,18,102,103,104,112],[2,12,16,102,103,104],[2,12,16,19,20,21,102,103,104],[2,12,16,19,20,21,102,103,104,125],[4,5],[2,12,16,102,103,104],[2,12,16,102,103,104],[16,137],[4,5],[4,5]]:List (List Nat))[i]?:=congrArg (fun (l:List (List Nat))=>l[i]?) (show (keepT[9]?).getD [] = _ by kernel_rfl)
@[simp] theorem keep10 (i:Nat):X.keep 10 i = ([[0,1],[0,1,14],[4,5],[0,1,6],[0,1,6,18],[0,1,6],[0,1,6,26],[4,5],[1,7],[1,7],[1,7,8],[1,7,8],[1,7,8,9],[1,7,8,9,47],[1,7,8,9],[1,7,8,9],[1,7,8,10],[1,7,8,10,11],[1,7,8,10,11,83],[1,7,8,10,11],[1,7,8,10,11,98],[1,7,8,10,11],[1,7,8,10,11],[7,10,114],[4,5],[4,5]]:List (List Nat))[i]?:=congrArg (fun (l:List (List Nat))=>l[i]?) (show (keepT[10]?).getD [] = _ by kernel_rfl)
@[simp] theorem keep11 (i:Nat):X.keep 11 i = ([[0,1],[1,6,7],[1,6,7,19],[4,5],[6,21,22,23],[6,21,22,23,24],[6,8,9,21,22,23],[6,8,9,21,22,23,35],[4,5],[6,8,9,21,22,23,41],[6,8,10,21,22,23],[6,21,22,23],[6,21,22,23],[4,5]]:List (List Nat))[i]?:=congrArg (fun (l:List (List Nat))=>l[i]?) (show (keepT[11]?).getD [] = _ by kernel_rfl)
@[simp] theorem keep12 (i:Nat):X.keep 12 i = ([[0,1],[1,6,7],[1,6,7,19],[4,5],[1,6,8],[1,6,8,9],[1,6,8,9,24],[1,6,8,9],[1,6,8,9,40],[4,5],[1,6,8,9,46],[1,6,8,9],[1,6,8,9,10],[1,6,8,9],[4,5]]:List (List Nat))[i]?:=congrArg (fun (l:List (List Nat))=>l[i]?) (show (keepT[12]?).getD [] = _ by kernel_rfl)
@[simp] theorem keep13 (i:Nat):X.keep 13 i = ([[0,1],[4]]:List (List Nat))[i]?:=congrArg (fun (l:List (List Nat))=>l[i]?) (show (keepT[13]?).getD [] = _ by kernel_rfl)
@[simp] theorem keep14 (i:Nat):X.keep 14 i = ([[0,1],[0,1,18],[4],[5],[5,6],[5,6,33],[5,6],[5,6,40],[4],[4]]:List (List Nat))[i]?:=congrArg (fun (l:List (List Nat))=>l[i]?) (show (keepT[14]?).getD [] = _ by kernel_rfl)
@[simp] theorem keep15 (i:Nat):X.keep 15 i = ([[0,1],[0,1,13],[4,5],[0,1,14,15,16],[0,1,14,15,16,17],[0,1,7,14,15,16],[0,1,14,15,16,23],[4,5],[0,1,14,15,16],[1,8],[8,27,28,29],[8,27,28,29,30],[8,10,27,28,29],[8,10,27,28,29,35],[8,27,28,29],[8,27,28,29],[8,27,28,29],[4,5]]:List (List Nat))[i]?:=congrArg (fun (l:List (List Nat))=>l[i]?) (show (keepT[15]?).getD [] = _ by kernel_rfl)
@[simp] theorem keep16 (i:Nat):X.keep 16 i = ([[0,1,2],[0,1,2,17],[6,7],[0,1,2,22],[6,7],[0,1,2,23,24,25],[0,1,2,23,24,25,26],[0,1,2,8,9,23,24,25],[0,1,2,23,24,25,36],[6,7],[0,1,2,23,24,25],[1,2,10],[1,2,10,11],[1,2,10,11,12],[2,10,11,12,47,48,49],[2,10,11,12,47,48,49,50],[2,10,11,12,13,14,47,48,49],[2,10,11,12,13,14,47,48,49,56],[2,10,11,12,47,48,49],[2,10,11,12,47,48,49],[2,10,11,12,47,48,49],[6,7]]:List (List Nat))[i]?:=congrArg (fun (l:List (List Nat))=>l[i]?) (show (keepT[16]?).getD [] = _ by kernel_rfl)
@[simp] theorem keep17 (i:Nat):X.keep 17 i = ([[0],[0,3,4,5],[0,3,4,5,13],[2,3,4],[0,3,5,21],[2,3,4],[2,3,4]]:List (List Nat))[i]?:=congrArg (fun (l:List (List Nat))=>l[i]?) (show (keepT[17]?).getD [] = _ by kernel_rfl)
@[simp] theorem keep18 (i:Nat):X.keep 18 i = ([[0],[2]]:List (List Nat))[i]?:=congrArg (fun (l:List (List Nat))=>l[i]?) (show (keepT[18]?).getD [] = _ by kernel_rfl)
@[simp] theorem keep19 (i:Nat):X.keep 19 i = ([[0],[0,10],[2],[0,3,4,5],[0,3,4],[3],[2]]:List (List Nat))[i]?:=congrArg (fun (l:List (List Nat))=>l[i]?) (show (keepT[19]?).getD [] = _ by kernel_rfl)
@[simp] theorem keep20 (i:Nat):X.keep 20 i = ([[0,11],[]]:List (List Nat))[i]?:=congrArg (fun (l:List (List Nat))=>l[i]?) (show (keepT[20]?).getD [] = _ by kernel_rfl)
@[simp] theorem keep21 (i:Nat):X.keep 21 i = ([[0],[0],[2]]:List (List Nat))[i]?:=congrArg (fun (l:List (List Nat))=>l[i]?) (show (keepT[21]?).getD [] = _ by kernel_rfl)
@[simp] theorem keep22 (i:Nat):X.keep 22 i = ([[1],[1,4],[1,4,5],[1,4,5],[1,4,5],[1,4,5],[1,4,5],[1,4,5],[13],[2],[2],[1,4,14],[2],[1,4,16],[2],[1,4,18],[1,4,18],[1,4,18],[2],[1,4,22],[2],[1,24],[2],[28],[2],[2]]:List (List Nat))[i]?:=congrArg (fun (l:List (List Nat))=>l[i]?) (show (keepT[22]?).getD [] = _ by kernel_rfl)
@[simp] theorem keep23 (i:Nat):X.keep 23 i = ([[0,1],[0,1,9],[3,4],[0,1,5],[5],[3,4]]:List (List Nat))[i]?:=congrArg (fun (l:List (List Nat))=>l[i]?) (show (keepT[23]?).getD [] = _ by kernel_rfl)
@[simp] theorem keep24 (i:Nat):X.keep 24 i = ([[0,1],[3]]:List (List Nat))[i]?:=congrArg (fun (l:List (List Nat))=>l[i]?) (show (keepT[24]?).getD [] = _ by kernel_rfl)
@[simp] theorem keep25 (i:Nat):X.keep 25 i = ([[0,3,4],[0,3,4,7],[0,3,4,7,19],[0,3,4,7,19,20],[4,5,6],[0,3,4,7,19,23],[4,5,6],[0,3,4,7,19,26],[0,3,4,7,19,26],[4,7,8,9,10],[4,7,8,9,10,38],[4,5,6],[4,5,6],[0,3,4,7,45],[4,7,11,12,13],[4,7,11,12,13,53],[4,5,6],[4,7,11,12,58],[4,5,6],[4,5,6],[0,4,7,14],[4,6,7,14,15],[4,6,7,14,15,77],[4,5,6],[4,7,14,15,81],[4,7,14,15,16],[4,5,6],[4,5,6]]:List (List Nat))[i]?:=congrArg (fun (l:List (List Nat))=>l[i]?) (show (keepT[25]?).getD [] = _ by kernel_rfl)
@[simp] theorem keep26 (i:Nat):X.keep 26 i = ([[1],[1,6],[2],[1,8],[1,8,9],[1,8,9],[1,8,9],[1,8,9],[1,8,9],[1,8,9],[17],[2],[2],[8,18],[2],[8,20],[2],[8,22],[8,22],[8,22],[2],[8,26],[2],[28],[2],[2]]:List (List Nat))[i]?:=congrArg (fun (l:List (List Nat))=>l[i]?) (show (keepT[26]?).getD [] = _ by kernel_rfl)
@[simp] theorem keep27 (i:Nat):X.keep 27 i = ([[0,1,4],[0,1,4,5],[0,1,4,5,6],[0,1,4,5,6,12],[0,1,4,5,6],[0,1,4,5,6],[]]:List (List Nat))[i]?:=congrArg (fun (l:List (List Nat))=>l[i]?) (show (keepT[27]?).getD [] = _ by kernel_rfl)
@[simp] theorem keep28 (i:Nat):X.keep 28 i = ([[0,1],[0,1,19],[0,1],[0,1,27],[4],[0,1,5],[5],[4]]:List (List Nat))[i]?:=congrArg (fun (l:List (List Nat))=>l[i]?) (show (keepT[28]?).getD [] = _ by kernel_rfl)
@[simp] theorem keep29 (i:Nat):X.keep 29 i = ([[0,1,2],[0,1,2,7],[0,1,2,7,12],[0,1,2,7],[0,1,2,7,37],[6],[6]]:List (List Nat))[i]?:=congrArg (fun (l:List (List Nat))=>l[i]?) (show (keepT[29]?).getD [] = _ by kernel_rfl)
@[simp] theorem keep30 (i:Nat):X.keep 30 i = ([[0,3,4],[0,3,4,12],[4],[0,4,5,6,7],[0,4,5,6],[4,5],[4]]:List (List Nat))[i]?:=congrArg (fun (l:List (List Nat))=>l[i]?) (show (keepT[30]?).getD [] = _ by kernel_rfl)
@[simp] theorem keep31 (i:Nat):X.keep 31 i = ([[2,3],[2,3,6],[2,3,6,11],[4,5],[2,3,14],[2,3,14,15],[4,5],[2,3,14,20],[4,5],[2,3,14,25],[2,3,14,25],[4,5],[2,33],[4,5],[4,5]]:List (List Nat))[i]?:=congrArg (fun (l:List (List Nat))=>l[i]?) (show (keepT[31]?).getD [] = _ by kernel_rfl)
@[simp] theorem keep32 (i:Nat):X.keep 32 i = ([[2,3],[2,3,11],[4,5],[2,3,13],[2,3,13,14],[2,18],[4,5],[4,5],[2,3,13,31],[4,5],[2,3,13,36],[2,3,6],[2,6,59],[6],[4,5],[2,13,73],[2,7],[7,91],[7],[4,5],[2,95],[4,5],[4,5]]:List (List Nat))[i]?:=congrArg (fun (l:List (List Nat))=>l[i]?) (show (keepT[32]?).getD [] = _ by kernel_rfl)
@[simp] theorem keep33 (i:Nat):X.keep 33 i = ([[0,1],[0,1,10],[4,5],[1,6],[1,6,7],[1,6,7,17],[1,6,7],[1,6,7,26],[4,5],[1,6,7,32],[1,6,7],[1,6,7],[4,5]]:List (List Nat))[i]?:=congrArg (fun (l:List (List Nat))=>l[i]?) (show (keepT[33]?).getD [] = _ by kernel_rfl)
@[simp] theorem keep34 (i:Nat):X.keep 34 i = ([[2,3],[2,3,5],[2,3,5,11],[4],[2,3,5,14],[4],[2,3,5,6],[2,3,5,6,7],[2,3,5,6,7,24],[2,3,5,6,7,24,25],[6],[2,3,5,6,7,24,27],[6],[2,3,5,6,7,24,60],[2,3,5,6,7,24,60],[2,3,5,6,7,24,60],[6],[2,3,5,6,24,84],[2,3,5,6,24,84],[6],[2,5,6,103],[6],[121],[4],[4]]:List (List Nat))[i]?:=congrArg (fun (l:List (List Nat))=>l[i]?) (show (keepT[34]?).getD [] = _ by kernel_rfl)
@[simp] theorem keep35 (i:Nat):X.keep 35 i = ([[0],[0]]:List (List Nat))[i]?:=congrArg (fun (l:List (List Nat))=>l[i]?) (show (keepT[35]?).getD [] = _ by kernel_rfl)
@[simp] theorem keep36 (i:Nat):X.keep 36 i = ([[0],[0,4],[2],[2]]:List (List Nat))[i]?:=congrArg (fun (l:List (List Nat))=>l[i]?) (show (keepT[36]?).getD [] = _ by kernel_rfl)
@[simp] theorem keep37 (i:Nat):X.keep 37 i = ([[0,1],[4]]:List (List Nat))[i]?:=congrArg (fun (l:List (List Nat))=>l[i]?) (show (keepT[37]?).getD [] = _ by kernel_rfl)
@[simp] theorem keep38 (i:Nat):X.keep 38 i = ([[0,4,5],[0,4,5,8],[0,4,5,24],[6,7],[4,5,9],[4,5,9,28],[4,5,9,28,29],[6,7],[4,5,9,28,39],[4,5,9,28,39],[4,5,9,28,39],[6,7],[4,5,9,28,50],[4,5,9,28,50],[6,7],[4,9,59],[6,7],[6,7]]:List (List Nat))[i]?:=congrArg (fun (l:List (List Nat))=>l[i]?) (show (keepT[38]?).getD [] = _ by kernel_rfl)
@[simp] theorem keep39 (i:Nat):X.keep 39 i = ([[0],[0,8],[2,3,4],[0],[0,11],[2,3,4],[0,11,16],[0,5],[0,11,18],[0,5],[0,11,20],[0,5],[0,11,22],[0,22],[2,3,4],[2,4,5],[2,4,5,33],[2,3,4],[2,3,4]]:List (List Nat))[i]?:=congrArg (fun (l:List (List Nat))=>l[i]?) (show (keepT[39]?).getD [] = _ by kernel_rfl)
@[simp] theorem keep40 (i:Nat):X.keep 40 i = ([[0],[0,5,6,7],[0,5,6,7,15],[2,3,4],[0,5,6,23],[2,3,4],[2,3,4]]:List (List Nat))[i]?:=congrArg (fun (l:List (List Nat))=>l[i]?) (show (keepT[40]?).getD [] = _ by kernel_rfl)
@[simp] theorem keep41 (i:Nat):X.keep 41 i = ([[0],[2]]:List (List Nat))[i]?:=congrArg (fun (l:List (List Nat))=>l[i]?) (show (keepT[41]?).getD [] = _ by kernel_rfl)
@[simp] theorem keep42 (i:Nat):X.keep 42 i = ([[0,1,4],[0,1,4,7],[0,1,4,7,17],[4,5,6],[0,1,4,7,8],[0,1,4,7,8,9],[0,1,4,7,8,9,25],[0,1,4,7,8,9],[0,1,4,7,8,9,10],[0,1,4,7,8,10,27,28,29],[0,1,4,7,8,10,27,28,29,30],[0,1,4,7,8,10,12,27,28,29],[0,1,4,7,8,10,27,28,29],[0,1,4,7,8,10,27,28,29],[0,1,4,7,8,41],[4,5,6],[0,1,4,7,8,47],[4,5,6],[0,1,4,7,8,13],[1,4,7,8,13],[1,4,7,8,13,14],[1,4,7,8,13,14,58],[1,4,7,8,13,14,62],[4,5,6],[1,4,7,8],[1,4,7,8],[4,7,8,97],[4,5,6],[4,5,6]]:List (List Nat))[i]?:=congrArg (fun (l:List (List Nat))=>l[i]?) (show (keepT[42]?).getD [] = _ by kernel_rfl)
@[simp] theorem keep43 (i:Nat):X.keep 43 i = ([[0],[3],[3,4],[2],[3,6],[3,6],[2],[3,9],[3,9],[3,9],[2],[3,13],[13],[2],[2]]:List (List Nat))[i]?:=congrArg (fun (l:List (List Nat))=>l[i]?) (show (keepT[43]?).getD [] = _ by kernel_rfl)
@[simp] theorem keep44 (i:Nat):X.keep 44 i = ([[0,1],[0,1,13],[4,5],[0,1,17],[4,5],[0,1,6],[0,6,18,19],[0,6,18,19,20],[0,6,7,18,19],[0,6,18,19],[0,6,18,19],[4,5]]:List (List Nat))[i]?:=congrArg (fun (l:List (List Nat))=>l[i]?) (show (keepT[44]?).getD [] = _ by kernel_rfl)
@[simp] theorem keep45 (i:Nat):X.keep 45 i = ([[0],[2]]:List (List Nat))[i]?:=congrArg (fun (l:List (List Nat))=>l[i]?) (show (keepT[45]?).getD [] = _ by kernel_rfl)
@[simp] theorem keep46 (i:Nat):X.keep 46 i = ([[0,3,4],[0,3,4,7],[0,3,4,7,15],[4,5,6],[0,3,4,7,8],[0,3,4,7,8,9],[0,3,4,7,8,9,10],[0,3,4,8,9,10,25],[0,3,4,8,9,10,25,26],[0,4,8,9,10,11],[0,4,8,9],[0,3,4,8,9,10,25,44],[0,3,4,8,9,10,25,44],[0,3,4,8,9,10,25,44],[0,4,8,9],[0,3,4,8,9,25,52],[0,3,4,8,9,25,52],[0,4,8,9],[0,4,8,9,60],[0,4,8,9],[0,4,8,9],[0,4,8,9,75],[4,5,6],[4,5,6]]:List (List Nat))[i]?:=congrArg (fun (l:List (List Nat))=>l[i]?) (show (keepT[46]?).getD [] = _ by kernel_rfl)
@[simp] theorem keep47 (i:Nat):X.keep 47 i = ([[0,1],[4]]:List (List Nat))[i]?:=congrArg (fun (l:List (List Nat))=>l[i]?) (show (keepT[47]?).getD [] = _ by kernel_rfl)
@[simp] theorem keep48 (i:Nat):X.keep 48 i = ([[0,1],[4]]:List (List Nat))[i]?:=congrArg (fun (l:List (List Nat))=>l[i]?) (show (keepT[48]?).getD [] = _ by kernel_rfl)
@[simp] theorem keep49 (i:Nat):X.keep 49 i = ([[1,2],[1,2,5],[1,2,5,22],[2,5,6],[2,5,6,24],[2,5,6],[4],[1,2,5,7],[2,5,7,50],[4],[4]]:List (List Nat))[i]?:=congrArg (fun (l:List (List Nat))=>l[i]?) (show (keepT[49]?).getD [] = _ by kernel_rfl)
@[simp] theorem keep50 (i:Nat):X.keep 50 i = ([[2,3],[2,3,5],[2,3,6],[2,3,6,7],[2,3,6,7,81],[2,3,6,7],[2,3,6,7,82],[4],[2,3,6,7,84],[2,3,6,7,84,85],[6],[2,3,6,7,84,105],[2,3,6,7,84,105],[2,3,6,7,84,105],[6],[2,3,6,84,118],[2,3,6,84,118],[6],[2,6,127],[6],[133],[4],[4]]:List (List Nat))[i]?:=congrArg (fun (l:List (List Nat))=>l[i]?) (show (keepT[50]?).getD [] = _ by kernel_rfl)
@[simp] theorem keep51 (i:Nat):X.keep 51 i = ([[0,1],[0,1,5],[0,1,5,13],[0,1,5],[0,1,5],[4]]:List (List Nat))[i]?:=congrArg (fun (l:List (List Nat))=>l[i]?) (show (keepT[51]?).getD [] = _ by kernel_rfl)
@[simp] theorem keep52 (i:Nat):X.keep 52 i = ([[1],[1,3],[1,3,17],[3],[2]]:List (List Nat))[i]?:=congrArg (fun (l:List (List Nat))=>l[i]?) (show (keepT[52]?).getD [] = _ by kernel_rfl)
@[simp] theorem keep53 (i:Nat):X.keep 53 i = ([[0],[0]]:List (List Nat))[i]?:=congrArg (fun (l:List (List Nat))=>l[i]?) (show (keepT[53]?).getD [] = _ by kernel_rfl)
@[simp] theorem keep54 (i:Nat):X.keep 54 i = ([[0,1],[4]]:List (List Nat))[i]?:=congrArg (fun (l:List (List Nat))=>l[i]?) (show (keepT[54]?).getD [] = _ by kernel_rfl)
@[simp] theorem keep55 (i:Nat):X.keep 55 i = ([[1,2],[1,2,7],[4],[1,2,9],[4],[1,2,52],[4],[4]]:List (List Nat))[i]?:=congrArg (fun (l:List (List Nat))=>l[i]?) (show (keepT[55]?).getD [] = _ by kernel_rfl)
@[simp] theorem keep56 (i:Nat):X.keep 56 i = ([[0,1],[0,1,5,6],[1,5,6,7],[1,5,6,7,16],[1,6,7],[7],[4]]:List (List Nat))[i]?:=congrArg (fun (l:List (List Nat))=>l[i]?) (show (keepT[56]?).getD [] = _ by kernel_rfl)
@[simp] theorem keep57 (i:Nat):X.keep 57 i = ([[0,1,2],[0,1,8,9],[0,1,8,9,10],[0,1,7,8,9],[0,1,8,9],[0,1,8,9],[6]]:List (List Nat))[i]?:=congrArg (fun (l:List (List Nat))=>l[i]?) (show (keepT[57]?).getD [] = _ by kernel_rfl)
@[simp] theorem keep58 (i:Nat):X.keep 58 i = ([[0,2,4],[0,4,10],[0,4],[0,4,14],[6],[0,4,21],[0,4],[0,4,7],[0,4,7,29],[0,4,7],[0,4],[0,4],[0,4,8],[0,4,8,50],[6],[0,4,8,57],[0,4,8],[0,4,8,67],[0,4,8],[0,4,8],[0,4,88],[0,4],[0,4,103],[0],[6]]:List (List Nat))[i]?:=congrArg (fun (l:List (List Nat))=>l[i]?) (show (keepT[58]?).getD [] = _ by kernel_rfl)
@[simp] theorem keep59 (i:Nat):X.keep 59 i = ([[0],[0,10],[2,3,4],[0,14],[2,3,4],[0,28],[2,3,4],[0,5],[0,5,37],[0,5],[5,6,7],[5,6,7,46],[2,3,4],[2,3,4]]:List (List Nat))[i]?:=congrArg (fun (l:List (List Nat))=>l[i]?) (show (keepT[59]?).getD [] = _ by kernel_rfl)
@[simp] theorem keep60 (i:Nat):X.keep 60 i = ([[0],[0]]:List (List Nat))[i]?:=congrArg (fun (l:List (List Nat))=>l[i]?) (show (keepT[60]?).getD [] = _ by kernel_rfl)
@[simp] theorem keep61 (i:Nat):X.keep 61 i = ([[0,1,2],[6],[5]]:List (List Nat))[i]?:=congrArg (fun (l:List (List Nat))=>l[i]?) (show (keepT[61]?).getD [] = _ by kernel_rfl)
@[simp] theorem keep62 (i:Nat):X.keep 62 i = ([[0],[0,3],[0,3,9],[2],[0,14],[0,14,15],[2],[0,17],[2],[0,3],[0,3,21],[2],[2]]:List (List Nat))[i]?:=congrArg (fun (l:List (List Nat))=>l[i]?) (show (keepT[62]?).getD [] = _ by kernel_rfl)
@[simp] theorem keep63 (i:Nat):X.keep 63 i = ([[0],[3],[3,4],[2],[3,6],[3,6],[2],[3,9],[3,9],[9],[2],[2]]:List (List Nat))[i]?:=congrArg (fun (l:List (List Nat))=>l[i]?) (show (keepT[63]?).getD [] = _ by kernel_rfl)
@[simp] theorem keep64 (i:Nat):X.keep 64 i = ([[0,1],[5],[4]]:List (List Nat))[i]?:=congrArg (fun (l:List (List Nat))=>l[i]?) (show (keepT[64]?).getD [] = _ by kernel_rfl)
@[simp] theorem keep65 (i:Nat):X.keep 65 i = ([[0,1,4],[0,1,4,5],[0,1,4,5,6],[0,1,4,5,6,13],[0,1,4,5,6],[0,1,4,5,6,34],[0,1,4,5,6,7],[0,1,4,5,6,7],[0,1,4,5,6,7],[0,1,4,6,7],[0,1,4,6],[0,1,4,5,6],[0,1,4,5,6,77],[0,1,4,5,6],[0,1,4,5,6],[0,1,4,5,6],[0,1,4,5,6,98],[0,1,4,6],[4,6],[4]]:List (List Nat))[i]?:=congrArg (fun (l:List (List Nat))=>l[i]?) (show (keepT[65]?).getD [] = _ by kernel_rfl)
@[simp] theorem keep66 (i:Nat):X.keep 66 i = ([[0,1],[0,1,11],[0,17],[4],[0,5],[0,5,6],[0,5,6,23],[0,5,6],[0,5,6,7],[0,5,7],[5,7,34],[5,7],[4],[4],[9],[4]]:List (List Nat))[i]?:=congrArg (fun (l:List (List Nat))=>l[i]?) (show (keepT[66]?).getD [] = _ by kernel_rfl)
@[simp] theorem keep67 (i:Nat):X.keep 67 i = ([[0,1],[0,1,10],[0,12],[4],[0,5],[0,5,6],[5,6],[4],[8],[4]]:List (List Nat))[i]?:=congrArg (fun (l:List (List Nat))=>l[i]?) (show (keepT[67]?).getD [] = _ by kernel_rfl)
@[simp] theorem keep68 (i:Nat):X.keep 68 i = ([[0,1],[1,5],[4]]:List (List Nat))[i]?:=congrArg (fun (l:List (List Nat))=>l[i]?) (show (keepT[68]?).getD [] = _ by kernel_rfl)
@[simp] theorem keep69 (i:Nat):X.keep 69 i = ([[0],[0,4],[2],[2]]:List (List Nat))[i]?:=congrArg (fun (l:List (List Nat))=>l[i]?) (show (keepT[69]?).getD [] = _ by kernel_rfl)
@[simp] theorem keep70 (i:Nat):X.keep 70 i = ([[1,2],[1,2,7],[4],[1,2,9],[4],[4]]:List (List Nat))[i]?:=congrArg (fun (l:List (List Nat))=>l[i]?) (show (keepT[70]?).getD [] = _ by kernel_rfl)
@[simp] theorem keep71 (i:Nat):X.keep 71 i = ([[0,1],[0,1,5],[1,5,6],[1,5,6,14],[4],[1,5,6,7],[1,5,6,7,21],[1,5,6,7],[6],[4]]:List (List Nat))[i]?:=congrArg (fun (l:List (List Nat))=>l[i]?) (show (keepT[71]?).getD [] = _ by kernel_rfl)
@[simp] theorem keep72 (i:Nat):X.keep 72 i = ([[1],[2]]:List (List Nat))[i]?:=congrArg (fun (l:List (List Nat))=>l[i]?) (show (keepT[72]?).getD [] = _ by kernel_rfl)
@[simp] theorem keep73 (i:Nat):X.keep 73 i = ([[0,1,2],[6]]:List (List Nat))[i]?:=congrArg (fun (l:List (List Nat))=>l[i]?) (show (keepT[73]?).getD [] = _ by kernel_rfl)
@[simp] theorem keep74 (i:Nat):X.keep 74 i = ([[0],[0,4],[2,3],[0,7],[2,3],[10],[2,3],[2,3]]:List (List Nat))[i]?:=congrArg (fun (l:List (List Nat))=>l[i]?) (show (keepT[74]?).getD [] = _ by kernel_rfl)
@[simp] theorem keep75 (i:Nat):X.keep 75 i = ([[0,1,2],[0,1,2,26],[6,7],[1,2,8],[1,8,29,30],[1,8,29,30,31],[1,8,9,29,30],[1,8,29,30],[1,8,29,30],[6,7]]:List (List Nat))[i]?:=congrArg (fun (l:List (List Nat))=>l[i]?) (show (keepT[75]?).getD [] = _ by kernel_rfl)
@[simp] theorem keep76 (i:Nat):X.keep 76 i = ([[0,1],[0,1,13],[4,5],[0,1,17],[4,5],[0,1,6],[0,1,6,7],[0,1,6,7,20],[0,1,6,7],[0,1,6,7],[4,5]]:List (List Nat))[i]?:=congrArg (fun (l:List (List Nat))=>l[i]?) (show (keepT[76]?).getD [] = _ by kernel_rfl)
@[simp] theorem keep77 (i:Nat):X.keep 77 i = ([[0,2,4,6],[0,2,4,6],[0,2,4,6],[0,2,4,6],[0,4,6,19],[4,6],[6]]:List (List Nat))[i]?:=congrArg (fun (l:List (List Nat))=>l[i]?) (show (keepT[77]?).getD [] = _ by kernel_rfl)
@[simp] theorem keep78 (i:Nat):X.keep 78 i = ([[0],[0,4],[2],[2]]:List (List Nat))[i]?:=congrArg (fun (l:List (List Nat))=>l[i]?) (show (keepT[78]?).getD [] = _ by kernel_rfl)
@[simp] theorem keep79 (i:Nat):X.keep 79 i = ([[0],[0,3],[2]]:List (List Nat))[i]?:=congrArg (fun (l:List (List Nat))=>l[i]?) (show (keepT[79]?).getD [] = _ by kernel_rfl)
@[simp] theorem keep80 (i:Nat):X.keep 80 i = ([[0,1,4],[0,1,4,20],[0,1,4,5],[0,1,4,5],[0,1,4,6,7],[0,1,4,6,8,9],[0,1,4,8,9,10,11],[0,1,4,8,10,11],[0,1,4,10,11],[0,1,4,10],[0,1,4],[0,1,4],[0,4,12],[0,4,12,99],[0,4,12,13],[0,4,12,13],[0,4,12,14,15],[0,4,12,14],[0,4,12],[0,4,12],[0,4,12,139],[0,4,12,16],[0,4,12,16],[0,4,12],[0,4,12],[0,12,161],[]]:List (List Nat))[i]?:=congrArg (fun (l:List (List Nat))=>l[i]?) (show (keepT[80]?).getD [] = _ by kernel_rfl)
@[simp] theorem keep82 (i:Nat):X.keep 82 i = ([[0],[2]]:List (List Nat))[i]?:=congrArg (fun (l:List (List Nat))=>l[i]?) (show (keepT[82]?).getD [] = _ by kernel_rfl)
@[simp] theorem keep83 (i:Nat):X.keep 83 i = ([[0,1],[0,1,11],[0,1,11,12],[4],[0,1,14],[4],[0,1,18],[0,1],[0,5,6],[0,6,34],[0,6],[0,7],[0,7,40],[4],[0,7,42],[0,7,42,43],[0,7,42,43],[0,7,42,43],[0,7,42,43],[0,7,43],[0,7,49],[4],[0,7,58],[4],[0,7,67],[4],[0,7,76],[4],[0,7,85],[4],[0,7,8],[0,7,8,96],[0,7,8],[0,7,8,104],[0,7,8],[0,7,8,9],[0,7,8,9],[7,8,9],[7,8,9,113],[7,8,9,10],[7,8,9],[4]]:List (List Nat))[i]?:=congrArg (fun (l:List (List Nat))=>l[i]?) (show (keepT[83]?).getD [] = _ by kernel_rfl)
@[simp] theorem keep84 (i:Nat):X.keep 84 i = ([[1],[2]]:List (List Nat))[i]?:=congrArg (fun (l:List (List Nat))=>l[i]?) (show (keepT[84]?).getD [] = _ by kernel_rfl)
@[simp] theorem keep85 (i:Nat):X.keep 85 i = ([[1],[2]]:List (List Nat))[i]?:=congrArg (fun (l:List (List Nat))=>l[i]?) (show (keepT[85]?).getD [] = _ by kernel_rfl)
@[simp] theorem keep86 (i:Nat):X.keep 86 i = ([[0],[0,4],[2],[0,6],[2],[8],[2],[2]]:List (List Nat))[i]?:=congrArg (fun (l:List (List Nat))=>l[i]?) (show (keepT[86]?).getD [] = _ by kernel_rfl)
@[simp] theorem keep87 (i:Nat):X.keep 87 i = ([[0,1,2],[0,1,2,27],[6,7],[1,2,8],[1,2,8,9],[1,2,8,9,33],[1,2,8,9],[1,2,8,9],[6,7]]:List (List Nat))[i]?:=congrArg (fun (l:List (List Nat))=>l[i]?) (show (keepT[87]?).getD [] = _ by kernel_rfl)
@[simp] theorem keep88 (i:Nat):X.keep 88 i = ([[0],[2]]:List (List Nat))[i]?:=congrArg (fun (l:List (List Nat))=>l[i]?) (show (keepT[88]?).getD [] = _ by kernel_rfl)
@[simp] theorem keep89 (i:Nat):X.keep 89 i = ([[0,2],[0,2,4],[0],[0,2],[0,2,8],[0,2],[0,2],[0,2,14],[0,2],[0,2],[2]]:List (List Nat))[i]?:=congrArg (fun (l:List (List Nat))=>l[i]?) (show (keepT[89]?).getD [] = _ by kernel_rfl)
@[simp] theorem keep90 (i:Nat):X.keep 90 i = ([[0],[3],[2],[2]]:List (List Nat))[i]?:=congrArg (fun (l:List (List Nat))=>l[i]?) (show (keepT[90]?).getD [] = _ by kernel_rfl)
@[simp] theorem keep93 (i:Nat):X.keep 93 i = ([[0],[2]]:List (List Nat))[i]?:=congrArg (fun (l:List (List Nat))=>l[i]?) (show (keepT[93]?).getD [] = _ by kernel_rfl)
@[simp] theorem keep95 (i:Nat):X.keep 95 i = ([[0,1],[4]]:List (List Nat))[i]?:=congrArg (fun (l:List (List Nat))=>l[i]?) (show (keepT[95]?).getD [] = _ by kernel_rfl)
@[simp] theorem keep96 (i:Nat):X.keep 96 i = ([[0,1],[0,1,7],[0,1],[0,1,21],[]]:List (List Nat))[i]?:=congrArg (fun (l:List (List Nat))=>l[i]?) (show (keepT[96]?).getD [] = _ by kernel_rfl)
@[simp] theorem keep97 (i:Nat):X.keep 97 i = ([[0,1],[0,1],[1],[4,5]]:List (List Nat))[i]?:=congrArg (fun (l:List (List Nat))=>l[i]?) (show (keepT[97]?).getD [] = _ by kernel_rfl)
@[simp] theorem keep98 (i:Nat):X.keep 98 i = ([[0],[2]]:List (List Nat))[i]?:=congrArg (fun (l:List (List Nat))=>l[i]?) (show (keepT[98]?).getD [] = _ by kernel_rfl)
@[simp] theorem keep99 (i:Nat):X.keep 99 i = ([[0],[2]]:List (List Nat))[i]?:=congrArg (fun (l:List (List Nat))=>l[i]?) (show (keepT[99]?).getD [] = _ by kernel_rfl)
@[simp] theorem keep105 (i:Nat):X.keep 105 i = ([[0,6],[],[19]]:List (List Nat))[i]?:=congrArg (fun (l:List (List Nat))=>l[i]?) (show (keepT[105]?).getD [] = _ by kernel_rfl)
@[simp] theorem keep106 (i:Nat):X.keep 106 i = ([[0,4],[0,4],[]]:List (List Nat))[i]?:=congrArg (fun (l:List (List Nat))=>l[i]?) (show (keepT[106]?).getD [] = _ by kernel_rfl)
attribute [go_sem] List.getElem?_cons_zero List.getElem?_cons_succ Go.AM.loadV Go.AM.storeV
@[simp] theorem nt3:ntOf X 3 = 96:=by kernel_rfl
@[simp] theorem bod3:bodied X 3 = true:=by kernel_rfl
@[simp] theorem par3:paramsOf X 3 = [22,3,23]:=by kernel_rfl
@[simp] theorem nt4:ntOf X 4 = 39:=by kernel_rfl
@[simp] theorem bod4:bodied X 4 = true:=by kernel_rfl
@[simp] theorem par4:paramsOf X 4 = []:=by kernel_rfl
@[simp] theorem nt5:ntOf X 5 = 14:=by kernel_rfl
@[simp] theorem bod5:bodied X 5 = true:=by kernel_rfl
@[simp] theorem par5:paramsOf X 5 = [22]:=by kernel_rfl
@[simp] theorem nt6:ntOf X 6 = 59:=by kernel_rfl
@[simp] theorem bod6:bodied X 6 = true:=by kernel_rfl
@[simp] theorem par6:paramsOf X 6 = [22,3]:=by kernel_rfl
@[simp] theorem nt7:ntOf X 7 = 72:=by kernel_rfl
@[simp] theorem bod7:bodied X 7 = true:=by kernel_rfl
@[simp] theorem par7:paramsOf X 7 = [22,3]:=by kernel_rfl
@[simp] theorem nt8:ntOf X 8 = 26:=by kernel_rfl
@[simp] theorem bod8:bodied X 8 = true:=by kernel_rfl
@[simp] theorem par8:paramsOf X 8 = [26,26]:=by kernel_rfl
@[simp] theorem nt9:ntOf X 9 = 139:=by kernel_rfl
@[simp] theorem bod9:bodied X 9 = true:=by kernel_rfl
@[simp] theorem par9:paramsOf X 9 = [22,23]:=by kernel_rfl
@[simp] theorem nt10:ntOf X 10 = 120:=by kernel_rfl
@[simp] theorem bod10:bodied X 10 = true:=by kernel_rfl
@[simp] theorem par10:paramsOf X 10 = [22,23]:=by kernel_rfl
@[simp] theorem nt11:ntOf X 11 = 61:=by kernel_rfl
@[simp] theorem bod11:bodied X 11 = true:=by kernel_rfl
@[simp] theorem par11:paramsOf X 11 = [22,23]:=by kernel_rfl
@[simp] theorem nt12:ntOf X 12 = 75:=by kernel_rfl
@[simp] theorem bod12:bodied X 12 = true:=by kernel_rfl
@[simp] theorem par12:paramsOf X 12 = [22,23]:=by kernel_rfl
@[simp] theorem nt13:ntOf X 13 = 10:=by kernel_rfl
@[simp] theorem bod13:bodied X 13 = true:=by kernel_rfl
@[simp] theorem par13:paramsOf X 13 = [22,22]:=by kernel_rfl
@[simp] theorem nt14:ntOf X 14 = 41:=by kernel_rfl
@[simp] theorem bod14:bodied X 14 = true:=by kernel_rfl
@[simp] theorem par14:paramsOf X 14 = [22,22]:=by kernel_rfl
@[simp] theorem nt15:ntOf X 15 = 45:=by kernel_rfl
@[simp] theorem bod15:bodied X 15 = true:=by kernel_rfl
@[simp] theorem par15:paramsOf X 15 = [22,26]:=by kernel_rfl
@[simp] theorem nt16:ntOf X 16 = 85:=by kernel_rfl
@[simp] theorem bod16:bodied X 16 = true:=by kernel_rfl
@[simp] theorem par16:paramsOf X 16 = [22,26,23]:=by kernel_rfl
@[simp] theorem nt17:ntOf X 17 = 34:=by kernel_rfl
@[simp] theorem bod17:bodied X 17 = true:=by kernel_rfl
@[simp] theorem par17:paramsOf X 17 = [22]:=by kernel_rfl
@[simp] theorem nt18:ntOf X 18 = 7:=by kernel_rfl
@[simp] theorem bod18:bodied X 18 = true:=by kernel_rfl
@[simp] theorem par18:paramsOf X 18 = [47]:=by kernel_rfl
@[simp] theorem nt19:ntOf X 19 = 34:=by kernel_rfl
@[simp] theorem bod19:bodied X 19 = true:=by kernel_rfl
@[simp] theorem par19:paramsOf X 19 = [47]:=by kernel_rfl
@[simp] theorem nt20:ntOf X 20 = 15:=by kernel_rfl
@[simp] theorem bod20:bodied X 20 = true:=by kernel_rfl
@[simp] theorem par20:paramsOf X 20 = [47,4]:=by kernel_rfl
@[simp] theorem nt21:ntOf X 21 = 15:=by kernel_rfl
@[simp] theorem bod21:bodied X 21 = true:=by kernel_rfl
@[simp] theorem par21:paramsOf X 21 = [47]:=by kernel_rfl
@[simp] theorem nt22:ntOf X 22 = 29:=by kernel_rfl
@[simp] theorem bod22:bodied X 22 = true:=by kernel_rfl
@[simp] theorem par22:paramsOf X 22 = [44]:=by kernel_rfl
@[simp] theorem nt23:ntOf X 23 = 17:=by kernel_rfl
@[simp] theorem bod23:bodied X 23 = true:=by kernel_rfl
@[simp] theorem par23:paramsOf X 23 = [3]:=by kernel_rfl
@[simp] theorem nt24:ntOf X 24 = 14:=by kernel_rfl
@[simp] theorem bod24:bodied X 24 = true:=by kernel_rfl
@[simp] theorem par24:paramsOf X 24 = [3]:=by kernel_rfl
@[simp] theorem nt25:ntOf X 25 = 98:=by kernel_rfl
@[simp] theorem bod25:bodied X 25 = true:=by kernel_rfl
@[simp] theorem par25:paramsOf X 25 = [22,44]:=by kernel_rfl
@[simp] theorem nt26:ntOf X 26 = 30:=by kernel_rfl
@[simp] theorem bod26:bodied X 26 = true:=by kernel_rfl
@[simp] theorem par26:paramsOf X 26 = [44]:=by kernel_rfl
@[simp] theorem nt27:ntOf X 27 = 26:=by kernel_rfl
@[simp] theorem bod27:bodied X 27 = true:=by kernel_rfl
@[simp] theorem par27:paramsOf X 27 = [47,3]:=by kernel_rfl
@[simp] theorem nt28:ntOf X 28 = 48:=by kernel_rfl
@[simp] theorem bod28:bodied X 28 = true:=by kernel_rfl
@[simp] theorem par28:paramsOf X 28 = [47,3]:=by kernel_rfl
@[simp] theorem nt29:ntOf X 29 = 38:=by kernel_rfl
@[simp] theorem bod29:bodied X 29 = true:=by kernel_rfl
@[simp] theorem par29:paramsOf X 29 = [22,3,3]:=by kernel_rfl
@[simp] theorem nt30:ntOf X 30 = 38:=by kernel_rfl
@[simp] theorem bod30:bodied X 30 = true:=by kernel_rfl
@[simp] theorem par30:paramsOf X 30 = [47,44]:=by kernel_rfl
@[simp] theorem nt31:ntOf X 31 = 37:=by kernel_rfl
@[simp] theorem bod31:bodied X 31 = true:=by kernel_rfl
@[simp] theorem par31:paramsOf X 31 = [41,44]:=by kernel_rfl
@[simp] theorem nt32:ntOf X 32 = 99:=by kernel_rfl
@[simp] theorem bod32:bodied X 32 = true:=by kernel_rfl
@[simp] theorem par32:paramsOf X 32 = [41,44]:=by kernel_rfl
@[simp] theorem nt33:ntOf X 33 = 44:=by kernel_rfl
@[simp] theorem bod33:bodied X 33 = true:=by kernel_rfl
@[simp] theorem par33:paramsOf X 33 = [22,26]:=by kernel_rfl
@[simp] theorem nt34:ntOf X 34 = 122:=by kernel_rfl
@[simp] theorem bod34:bodied X 34 = true:=by kernel_rfl
@[simp] theorem par34:paramsOf X 34 = [41,44]:=by kernel_rfl
@[simp] theorem nt35:ntOf X 35 = 2:=by kernel_rfl
@[simp] theorem bod35:bodied X 35 = true:=by kernel_rfl
@[simp] theorem par35:paramsOf X 35 = []:=by kernel_rfl
@[simp] theorem nt36:ntOf X 36 = 8:=by kernel_rfl
@[simp] theorem bod36:bodied X 36 = true:=by kernel_rfl
@[simp] theorem par36:paramsOf X 36 = [22]:=by kernel_rfl
@[simp] theorem nt37:ntOf X 37 = 12:=by kernel_rfl
@[simp] theorem bod37:bodied X 37 = true:=by kernel_rfl
@[simp] theorem par37:paramsOf X 37 = [22,9]:=by kernel_rfl
@[simp] theorem nt38:ntOf X 38 = 66:=by kernel_rfl
@[simp] theorem bod38:bodied X 38 = true:=by kernel_rfl
@[simp] theorem par38:paramsOf X 38 = [22,41,44]:=by kernel_rfl
@[simp] theorem nt39:ntOf X 39 = 38:=by kernel_rfl
@[simp] theorem bod39:bodied X 39 = true:=by kernel_rfl
@[simp] theorem par39:paramsOf X 39 = [22]:=by kernel_rfl
@[simp] theorem nt40:ntOf X 40 = 36:=by kernel_rfl
@[simp] theorem bod40:bodied X 40 = true:=by kernel_rfl
@[simp] theorem par40:paramsOf X 40 = [22]:=by kernel_rfl
@[simp] theorem nt41:ntOf X 41 = 7:=by kernel_rfl
@[simp] theorem bod41:bodied X 41 = true:=by kernel_rfl
@[simp] theorem par41:paramsOf X 41 = [5]:=by kernel_rfl
@[simp] theorem nt42:ntOf X 42 = 102:=by kernel_rfl
@[simp] theorem bod42:bodied X 42 = true:=by kernel_rfl
@[simp] theorem par42:paramsOf X 42 = [22,5]:=by kernel_rfl
@[simp] theorem nt43:ntOf X 43 = 16:=by kernel_rfl
@[simp] theorem bod43:bodied X 43 = true:=by kernel_rfl
@[simp] theorem par43:paramsOf X 43 = [5]:=by kernel_rfl
@[simp] theorem nt44:ntOf X 44 = 34:=by kernel_rfl
@[simp] theorem bod44:bodied X 44 = true:=by kernel_rfl
@[simp] theorem par44:paramsOf X 44 = [22,3]:=by kernel_rfl
@[simp] theorem nt45:ntOf X 45 = 6:=by kernel_rfl
@[simp] theorem bod45:bodied X 45 = true:=by kernel_rfl
@[simp] theorem par45:paramsOf X 45 = [5]:=by kernel_rfl
@[simp] theorem nt46:ntOf X 46 = 90:=by kernel_rfl
@[simp] theorem bod46:bodied X 46 = true:=by kernel_rfl
@[simp] theorem par46:paramsOf X 46 = [22,44]:=by kernel_rfl
@[simp] theorem nt47:ntOf X 47 = 8:=by kernel_rfl
@[simp] theorem bod47:bodied X 47 = true:=by kernel_rfl
@[simp] theorem par47:paramsOf X 47 = [2,3]:=by kernel_rfl
@[simp] theorem nt48:ntOf X 48 = 8:=by kernel_rfl
@[simp] theorem bod48:bodied X 48 = true:=by kernel_rfl
@[simp] theorem par48:paramsOf X 48 = [37,3]:=by kernel_rfl
@[simp] theorem nt49:ntOf X 49 = 60:=by kernel_rfl
@[simp] theorem bod49:bodied X 49 = true:=by kernel_rfl
@[simp] theorem par49:paramsOf X 49 = [39,5]:=by kernel_rfl
@[simp] theorem nt50:ntOf X 50 = 134:=by kernel_rfl
@[simp] theorem bod50:bodied X 50 = true:=by kernel_rfl
@[simp] theorem par50:paramsOf X 50 = [41,44]:=by kernel_rfl
@[simp] theorem nt51:ntOf X 51 = 25:=by kernel_rfl
@[simp] theorem bod51:bodied X 51 = true:=by kernel_rfl
@[simp] theorem par51:paramsOf X 51 = [37,3]:=by kernel_rfl
@[simp] theorem nt52:ntOf X 52 = 26:=by kernel_rfl
@[simp] theorem bod52:bodied X 52 = true:=by kernel_rfl
@[simp] theorem par52:paramsOf X 52 = [39]:=by kernel_rfl
@[simp] theorem nt53:ntOf X 53 = 2:=by kernel_rfl
@[simp] theorem bod53:bodied X 53 = true:=by kernel_rfl
@[simp] theorem par53:paramsOf X 53 = []:=by kernel_rfl
@[simp] theorem nt54:ntOf X 54 = 12:=by kernel_rfl
@[simp] theorem bod54:bodied X 54 = true:=by kernel_rfl
@[simp] theorem par54:paramsOf X 54 = [22,9]:=by kernel_rfl
@[simp] theorem nt55:ntOf X 55 = 66:=by kernel_rfl
@[simp] theorem bod55:bodied X 55 = true:=by kernel_rfl
@[simp] theorem par55:paramsOf X 55 = [39,5]:=by kernel_rfl
@[simp] theorem nt56:ntOf X 56 = 29:=by kernel_rfl
@[simp] theorem bod56:bodied X 56 = true:=by kernel_rfl
@[simp] theorem par56:paramsOf X 56 = [22,37]:=by kernel_rfl
@[simp] theorem nt57:ntOf X 57 = 22:=by kernel_rfl
@[simp] theorem bod57:bodied X 57 = true:=by kernel_rfl
@[simp] theorem par57:paramsOf X 57 = [22,37,3]:=by kernel_rfl
@[simp] theorem nt58:ntOf X 58 = 110:=by kernel_rfl
@[simp] theorem bod58:bodied X 58 = true:=by kernel_rfl
@[simp] theorem par58:paramsOf X 58 = [22,39,5]:=by kernel_rfl
@[simp] theorem nt59:ntOf X 59 = 51:=by kernel_rfl
@[simp] theorem bod59:bodied X 59 = true:=by kernel_rfl
@[simp] theorem par59:paramsOf X 59 = [22]:=by kernel_rfl
@[simp] theorem nt60:ntOf X 60 = 2:=by kernel_rfl
@[simp] theorem bod60:bodied X 60 = true:=by kernel_rfl
@[simp] theorem par60:paramsOf X 60 = []:=by kernel_rfl
@[simp] theorem nt61:ntOf X 61 = 18:=by kernel_rfl
@[simp] theorem bod61:bodied X 61 = true:=by kernel_rfl
@[simp] theorem par61:paramsOf X 61 = [3,3]:=by kernel_rfl
@[simp] theorem nt62:ntOf X 62 = 27:=by kernel_rfl
@[simp] theorem bod62:bodied X 62 = true:=by kernel_rfl
@[simp] theorem par62:paramsOf X 62 = [5]:=by kernel_rfl
@[simp] theorem nt63:ntOf X 63 = 13:=by kernel_rfl
@[simp] theorem bod63:bodied X 63 = true:=by kernel_rfl
@[simp] theorem par63:paramsOf X 63 = [5]:=by kernel_rfl
@[simp] theorem nt64:ntOf X 64 = 16:=by kernel_rfl
@[simp] theorem bod64:bodied X 64 = true:=by kernel_rfl
@[simp] theorem par64:paramsOf X 64 = [47,3]:=by kernel_rfl
@[simp] theorem nt65:ntOf X 65 = 111:=by kernel_rfl
@[simp] theorem bod65:bodied X 65 = true:=by kernel_rfl
@[simp] theorem par65:paramsOf X 65 = [47,5]:=by kernel_rfl
@[simp] theorem nt66:ntOf X 66 = 54:=by kernel_rfl
@[simp] theorem bod66:bodied X 66 = true:=by kernel_rfl
@[simp] theorem par66:paramsOf X 66 = [2,3]:=by kernel_rfl
@[simp] theorem nt67:ntOf X 67 = 32:=by kernel_rfl
@[simp] theorem bod67:bodied X 67 = true:=by kernel_rfl
@[simp] theorem par67:paramsOf X 67 = [37,3]:=by kernel_rfl
@[simp] theorem nt68:ntOf X 68 = 16:=by kernel_rfl
@[simp] theorem bod68:bodied X 68 = true:=by kernel_rfl
@[simp] theorem par68:paramsOf X 68 = [3,3]:=by kernel_rfl
@[simp] theorem nt69:ntOf X 69 = 8:=by kernel_rfl
@[simp] theorem bod69:bodied X 69 = true:=by kernel_rfl
@[simp] theorem par69:paramsOf X 69 = [3]:=by kernel_rfl
@[simp] theorem nt70:ntOf X 70 = 83:=by kernel_rfl
@[simp] theorem bod70:bodied X 70 = true:=by kernel_rfl
@[simp] theorem par70:paramsOf X 70 = [39,5]:=by kernel_rfl
@[simp] theorem nt71:ntOf X 71 = 37:=by kernel_rfl
@[simp] theorem bod71:bodied X 71 = true:=by kernel_rfl
@[simp] theorem par71:paramsOf X 71 = [22,37]:=by kernel_rfl
@[simp] theorem nt72:ntOf X 72 = 21:=by kernel_rfl
@[simp] theorem bod72:bodied X 72 = true:=by kernel_rfl
@[simp] theorem par72:paramsOf X 72 = [39]:=by kernel_rfl
@[simp] theorem nt73:ntOf X 73 = 15:=by kernel_rfl
@[simp] theorem bod73:bodied X 73 = true:=by kernel_rfl
@[simp] theorem par73:paramsOf X 73 = [3,3,3]:=by kernel_rfl
@[simp] theorem nt74:ntOf X 74 = 13:=by kernel_rfl
@[simp] theorem bod74:bodied X 74 = true:=by kernel_rfl
@[simp] theorem par74:paramsOf X 74 = [37]:=by kernel_rfl
@[simp] theorem nt75:ntOf X 75 = 43:=by kernel_rfl
@[simp] theorem bod75:bodied X 75 = true:=by kernel_rfl
@[simp] theorem par75:paramsOf X 75 = [22,37,3]:=by kernel_rfl
@[simp] theorem nt76:ntOf X 76 = 35:=by kernel_rfl
@[simp] theorem bod76:bodied X 76 = true:=by kernel_rfl
@[simp] theorem par76:paramsOf X 76 = [22,3]:=by kernel_rfl
@[simp] theorem nt77:ntOf X 77 = 25:=by kernel_rfl
@[simp] theorem bod77:bodied X 77 = true:=by kernel_rfl
@[simp] theorem par77:paramsOf X 77 = [47,39,4]:=by kernel_rfl
@[simp] theorem nt78:ntOf X 78 = 15:=by kernel_rfl
@[simp] theorem bod78:bodied X 78 = true:=by kernel_rfl
@[simp] theorem par78:paramsOf X 78 = [3]:=by kernel_rfl
@[simp] theorem nt79:ntOf X 79 = 15:=by kernel_rfl
@[simp] theorem bod79:bodied X 79 = true:=by kernel_rfl
@[simp] theorem par79:paramsOf X 79 = [37]:=by kernel_rfl
@[simp] theorem nt80:ntOf X 80 = 167:=by kernel_rfl
@[simp] theorem bod80:bodied X 80 = true:=by kernel_rfl
@[simp] theorem par80:paramsOf X 80 = [22,37]:=by kernel_rfl
@[simp] theorem nt81:ntOf X 81 = 102:=by kernel_rfl
@[simp] theorem bod81:bodied X 81 = true:=by kernel_rfl
@[simp] theorem par81:paramsOf X 81 = [22,37,3,4,4]:=by kernel_rfl
@[simp] theorem nt82:ntOf X 82 = 5:=by kernel_rfl
@[simp] theorem bod82:bodied X 82 = true:=by kernel_rfl
@[simp] theorem par82:paramsOf X 82 = [3]:=by kernel_rfl
@[simp] theorem nt83:ntOf X 83 = 125:=by kernel_rfl
@[simp] theorem bod83:bodied X 83 = true:=by kernel_rfl
@[simp] theorem par83:paramsOf X 83 = [9,3]:=by kernel_rfl
@[simp] theorem nt84:ntOf X 84 = 41:=by kernel_rfl
@[simp] theorem bod84:bodied X 84 = true:=by kernel_rfl
@[simp] theorem par84:paramsOf X 84 = [39]:=by kernel_rfl
@[simp] theorem nt85:ntOf X 85 = 15:=by kernel_rfl
@[simp] theorem bod85:bodied X 85 = true:=by kernel_rfl
@[simp] theorem par85:paramsOf X 85 = [39]:=by kernel_rfl
@[simp] theorem nt86:ntOf X 86 = 9:=by kernel_rfl
@[simp] theorem bod86:bodied X 86 = true:=by kernel_rfl
@[simp] theorem par86:paramsOf X 86 = [37]:=by kernel_rfl
@[simp] theorem nt87:ntOf X 87 = 46:=by kernel_rfl
@[simp] theorem bod87:bodied X 87 = true:=by kernel_rfl
@[simp] theorem par87:paramsOf X 87 = [22,37,3]:=by kernel_rfl
@[simp] theorem nt88:ntOf X 88 = 6:=by kernel_rfl
@[simp] theorem bod88:bodied X 88 = true:=by kernel_rfl
@[simp] theorem par88:paramsOf X 88 = [3]:=by kernel_rfl
@[simp] theorem nt89:ntOf X 89 = 25:=by kernel_rfl
@[simp] theorem bod89:bodied X 89 = true:=by kernel_rfl
@[simp] theorem par89:paramsOf X 89 = [37]:=by kernel_rfl
@[simp] theorem nt90:ntOf X 90 = 4:=by kernel_rfl
@[simp] theorem bod90:bodied X 90 = true:=by kernel_rfl
@[simp] theorem par90:paramsOf X 90 = [4]:=by kernel_rfl
@[simp] theorem nt93:ntOf X 93 = 5:=by kernel_rfl
@[simp] theorem bod93:bodied X 93 = true:=by kernel_rfl
@[simp] theorem par93:paramsOf X 93 = [3]:=by kernel_rfl
@[simp] theorem nt94:ntOf X 94 = 30:=by kernel_rfl
@[simp] theorem bod94:bodied X 94 = true:=by kernel_rfl
@[simp] theorem par94:paramsOf X 94 = [62,62]:=by kernel_rfl
@[simp] theorem nt95:ntOf X 95 = 8:=by kernel_rfl
@[simp] theorem bod95:bodied X 95 = true:=by kernel_rfl
@[simp] theorem par95:paramsOf X 95 = [9,9]:=by kernel_rfl
@[simp] theorem nt96:ntOf X 96 = 25:=by kernel_rfl
@[simp] theorem bod96:bodied X 96 = true:=by kernel_rfl
@[simp] theorem par96:paramsOf X 96 = [117,3]:=by kernel_rfl
@[simp] theorem nt97:ntOf X 97 = 19:=by kernel_rfl
@[simp] theorem bod97:bodied X 97 = true:=by kernel_rfl
@[simp] theorem par97:paramsOf X 97 = [117,9]:=by kernel_rfl
@[simp] theorem nt98:ntOf X 98 = 8:=by kernel_rfl
@[simp] theorem bod98:bodied X 98 = true:=by kernel_rfl
@[simp] theorem par98:paramsOf X 98 = [117]:=by kernel_rfl
@[simp] theorem nt99:ntOf X 99 = 14:=by kernel_rfl
@[simp] theorem bod99:bodied X 99 = true:=by kernel_rfl
@[simp] theorem par99:paramsOf X 99 = [117]:=by kernel_rfl
@[simp] theorem nt104:ntOf X 104 = 18:=by kernel_rfl
@[simp] theorem bod104:bodied X 104 = true:=by kernel_rfl
@[simp] theorem par104:paramsOf X 104 = [9,9]:=by kernel_rfl
@[simp] theorem nt105:ntOf X 105 = 20:=by kernel_rfl
@[simp] theorem bod105:bodied X 105 = true:=by kernel_rfl
@[simp] theorem par105:paramsOf X 105 = [117]:=by kernel_rfl
@[simp] theorem nt106:ntOf X 106 = 30:=by kernel_rfl
@[simp] theorem bod106:bodied X 106 = true:=by kernel_rfl
@[simp] theorem par106:paramsOf X 106 = [117,3]:=by kernel_rfl
@[simp] theorem nt107:ntOf X 107 = 1:=by kernel_rfl
@[simp] theorem par107:paramsOf X 107 = [133]:=by kernel_rfl
@[simp] theorem nt108:ntOf X 108 = 1:=by kernel_rfl
@[simp] theorem par108:paramsOf X 108 = [3]:=by kernel_rfl
@[simp] theorem keep6_7:X.keep 6 7 = some [0,6,16,17]:=by kernel_rfl
@[simp] theorem keep6_13:X.keep 6 13 = some [0,6,16,17]:=by kernel_rfl
@[simp] theorem keep7_15:X.keep 7 15 = some [4,5]:=by kernel_rfl
@[simp] theorem keep9_40:X.keep 9 40 = some [2,12,16,102,103,104]:=by kernel_rfl
@[simp] theorem keep10_24:X.keep 10 24 = some [4,5]:=by kernel_rfl
@[simp] theorem keep15_6:X.keep 15 6 = some [0,1,14,15,16,23]:=by kernel_rfl
@[simp] theorem keep30_3:X.keep 30 3 = some [0,4,5,6,7]:=by kernel_rfl
@[simp] theorem keep32_11:X.keep 32 11 = some [2,3,6]:=by kernel_rfl
@[simp] theorem keep32_13:X.keep 32 13 = some [6]:=by kernel_rfl
@[simp] theorem keep32_16:X.keep 32 16 = some [2,7]:=by kernel_rfl
@[simp] theorem keep33_7:X.keep 33 7 = some [1,6,7,26]:=by kernel_rfl
@[simp] theorem keep42_24:X.keep 42 24 = some [1,4,7,8]:=by kernel_rfl
@[simp] theorem keep46_22:X.keep 46 22 = some [4,5,6]:=by kernel_rfl
@[simp] theorem keep46_23:X.keep 46 23 = some [4,5,6]:=by kernel_rfl
@[simp] theorem keep49_1:X.keep 49 1 = some [1,2,5]:=by kernel_rfl
@[simp] theorem keep49_7:X.keep 49 7 = some [1,2,5,7]:=by kernel_rfl
@[simp] theorem keep52_1:X.keep 52 1 = some [1,3]:=by kernel_rfl
@[simp] theorem dy6_7:X.dy 6 7 = true:=by kernel_rfl
@[simp] theorem dy6_13:X.dy 6 13 = true:=by kernel_rfl
@[simp] theorem dy7_15:X.dy 7 15 = true:=by kernel_rfl
@[simp] theorem dy8_6:X.dy 8 6 = false:=by kernel_rfl
@[simp] theorem dy9_40:X.dy 9 40 = true:=by kernel_rfl
@[simp] theorem dy10_24:X.dy 10 24 = true:=by kernel_rfl
@[simp] theorem dy11_10:X.dy 11 10 = false:=by kernel_rfl
@[simp] theorem dy12_12:X.dy 12 12 = false:=by kernel_rfl
@[simp] theorem dy15_6:X.dy 15 6 = true:=by kernel_rfl
@[simp] theorem dy16_8:X.dy 16 8 = false:=by kernel_rfl
@[simp] theorem dy16_18:X.dy 16 18 = false:=by kernel_rfl
@[simp] theorem dy16_19:X.dy 16 19 = false:=by kernel_rfl
@[simp] theorem dy30_3:X.dy 30 3 = true:=by kernel_rfl
@[simp] theorem dy32_11:X.dy 32 11 = true:=by kernel_rfl
@[simp] theorem dy32_13:X.dy 32 13 = true:=by kernel_rfl
@[simp] theorem dy32_16:X.dy 32 16 = true:=by kernel_rfl
@[simp] theorem dy33_7:X.dy 33 7 = true:=by kernel_rfl
@[simp] theorem dy38_7:X.dy 38 7 = true:=by kernel_rfl
@[simp] theorem dy38_11:X.dy 38 11 = true:=by kernel_rfl
@[simp] theorem dy42_19:X.dy 42 19 = false:=by kernel_rfl
@[simp] theorem dy42_24:X.dy 42 24 = true:=by kernel_rfl
@[simp] theorem dy46_22:X.dy 46 22 = true:=by kernel_rfl
@[simp] theorem dy46_23:X.dy 46 23 = true:=by kernel_rfl
@[simp] theorem dy49_1:X.dy 49 1 = true:=by kernel_rfl
@[simp] theorem dy49_7:X.dy 49 7 = true:=by kernel_rfl
@[simp] theorem dy52_1:X.dy 52 1 = true:=by kernel_rfl
@[simp] theorem dy58_10:X.dy 58 10 = true:=by kernel_rfl
@[simp] theorem dy58_19:X.dy 58 19 = true:=by kernel_rfl
@[simp] theorem dy80_7:X.dy 80 7 = false:=by kernel_rfl
@[simp] theorem dy80_8:X.dy 80 8 = false:=by kernel_rfl
@[simp] theorem dy80_9:X.dy 80 9 = false:=by kernel_rfl
@[simp] theorem dy80_10:X.dy 80 10 = false:=by kernel_rfl
@[simp] theorem dy80_17:X.dy 80 17 = false:=by kernel_rfl
@[simp] theorem dy80_18:X.dy 80 18 = false:=by kernel_rfl
@[simp] theorem dy80_23:X.dy 80 23 = false:=by kernel_rfl
@[simp] theorem dy96_3:X.dy 96 3 = false:=by kernel_rfl
@[simp] theorem dy99_1:X.dy 99 1 = true:=by kernel_rfl
@[simp] theorem dy106_0:X.dy 106 0 = true:=by kernel_rfl
@[simp] theorem size0:sizeT X 0 = 1:=by kernel_rfl
@[simp] theorem bytes0:bytesT X 0 = 0:=by kernel_rfl
@[simp] theorem okT0:okT X 0 = true:=by kernel_rfl
@[simp] theorem isAgg0:isAggT X 0 = false:=by kernel_rfl
@[simp] theorem isInt0:isIntT X 0 = false:=by kernel_rfl
@[simp] theorem isArr0:isArrT X 0 = false:=by kernel_rfl
@[simp] theorem isU80:isU8 X 0 = false:=by kernel_rfl
@[simp] theorem zok0:zeroOk X 0 = true:=by kernel_rfl
@[simp] theorem und2:und X 2 = .int .i64:=by kernel_rfl
@[simp] theorem size2:sizeT X 2 = 1:=by kernel_rfl
@[simp] theorem bytes2:bytesT X 2 = 8:=by kernel_rfl
@[simp] theorem okT2:okT X 2 = true:=by kernel_rfl
@[simp] theorem isAgg2:isAggT X 2 = false:=by kernel_rfl
@[simp] theorem isInt2:isIntT X 2 = true:=by kernel_rfl
@[simp] theorem isArr2:isArrT X 2 = false:=by kernel_rfl
@[simp] theorem isU82:isU8 X 2 = false:=by kernel_rfl
@[simp] theorem zok2:zeroOk X 2 = true:=by kernel_rfl
@[simp] theorem zero2:zeroAV X 2 = .int .i64 0:=by kernel_rfl
@[simp] theorem und3:und X 3 = .int .i64:=by kernel_rfl
@[simp] theorem size3:sizeT X 3 = 1:=by kernel_rfl
@[simp] theorem bytes3:bytesT X 3 = 8:=by kernel_rfl
@[simp] theorem okT3:okT X 3 = true:=by kernel_rfl
@[simp] theorem isAgg3:isAggT X 3 = false:=by kernel_rfl
@[simp] theorem isInt3:isIntT X 3 = true:=by kernel_rfl
@[simp] theorem isArr3:isArrT X 3 = false:=by kernel_rfl
@[simp] theorem isU83:isU8 X 3 = false:=by kernel_rfl
@[simp] theorem zok3:zeroOk X 3 = true:=by kernel_rfl
@[simp] theorem zero3:zeroAV X 3 = .int .i64 0:=by kernel_rfl
@[simp] theorem und4:und X 4 = .bool:=by kernel_rfl
@[simp] theorem size4:sizeT X 4 = 1:=by kernel_rfl
@[simp] theorem bytes4:bytesT X 4 = 1:=by kernel_rfl
@[simp] theorem okT4:okT X 4 = true:=by kernel_rfl
@[simp] theorem isAgg4:isAggT X 4 = false:=by kernel_rfl
@[simp] theorem isInt4:isIntT X 4 = false:=by kernel_rfl
@[simp] theorem isArr4:isArrT X 4 = false:=by kernel_rfl
@[simp] theorem isU84:isU8 X 4 = false:=by kernel_rfl
@[simp] theorem zok4:zeroOk X 4 = true:=by kernel_rfl
@[simp] theorem zero4:zeroAV X 4 = .bool false:=by kernel_rfl
@[simp] theorem und5:und X 5 = .int .u8:=by kernel_rfl
@[simp] theorem size5:sizeT X 5 = 1:=by kernel_rfl
@[simp] theorem bytes5:bytesT X 5 = 1:=by kernel_rfl
@[simp] theorem okT5:okT X 5 = true:=by kernel_rfl
@[simp] theorem isAgg5:isAggT X 5 = false:=by kernel_rfl
@[simp] theorem isInt5:isIntT X 5 = true:=by kernel_rfl
@[simp] theorem isArr5:isArrT X 5 = false:=by kernel_rfl
@[simp] theorem isU85:isU8 X 5 = true:=by kernel_rfl
@[simp] theorem zok5:zeroOk X 5 = true:=by kernel_rfl
@[simp] theorem zero5:zeroAV X 5 = .int .u8 0:=by kernel_rfl
@[simp] theorem und9:und X 9 = .string:=by kernel_rfl
@[simp] theorem size9:sizeT X 9 = 1:=by kernel_rfl
@[simp] theorem bytes9:bytesT X 9 = 16:=by kernel_rfl
@[simp] theorem okT9:okT X 9 = true:=by kernel_rfl
@[simp] theorem isAgg9:isAggT X 9 = false:=by kernel_rfl
@[simp] theorem isInt9:isIntT X 9 = false:=by kernel_rfl
@[simp] theorem isArr9:isArrT X 9 = false:=by kernel_rfl
@[simp] theorem isU89:isU8 X 9 = false:=by kernel_rfl
@[simp] theorem zok9:zeroOk X 9 = true:=by kernel_rfl
@[simp] theorem zero9:zeroAV X 9 = .str []:=by kernel_rfl
@[simp] theorem size20:sizeT X 20 = 1:=by kernel_rfl
@[simp] theorem bytes20:bytesT X 20 = 16:=by kernel_rfl
@[simp] theorem okT20:okT X 20 = true:=by kernel_rfl
@[simp] theorem isAgg20:isAggT X 20 = false:=by kernel_rfl
@[simp] theorem isInt20:isIntT X 20 = false:=by kernel_rfl
@[simp] theorem isArr20:isArrT X 20 = false:=by kernel_rfl
@[simp] theorem isU820:isU8 X 20 = false:=by kernel_rfl
@[simp] theorem zok20:zeroOk X 20 = true:=by kernel_rfl
@[simp] theorem und22:und X 22 = .slice 5:=by kernel_rfl
@[simp] theorem size22:sizeT X 22 = 1:=by kernel_rfl
@[simp] theorem bytes22:bytesT X 22 = 24:=by kernel_rfl
@[simp] theorem okT22:okT X 22 = true:=by kernel_rfl
@[simp] theorem isAgg22:isAggT X 22 = false:=by kernel_rfl
@[simp] theorem isInt22:isIntT X 22 = false:=by kernel_rfl
@[simp] theorem isArr22:isArrT X 22 = false:=by kernel_rfl
@[simp] theorem isU822:isU8 X 22 = false:=by kernel_rfl
@[simp] theorem zok22:zeroOk X 22 = true:=by kernel_rfl
@[simp] theorem zero22:zeroAV X 22 = .ro 0 .pn 0:=by kernel_rfl
@[simp] theorem und23:und X 23 = .slice 44:=by kernel_rfl
@[simp] theorem size23:sizeT X 23 = 1:=by kernel_rfl
@[simp] theorem bytes23:bytesT X 23 = 24:=by kernel_rfl
@[simp] theorem okT23:okT X 23 = true:=by kernel_rfl
@[simp] theorem isAgg23:isAggT X 23 = false:=by kernel_rfl
@[simp] theorem isInt23:isIntT X 23 = false:=by kernel_rfl
@[simp] theorem isArr23:isArrT X 23 = false:=by kernel_rfl
@[simp] theorem isU823:isU8 X 23 = false:=by kernel_rfl
@[simp] theorem zok23:zeroOk X 23 = true:=by kernel_rfl
@[simp] theorem zero23:zeroAV X 23 = .ro 0 .pn 0:=by kernel_rfl
@[simp] theorem und26:und X 26 = .slice 41:=by kernel_rfl
@[simp] theorem size26:sizeT X 26 = 1:=by kernel_rfl
@[simp] theorem bytes26:bytesT X 26 = 24:=by kernel_rfl
@[simp] theorem okT26:okT X 26 = true:=by kernel_rfl
@[simp] theorem isAgg26:isAggT X 26 = false:=by kernel_rfl
@[simp] theorem isInt26:isIntT X 26 = false:=by kernel_rfl
@[simp] theorem isArr26:isArrT X 26 = false:=by kernel_rfl
@[simp] theorem isU826:isU8 X 26 = false:=by kernel_rfl
@[simp] theorem zok26:zeroOk X 26 = true:=by kernel_rfl
@[simp] theorem zero26:zeroAV X 26 = .ro 0 .pn 0:=by kernel_rfl
@[simp] theorem und27:und X 27 = .int .i64:=by kernel_rfl
@[simp] theorem size27:sizeT X 27 = 1:=by kernel_rfl
@[simp] theorem bytes27:bytesT X 27 = 8:=by kernel_rfl
@[simp] theorem okT27:okT X 27 = true:=by kernel_rfl
@[simp] theorem isAgg27:isAggT X 27 = false:=by kernel_rfl
@[simp] theorem isInt27:isIntT X 27 = true:=by kernel_rfl
@[simp] theorem isArr27:isArrT X 27 = false:=by kernel_rfl
@[simp] theorem isU827:isU8 X 27 = false:=by kernel_rfl
@[simp] theorem zok27:zeroOk X 27 = true:=by kernel_rfl
@[simp] theorem zero27:zeroAV X 27 = .int .i64 0:=by kernel_rfl
@[simp] theorem size28:sizeT X 28 = 1:=by kernel_rfl
@[simp] theorem bytes28:bytesT X 28 = 0:=by kernel_rfl
@[simp] theorem okT28:okT X 28 = true:=by kernel_rfl
@[simp] theorem isAgg28:isAggT X 28 = false:=by kernel_rfl
@[simp] theorem isInt28:isIntT X 28 = false:=by kernel_rfl
@[simp] theorem isArr28:isArrT X 28 = false:=by kernel_rfl
@[simp] theorem isU828:isU8 X 28 = false:=by kernel_rfl
@[simp] theorem zok28:zeroOk X 28 = true:=by kernel_rfl
@[simp] theorem size32:sizeT X 32 = 1:=by kernel_rfl
@[simp] theorem bytes32:bytesT X 32 = 0:=by kernel_rfl
@[simp] theorem okT32:okT X 32 = true:=by kernel_rfl
@[simp] theorem isAgg32:isAggT X 32 = false:=by kernel_rfl
@[simp] theorem isInt32:isIntT X 32 = false:=by kernel_rfl
@[simp] theorem isArr32:isArrT X 32 = false:=by kernel_rfl
@[simp] theorem isU832:isU8 X 32 = false:=by kernel_rfl
@[simp] theorem zok32:zeroOk X 32 = true:=by kernel_rfl
@[simp] theorem und37:und X 37 = .int .u64:=by kernel_rfl
@[simp] theorem size37:sizeT X 37 = 1:=by kernel_rfl
@[simp] theorem bytes37:bytesT X 37 = 8:=by kernel_rfl
@[simp] theorem okT37:okT X 37 = true:=by kernel_rfl
@[simp] theorem isAgg37:isAggT X 37 = false:=by kernel_rfl
@[simp] theorem isInt37:isIntT X 37 = true:=by kernel_rfl
@[simp] theorem isArr37:isArrT X 37 = false:=by kernel_rfl
@[simp] theorem isU837:isU8 X 37 = false:=by kernel_rfl
@[simp] theorem zok37:zeroOk X 37 = true:=by kernel_rfl
@[simp] theorem zero37:zeroAV X 37 = .int .u64 0:=by kernel_rfl
@[simp] theorem size39:sizeT X 39 = 8:=by kernel_rfl
@[simp] theorem bytes39:bytesT X 39 = 64:=by kernel_rfl
@[simp] theorem okT39:okT X 39 = true:=by kernel_rfl
@[simp] theorem isAgg39:isAggT X 39 = true:=by kernel_rfl
@[simp] theorem isInt39:isIntT X 39 = false:=by kernel_rfl
@[simp] theorem isArr39:isArrT X 39 = false:=by kernel_rfl
@[simp] theorem isU839:isU8 X 39 = false:=by kernel_rfl
@[simp] theorem zok39:zeroOk X 39 = true:=by kernel_rfl
@[simp] theorem zero39:zeroAV X 39 = .agg (.pc [.bool false,.int .i64 0,.int .i64 0,.int .i64 0,.int .i64 0,.int .i64 0,.int .i64 0,.int .i64 0]):=by kernel_rfl
@[simp] theorem size41:sizeT X 41 = 12:=by kernel_rfl
@[simp] theorem bytes41:bytesT X 41 = 104:=by kernel_rfl
@[simp] theorem okT41:okT X 41 = true:=by kernel_rfl
@[simp] theorem isAgg41:isAggT X 41 = true:=by kernel_rfl
@[simp] theorem isInt41:isIntT X 41 = false:=by kernel_rfl
@[simp] theorem isArr41:isArrT X 41 = false:=by kernel_rfl
@[simp] theorem isU841:isU8 X 41 = false:=by kernel_rfl
@[simp] theorem zok41:zeroOk X 41 = true:=by kernel_rfl
@[simp] theorem zero41:zeroAV X 41 = .agg (.pc [.int .i64 0,.int .i64 0,.int .u64 0,.str [],.bool false,.int .i64 0,.int .i64 0,.int .i64 0,.int .i64 0,.int .i64 0,.int .i64 0,.int .i64 0]):=by kernel_rfl
@[simp] theorem size44:sizeT X 44 = 2:=by kernel_rfl
@[simp] theorem bytes44:bytesT X 44 = 2:=by kernel_rfl
@[simp] theorem okT44:okT X 44 = true:=by kernel_rfl
@[simp] theorem isAgg44:isAggT X 44 = true:=by kernel_rfl
@[simp] theorem isInt44:isIntT X 44 = false:=by kernel_rfl
@[simp] theorem isArr44:isArrT X 44 = false:=by kernel_rfl
@[simp] theorem isU844:isU8 X 44 = false:=by kernel_rfl
@[simp] theorem zok44:zeroOk X 44 = true:=by kernel_rfl
@[simp] theorem zero44:zeroAV X 44 = .agg (.pc [.int .u8 0,.bool false]):=by kernel_rfl
@[simp] theorem size45:sizeT X 45 = 1:=by kernel_rfl
@[simp] theorem bytes45:bytesT X 45 = 0:=by kernel_rfl
@[simp] theorem okT45:okT X 45 = true:=by kernel_rfl
@[simp] theorem isAgg45:isAggT X 45 = false:=by kernel_rfl
@[simp] theorem isInt45:isIntT X 45 = false:=by kernel_rfl
@[simp] theorem isArr45:isArrT X 45 = false:=by kernel_rfl
@[simp] theorem isU845:isU8 X 45 = false:=by kernel_rfl
@[simp] theorem zok45:zeroOk X 45 = true:=by kernel_rfl
@[simp] theorem und47:und X 47 = .pointer 49:=by kernel_rfl
@[simp] theorem size47:sizeT X 47 = 1:=by kernel_rfl
@[simp] theorem bytes47:bytesT X 47 = 8:=by kernel_rfl
@[simp] theorem okT47:okT X 47 = true:=by kernel_rfl
@[simp] theorem isAgg47:isAggT X 47 = false:=by kernel_rfl
@[simp] theorem isInt47:isIntT X 47 = false:=by kernel_rfl
@[simp] theorem isArr47:isArrT X 47 = false:=by kernel_rfl
@[simp] theorem isU847:isU8 X 47 = false:=by kernel_rfl
@[simp] theorem zok47:zeroOk X 47 = true:=by kernel_rfl
@[simp] theorem zero47:zeroAV X 47 = .nilptr:=by kernel_rfl
@[simp] theorem size49:sizeT X 49 = 2:=by kernel_rfl
@[simp] theorem bytes49:bytesT X 49 = 32:=by kernel_rfl
@[simp] theorem okT49:okT X 49 = true:=by kernel_rfl
@[simp] theorem isAgg49:isAggT X 49 = true:=by kernel_rfl
@[simp] theorem isInt49:isIntT X 49 = false:=by kernel_rfl
@[simp] theorem isArr49:isArrT X 49 = false:=by kernel_rfl
@[simp] theorem isU849:isU8 X 49 = false:=by kernel_rfl
@[simp] theorem zok49:zeroOk X 49 = true:=by kernel_rfl
@[simp] theorem zero49:zeroAV X 49 = .agg (.pc [.ro 0 .pn 0,.int .i64 0]):=by kernel_rfl
@[simp] theorem size55:sizeT X 55 = 1:=by kernel_rfl
@[simp] theorem bytes55:bytesT X 55 = 8:=by kernel_rfl
@[simp] theorem okT55:okT X 55 = true:=by kernel_rfl
@[simp] theorem isAgg55:isAggT X 55 = false:=by kernel_rfl
@[simp] theorem isInt55:isIntT X 55 = false:=by kernel_rfl
@[simp] theorem isArr55:isArrT X 55 = false:=by kernel_rfl
@[simp] theorem isU855:isU8 X 55 = false:=by kernel_rfl
@[simp] theorem zok55:zeroOk X 55 = true:=by kernel_rfl
@[simp] theorem zero55:zeroAV X 55 = .nilfn:=by kernel_rfl
@[simp] theorem size56:sizeT X 56 = 1:=by kernel_rfl
@[simp] theorem bytes56:bytesT X 56 = 8:=by kernel_rfl
@[simp] theorem okT56:okT X 56 = true:=by kernel_rfl
@[simp] theorem isAgg56:isAggT X 56 = false:=by kernel_rfl
@[simp] theorem isInt56:isIntT X 56 = false:=by kernel_rfl
@[simp] theorem isArr56:isArrT X 56 = false:=by kernel_rfl
@[simp] theorem isU856:isU8 X 56 = false:=by kernel_rfl
@[simp] theorem zok56:zeroOk X 56 = true:=by kernel_rfl
@[simp] theorem zero56:zeroAV X 56 = .nilfn:=by kernel_rfl
@[simp] theorem size57:sizeT X 57 = 1:=by kernel_rfl
@[simp] theorem bytes57:bytesT X 57 = 0:=by kernel_rfl
@[simp] theorem okT57:okT X 57 = true:=by kernel_rfl
@[simp] theorem isAgg57:isAggT X 57 = false:=by kernel_rfl
@[simp] theorem isInt57:isIntT X 57 = false:=by kernel_rfl
@[simp] theorem isArr57:isArrT X 57 = false:=by kernel_rfl
@[simp] theorem isU857:isU8 X 57 = false:=by kernel_rfl
@[simp] theorem zok57:zeroOk X 57 = true:=by kernel_rfl
@[simp] theorem und62:und X 62 = .int .u64:=by kernel_rfl
@[simp] theorem size62:sizeT X 62 = 1:=by kernel_rfl
@[simp] theorem bytes62:bytesT X 62 = 8:=by kernel_rfl
@[simp] theorem okT62:okT X 62 = true:=by kernel_rfl
@[simp] theorem isAgg62:isAggT X 62 = false:=by kernel_rfl
@[simp] theorem isInt62:isIntT X 62 = true:=by kernel_rfl
@[simp] theorem isArr62:isArrT X 62 = false:=by kernel_rfl
@[simp] theorem isU862:isU8 X 62 = false:=by kernel_rfl
@[simp] theorem zok62:zeroOk X 62 = true:=by kernel_rfl
@[simp] theorem zero62:zeroAV X 62 = .int .u64 0:=by kernel_rfl
@[simp] theorem size64:sizeT X 64 = 1:=by kernel_rfl
@[simp] theorem bytes64:bytesT X 64 = 0:=by kernel_rfl
@[simp] theorem okT64:okT X 64 = true:=by kernel_rfl
@[simp] theorem isAgg64:isAggT X 64 = false:=by kernel_rfl
@[simp] theorem isInt64:isIntT X 64 = false:=by kernel_rfl
@[simp] theorem isArr64:isArrT X 64 = false:=by kernel_rfl
@[simp] theorem isU864:isU8 X 64 = false:=by kernel_rfl
@[simp] theorem zok64:zeroOk X 64 = true:=by kernel_rfl
@[simp] theorem size70:sizeT X 70 = 1:=by kernel_rfl
@[simp] theorem bytes70:bytesT X 70 = 0:=by kernel_rfl
@[simp] theorem okT70:okT X 70 = true:=by kernel_rfl
@[simp] theorem isAgg70:isAggT X 70 = false:=by kernel_rfl
@[simp] theorem isInt70:isIntT X 70 = false:=by kernel_rfl
@[simp] theorem isArr70:isArrT X 70 = false:=by kernel_rfl
@[simp] theorem isU870:isU8 X 70 = false:=by kernel_rfl
@[simp] theorem zok70:zeroOk X 70 = true:=by kernel_rfl
@[simp] theorem size73:sizeT X 73 = 1:=by kernel_rfl
@[simp] theorem bytes73:bytesT X 73 = 0:=by kernel_rfl
@[simp] theorem okT73:okT X 73 = true:=by kernel_rfl
@[simp] theorem isAgg73:isAggT X 73 = false:=by kernel_rfl
@[simp] theorem isInt73:isIntT X 73 = false:=by kernel_rfl
@[simp] theorem isArr73:isArrT X 73 = false:=by kernel_rfl
@[simp] theorem isU873:isU8 X 73 = false:=by kernel_rfl
@[simp] theorem zok73:zeroOk X 73 = true:=by kernel_rfl
@[simp] theorem size76:sizeT X 76 = 1:=by kernel_rfl
@[simp] theorem bytes76:bytesT X 76 = 0:=by kernel_rfl
@[simp] theorem okT76:okT X 76 = true:=by kernel_rfl
@[simp] theorem isAgg76:isAggT X 76 = false:=by kernel_rfl
@[simp] theorem isInt76:isIntT X 76 = false:=by kernel_rfl
@[simp] theorem isArr76:isArrT X 76 = false:=by kernel_rfl
@[simp] theorem isU876:isU8 X 76 = false:=by kernel_rfl
@[simp] theorem zok76:zeroOk X 76 = true:=by kernel_rfl
@[simp] theorem und86:und X 86 = .array 256 9:=by kernel_rfl
@[simp] theorem size86:sizeT X 86 = 256:=by kernel_rfl
@[simp] theorem bytes86:bytesT X 86 = 4096:=by kernel_rfl
@[simp] theorem okT86:okT X 86 = true:=by kernel_rfl
@[simp] theorem isAgg86:isAggT X 86 = true:=by kernel_rfl
@[simp] theorem isInt86:isIntT X 86 = false:=by kernel_rfl
@[simp] theorem isArr86:isArrT X 86 = true:=by kernel_rfl
@[simp] theorem isU886:isU8 X 86 = false:=by kernel_rfl
@[simp] theorem zok86:zeroOk X 86 = true:=by kernel_rfl
@[simp] theorem zero86:zeroAV X 86 = .agg (.pc [.str [],.str [],.str [],.str [],.str [],.str [],.str [],.str [],.str [],.str [],.str [],.str [],.str [],.str [],.str [],.str [],.str [],.str [],.str [],.str [],.str [],.str [],.str [],.str [],.str [],.str [],.str [],.str [],.str [],.str [],.str [],.str [],.str [],.str [],.str [],.str [],.str [],.str [],.str [],.str [],.str [],.str [],.str [],.str [],.str [],.str [],.str [],.str [],.str [],.str [],.str [],.str [],.str [],.str [],.str [],.str [],.str [],.str [],.str [],.str [],.str [],.str [],.str [],.str [],.str [],.str [],.str [],.str [],.str [],.str [],.str [],.str [],.str [],.str [],.str [],.str [],.str [],.str [],.str [],.str [],.str [],.str [],.str [],.str [],.str [],.str [],.str [],.str [],.str [],.str [],.str [],.str [],.str [],.str [],.str [],.str [],.str [],.str [],.str [],.str [],.str [],.str [],.str [],.str [],.str [],.str [],.str [],.str [],.str [],.str [],.str [],.str [],.str [],.str [],.str [],.str [],.str [],.str [],.str [],.str [],.str [],.str [],.str [],.str [],.str [],.str [],.str [],.str [],.str [],.str [],.str [],.str [],.str [],.str [],.str [],.str [],.str [],.str [],.str [],.str [],.str [],.str [],.str [],.str [],.str [],.str [],.str [],.str [],.str [],.str [],.str [],.str [],.str [],.str [],.str [],.str [],.str [],.str [],.str [],.str [],.str [],.str [],.str [],.str [],.str [],.str [],.str [],.str [],.str [],.str [],.str [],.str [],.str [],.str [],.str [],.str [],.str [],.str [],.str [],.str [],.str [],.str [],.str [],.str [],.str [],.str [],.str [],.str [],.str [],.str [],.str [],.str [],.str [],.str [],.str [],.str [],.str [],.str [],.str [],.str [],.str [],.str [],.str [],.str [],.str [],.str [],.str [],.str [],.str [],.str [],.str [],.str [],.str [],.str [],.str [],.str [],.str [],.str [],.str [],.str [],.str [],.str [],.str [],.str [],.str [],.str [],.str [],.str [],.str [],.str [],.str [],.str [],.str [],.str [],.str [],.str [],.str [],.str [],.str [],.str [],.str [],.str [],.str [],.str [],.str [],.str [],.str [],.str [],.str [],.str [],.str [],.str [],.str [],.str [],.str [],.str []]):=by kernel_rfl
@[simp] theorem und88:und X 88 = .slice 3:=by kernel_rfl
@[simp] theorem size88:sizeT X 88 = 1:=by kernel_rfl
@[simp] theorem bytes88:bytesT X 88 = 24:=by kernel_rfl
@[simp] theorem okT88:okT X 88 = true:=by kernel_rfl
@[simp] theorem isAgg88:isAggT X 88 = false:=by kernel_rfl
@[simp] theorem isInt88:isIntT X 88 = false:=by kernel_rfl
@[simp] theorem isArr88:isArrT X 88 = false:=by kernel_rfl
@[simp] theorem isU888:isU8 X 88 = false:=by kernel_rfl
@[simp] theorem zok88:zeroOk X 88 = true:=by kernel_rfl
@[simp] theorem zero88:zeroAV X 88 = .ro 0 .pn 0:=by kernel_rfl
@[simp] theorem size89:sizeT X 89 = 1:=by kernel_rfl
@[simp] theorem bytes89:bytesT X 89 = 8:=by kernel_rfl
@[simp] theorem okT89:okT X 89 = true:=by kernel_rfl
@[simp] theorem isAgg89:isAggT X 89 = false:=by kernel_rfl
@[simp] theorem isInt89:isIntT X 89 = false:=by kernel_rfl
@[simp] theorem isArr89:isArrT X 89 = false:=by kernel_rfl
@[simp] theorem isU889:isU8 X 89 = false:=by kernel_rfl
@[simp] theorem zok89:zeroOk X 89 = true:=by kernel_rfl
@[simp] theorem zero89:zeroAV X 89 = .nilfn:=by kernel_rfl
@[simp] theorem size97:sizeT X 97 = 1:=by kernel_rfl
@[simp] theorem bytes97:bytesT X 97 = 0:=by kernel_rfl
@[simp] theorem okT97:okT X 97 = true:=by kernel_rfl
@[simp] theorem isAgg97:isAggT X 97 = false:=by kernel_rfl
@[simp] theorem isInt97:isIntT X 97 = false:=by kernel_rfl
@[simp] theorem isArr97:isArrT X 97 = false:=by kernel_rfl
@[simp] theorem isU897:isU8 X 97 = false:=by kernel_rfl
@[simp] theorem zok97:zeroOk X 97 = true:=by kernel_rfl
@[simp] theorem und100:und X 100 = .slice 9:=by kernel_rfl
@[simp] theorem size100:sizeT X 100 = 1:=by kernel_rfl
@[simp] theorem bytes100:bytesT X 100 = 24:=by kernel_rfl
@[simp] theorem okT100:okT X 100 = true:=by kernel_rfl
@[simp] theorem isAgg100:isAggT X 100 = false:=by kernel_rfl
@[simp] theorem isInt100:isIntT X 100 = false:=by kernel_rfl
@[simp] theorem isArr100:isArrT X 100 = false:=by kernel_rfl
@[simp] theorem isU8100:isU8 X 100 = false:=by kernel_rfl
@[simp] theorem zok100:zeroOk X 100 = true:=by kernel_rfl
@[simp] theorem zero100:zeroAV X 100 = .ro 0 .pn 0:=by kernel_rfl
@[simp] theorem und102:und X 102 = .array 24 5:=by kernel_rfl
@[simp] theorem size102:sizeT X 102 = 24:=by kernel_rfl
@[simp] theorem bytes102:bytesT X 102 = 24:=by kernel_rfl
@[simp] theorem okT102:okT X 102 = true:=by kernel_rfl
@[simp] theorem isAgg102:isAggT X 102 = true:=by kernel_rfl
@[simp] theorem isInt102:isIntT X 102 = false:=by kernel_rfl
@[simp] theorem isArr102:isArrT X 102 = true:=by kernel_rfl
@[simp] theorem isU8102:isU8 X 102 = false:=by kernel_rfl
@[simp] theorem zok102:zeroOk X 102 = true:=by kernel_rfl
@[simp] theorem zero102:zeroAV X 102 = .agg (.pb [0,0,0,0,0,0,0,0,0,0,0,0,0,0,0,0,0,0,0,0,0,0,0,0]):=by kernel_rfl
@[simp] theorem size105:sizeT X 105 = 1:=by kernel_rfl
@[simp] theorem bytes105:bytesT X 105 = 0:=by kernel_rfl
@[simp] theorem okT105:okT X 105 = true:=by kernel_rfl
@[simp] theorem isAgg105:isAggT X 105 = false:=by kernel_rfl
@[simp] theorem isInt105:isIntT X 105 = false:=by kernel_rfl
@[simp] theorem isArr105:isArrT X 105 = false:=by kernel_rfl
@[simp] theorem isU8105:isU8 X 105 = false:=by kernel_rfl
@[simp] theorem zok105:zeroOk X 105 = true:=by kernel_rfl
@[simp] theorem und110:und X 110 = .array 20 37:=by kernel_rfl
@[simp] theorem size110:sizeT X 110 = 20:=by kernel_rfl
@[simp] theorem bytes110:bytesT X 110 = 160:=by kernel_rfl
@[simp] theorem okT110:okT X 110 = true:=by kernel_rfl
@[simp] theorem isAgg110:isAggT X 110 = true:=by kernel_rfl
@[simp] theorem isInt110:isIntT X 110 = false:=by kernel_rfl
@[simp] theorem isArr110:isArrT X 110 = true:=by kernel_rfl
@[simp] theorem isU8110:isU8 X 110 = false:=by kernel_rfl
@[simp] theorem zok110:zeroOk X 110 = true:=by kernel_rfl
@[simp] theorem zero110:zeroAV X 110 = .agg (.pi .u64 [0,0,0,0,0,0,0,0,0,0,0,0,0,0,0,0,0,0,0,0]):=by kernel_rfl
@[simp] theorem und111:und X 111 = .int .u32:=by kernel_rfl
@[simp] theorem size111:sizeT X 111 = 1:=by kernel_rfl
@[simp] theorem bytes111:bytesT X 111 = 4:=by kernel_rfl
@[simp] theorem okT111:okT X 111 = true:=by kernel_rfl
@[simp] theorem isAgg111:isAggT X 111 = false:=by kernel_rfl
@[simp] theorem isInt111:isIntT X 111 = true:=by kernel_rfl
@[simp] theorem isArr111:isArrT X 111 = false:=by kernel_rfl
@[simp] theorem isU8111:isU8 X 111 = false:=by kernel_rfl
@[simp] theorem zok111:zeroOk X 111 = true:=by kernel_rfl
@[simp] theorem zero111:zeroAV X 111 = .int .u32 0:=by kernel_rfl
@[simp] theorem size114:sizeT X 114 = 1:=by kernel_rfl
@[simp] theorem bytes114:bytesT X 114 = 0:=by kernel_rfl
@[simp] theorem okT114:okT X 114 = true:=by kernel_rfl
@[simp] theorem isAgg114:isAggT X 114 = false:=by kernel_rfl
@[simp] theorem isInt114:isIntT X 114 = false:=by kernel_rfl
@[simp] theorem isArr114:isArrT X 114 = false:=by kernel_rfl
@[simp] theorem isU8114:isU8 X 114 = false:=by kernel_rfl
@[simp] theorem zok114:zeroOk X 114 = true:=by kernel_rfl
@[simp] theorem und117:und X 117 = .pointer 119:=by kernel_rfl
@[simp] theorem size117:sizeT X 117 = 1:=by kernel_rfl
@[simp] theorem bytes117:bytesT X 117 = 8:=by kernel_rfl
@[simp] theorem okT117:okT X 117 = true:=by kernel_rfl
@[simp] theorem isAgg117:isAggT X 117 = false:=by kernel_rfl
@[simp] theorem isInt117:isIntT X 117 = false:=by kernel_rfl
@[simp] theorem isArr117:isArrT X 117 = false:=by kernel_rfl
@[simp] theorem isU8117:isU8 X 117 = false:=by kernel_rfl
@[simp] theorem zok117:zeroOk X 117 = true:=by kernel_rfl
@[simp] theorem zero117:zeroAV X 117 = .nilptr:=by kernel_rfl
@[simp] theorem size119:sizeT X 119 = 2:=by kernel_rfl
@[simp] theorem bytes119:bytesT X 119 = 32:=by kernel_rfl
@[simp] theorem okT119:okT X 119 = true:=by kernel_rfl
@[simp] theorem isAgg119:isAggT X 119 = true:=by kernel_rfl
@[simp] theorem isInt119:isIntT X 119 = false:=by kernel_rfl
@[simp] theorem isArr119:isArrT X 119 = false:=by kernel_rfl
@[simp] theorem isU8119:isU8 X 119 = false:=by kernel_rfl
@[simp] theorem zok119:zeroOk X 119 = true:=by kernel_rfl
@[simp] theorem zero119:zeroAV X 119 = .agg (.pc [.nilptr,.ro 0 .pn 0]):=by kernel_rfl
@[simp] theorem size121:sizeT X 121 = 1:=by kernel_rfl
@[simp] theorem bytes121:bytesT X 121 = 16:=by kernel_rfl
@[simp] theorem okT121:okT X 121 = true:=by kernel_rfl
@[simp] theorem isAgg121:isAggT X 121 = false:=by kernel_rfl
@[simp] theorem isInt121:isIntT X 121 = false:=by kernel_rfl
@[simp] theorem isArr121:isArrT X 121 = false:=by kernel_rfl
@[simp] theorem isU8121:isU8 X 121 = false:=by kernel_rfl
@[simp] theorem zok121:zeroOk X 121 = true:=by kernel_rfl
@[simp] theorem size122:sizeT X 122 = 1:=by kernel_rfl
@[simp] theorem bytes122:bytesT X 122 = 0:=by kernel_rfl
@[simp] theorem okT122:okT X 122 = true:=by kernel_rfl
@[simp] theorem isAgg122:isAggT X 122 = false:=by kernel_rfl
@[simp] theorem isInt122:isIntT X 122 = false:=by kernel_rfl
@[simp] theorem isArr122:isArrT X 122 = false:=by kernel_rfl
@[simp] theorem isU8122:isU8 X 122 = false:=by kernel_rfl
@[simp] theorem zok122:zeroOk X 122 = true:=by kernel_rfl
@[simp] theorem und130:und X 130 = .pointer 5:=by kernel_rfl
@[simp] theorem size130:sizeT X 130 = 1:=by kernel_rfl
@[simp] theorem bytes130:bytesT X 130 = 8:=by kernel_rfl
@[simp] theorem okT130:okT X 130 = true:=by kernel_rfl
@[simp] theorem isAgg130:isAggT X 130 = false:=by kernel_rfl
@[simp] theorem isInt130:isIntT X 130 = false:=by kernel_rfl
@[simp] theorem isArr130:isArrT X 130 = false:=by kernel_rfl
@[simp] theorem isU8130:isU8 X 130 = false:=by kernel_rfl
@[simp] theorem zok130:zeroOk X 130 = true:=by kernel_rfl
@[simp] theorem zero130:zeroAV X 130 = .nilptr:=by kernel_rfl
@[simp] theorem size133:sizeT X 133 = 1:=by kernel_rfl
@[simp] theorem bytes133:bytesT X 133 = 8:=by kernel_rfl
@[simp] theorem okT133:okT X 133 = true:=by kernel_rfl
@[simp] theorem isAgg133:isAggT X 133 = false:=by kernel_rfl
@[simp] theorem isInt133:isIntT X 133 = false:=by kernel_rfl
@[simp] theorem isArr133:isArrT X 133 = false:=by kernel_rfl
@[simp] theorem isU8133:isU8 X 133 = false:=by kernel_rfl
@[simp] theorem zok133:zeroOk X 133 = true:=by kernel_rfl
@[simp] theorem zero133:zeroAV X 133 = .nilptr:=by kernel_rfl
@[simp] theorem fa39_0 (H:AM.Heap) (x:AV):fieldAddrV X H 39 x 0 = faV H x 0:=fieldAddr_of (ty:=4) (by kernel_rfl) (by kernel_rfl) H x
@[simp] theorem fv39_0 (x:AV):fieldV X 39 x 0 = fvV X x 0 4:=field_of (by kernel_rfl) x
@[simp] theorem fa39_1 (H:AM.Heap) (x:AV):fieldAddrV X H 39 x 1 = faV H x 1:=fieldAddr_of (ty:=3) (by kernel_rfl) (by kernel_rfl) H x
@[simp] theorem fv39_1 (x:AV):fieldV X 39 x 1 = fvV X x 1 3:=field_of (by kernel_rfl) x
@[simp] theorem fa39_2 (H:AM.Heap) (x:AV):fieldAddrV X H 39 x 2 = faV H x 2:=fieldAddr_of (ty:=3) (by kernel_rfl) (by kernel_rfl) H x
@[simp] theorem fv39_2 (x:AV):fieldV X 39 x 2 = fvV X x 2 3:=field_of (by kernel_rfl) x
@[simp] theorem fa39_3 (H:AM.Heap) (x:AV):fieldAddrV X H 39 x 3 = faV H x 3:=fieldAddr_of (ty:=3) (by kernel_rfl) (by kernel_rfl) H x
@[simp] theorem fv39_3 (x:AV):fieldV X 39 x 3 = fvV X x 3 3:=field_of (by kernel_rfl) x
@[simp] theorem fa39_4 (H:AM.Heap) (x:AV):fieldAddrV X H 39 x 4 = faV H x 4:=fieldAddr_of (ty:=3) (by kernel_rfl) (by kernel_rfl) H x
@[simp] theorem fv39_4 (x:AV):fieldV X 39 x 4 = fvV X x 4 3:=field_of (by kernel_rfl) x
@[simp] theorem fa39_5 (H:AM.Heap) (x:AV):fieldAddrV X H 39 x 5 = faV H x 5:=fieldAddr_of (ty:=3) (by kernel_rfl) (by kernel_rfl) H x
@[simp] theorem fv39_5 (x:AV):fieldV X 39 x 5 = fvV X x 5 3:=field_of (by kernel_rfl) x
@[simp] theorem fa39_6 (H:AM.Heap) (x:AV):fieldAddrV X H 39 x 6 = faV H x 6:=fieldAddr_of (ty:=3) (by kernel_rfl) (by kernel_rfl) H x
@[simp] theorem fv39_6 (x:AV):fieldV X 39 x 6 = fvV X x 6 3:=field_of (by kernel_rfl) x
@[simp] theorem fa39_7 (H:AM.Heap) (x:AV):fieldAddrV X H 39 x 7 = faV H x 7:=fieldAddr_of (ty:=3) (by kernel_rfl) (by kernel_rfl) H x
@[simp] theorem fv39_7 (x:AV):fieldV X 39 x 7 = fvV X x 7 3:=field_of (by kernel_rfl) x
@[simp] theorem fa41_0 (H:AM.Heap) (x:AV):fieldAddrV X H 41 x 0 = faV H x 0:=fieldAddr_of (ty:=3) (by kernel_rfl) (by kernel_rfl) H x
@[simp] theorem fv41_0 (x:AV):fieldV X 41 x 0 = fvV X x 0 3:=field_of (by kernel_rfl) x
@[simp] theorem fa41_1 (H:AM.Heap) (x:AV):fieldAddrV X H 41 x 1 = faV H x 1:=fieldAddr_of (ty:=2) (by kernel_rfl) (by kernel_rfl) H x
@[simp] theorem fv41_1 (x:AV):fieldV X 41 x 1 = fvV X x 1 2:=field_of (by kernel_rfl) x
@[simp] theorem fa41_2 (H:AM.Heap) (x:AV):fieldAddrV X H 41 x 2 = faV H x 2:=fieldAddr_of (ty:=37) (by kernel_rfl) (by kernel_rfl) H x
@[simp] theorem fv41_2 (x:AV):fieldV X 41 x 2 = fvV X x 2 37:=field_of (by kernel_rfl) x
@[simp] theorem fa41_3 (H:AM.Heap) (x:AV):fieldAddrV X H 41 x 3 = faV H x 3:=fieldAddr_of (ty:=9) (by kernel_rfl) (by kernel_rfl) H x
@[simp] theorem fv41_3 (x:AV):fieldV X 41 x 3 = fvV X x 3 9:=field_of (by kernel_rfl) x
@[simp] theorem fa41_4 (H:AM.Heap) (x:AV):fieldAddrV X H 41 x 4 = faV H x 4:=fieldAddr_of (ty:=39) (by kernel_rfl) (by kernel_rfl) H x
@[simp] theorem fv41_4 (x:AV):fieldV X 41 x 4 = fvV X x 4 39:=field_of (by kernel_rfl) x
@[simp] theorem fa44_0 (H:AM.Heap) (x:AV):fieldAddrV X H 44 x 0 = faV H x 0:=fieldAddr_of (ty:=5) (by kernel_rfl) (by kernel_rfl) H x
@[simp] theorem fv44_0 (x:AV):fieldV X 44 x 0 = fvV X x 0 5:=field_of (by kernel_rfl) x
@[simp] theorem fa44_1 (H:AM.Heap) (x:AV):fieldAddrV X H 44 x 1 = faV H x 1:=fieldAddr_of (ty:=4) (by kernel_rfl) (by kernel_rfl) H x
@[simp] theorem fv44_1 (x:AV):fieldV X 44 x 1 = fvV X x 1 4:=field_of (by kernel_rfl) x
@[simp] theorem fa49_0 (H:AM.Heap) (x:AV):fieldAddrV X H 49 x 0 = faV H x 0:=fieldAddr_of (ty:=22) (by kernel_rfl) (by kernel_rfl) H x
@[simp] theorem fv49_0 (x:AV):fieldV X 49 x 0 = fvV X x 0 22:=field_of (by kernel_rfl) x
@[simp] theorem fa49_1 (H:AM.Heap) (x:AV):fieldAddrV X H 49 x 1 = faV H x 1:=fieldAddr_of (ty:=27) (by kernel_rfl) (by kernel_rfl) H x
@[simp] theorem fv49_1 (x:AV):fieldV X 49 x 1 = fvV X x 1 27:=field_of (by kernel_rfl) x
@[simp] theorem fa119_0 (H:AM.Heap) (x:AV):fieldAddrV X H 119 x 0 = faV H x 0:=fieldAddr_of (ty:=117) (by kernel_rfl) (by kernel_rfl) H x
@[simp] theorem fv119_0 (x:AV):fieldV X 119 x 0 = fvV X x 0 117:=field_of (by kernel_rfl) x
@[simp] theorem fa119_1 (H:AM.Heap) (x:AV):fieldAddrV X H 119 x 1 = faV H x 1:=fieldAddr_of (ty:=22) (by kernel_rfl) (by kernel_rfl) H x
@[simp] theorem fv119_1 (x:AV):fieldV X 119 x 1 = fvV X x 1 22:=field_of (by kernel_rfl) x
end Go.Proofs.YtafdnpcamepbmaaGreatDoor
