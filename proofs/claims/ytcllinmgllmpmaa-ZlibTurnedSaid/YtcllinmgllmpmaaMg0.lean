/- X to X: texts of this claim, one behind the other; what each shows stands at its head. -/
import Derived.Test.YtcllinmgllmpmaaRows
import Derived.Test.YtcllinmgllmpmaaAm3
set_option linter.unusedSimpArgs false
set_option linter.unusedVariables false
set_option maxRecDepth 100000
set_option maxHeartbeats 8000000
namespace Go.Proofs.Ytcllinmgllmpmaa
open Go.AM
def fB:List (List (List Nat)):=[[],[],[],[],[],[],[[0,1],[0,1,10],[4],[0,1,17],[4],[0,1,5],[0,1,5,22],[4],[0,1,5,6],[0,1,5,6,24],[0,1,5,6],[0,1,5,6],[7,8],[4]],[],[[0,1],[0,1,12],[4,5],[0,1,6],[0,1,6,16],[4,5],[0,7,8,9],[0,7,8,9,27],[4,5],[0,7],[0,7,35],[4,5],[0,7,10],[0,7,61],[4,5],[7,64],[4,5],[4,5]],[[],[1,2],[0]],[[0,1],[4]],[[0],[0,3],[3,4],[2]],[[0],[0,5],[2],[39],[2],[2]],[],[],[],[],[],[[0,1],[0,1,9],[4,5,6],[7],[7],[7,20],[4,5,6],[4,5,6]],[[0],[2]],[[0],[0,3],[3,5],[3,5,18],[2],[2]],[],[],[],[[0],[0,3],[0,3,4],[0,3,17],[0,3,5],[0,3,5,6],[0,3,5,6],[0,3,5,6],[0,3,5,6,39],[0,3,5,6,41],[0,3,5,6],[0,3,5,6,41,44],[0,3,5,6],[0,3,5,6,41,48],[0,3,5,6],[0,3,5,6,55],[0,3,5,6,7,8],[0,3,5,6],[0,3,5],[0,3,4],[2]],[[0,1],[1,5,6],[1,5,6],[5,6,18,19,20],[5,6,18,19,20,21],[5,6,8,18,19,20],[5,6,18,19,20],[5,6,18,19,20],[5,6,18,19,20],[4]],[[0],[0,5],[0,5,24],[2,3],[0,6,7],[0,6,7,8],[0,6,7,8,10],[0,6,7,8,10,12],[0,6,7,8,10,12],[0,6,7,8,10,12],[6,7,8,10,12,46,47,48],[6,7,8,10,12,46,47,48,49],[6,7,8,10,12,14,46,47,48],[6,7,8,10,12,14,46,47,48,54],[6,7,8,10,12,46,47,48],[6,7,8,10,12,14,15,16,17,46,47,48],[6,7,8,10,12,14,16,17,46,47,48],[6,7,8,10,12,14,46,47,48],[6,7,8,10,12,14,15,16,17,46,47,48],[6,7,8,10,12,14,16,17,46,47,48],[6,7,8,10,12,46,47,48],[6,7,8,10,12,46,47,48],[12],[2,3]],[[1],[1,3],[1,3,4],[1,3,4,5],[1,3,4,5,6],[1,3,4,5,6,18],[1,3,4,5,6,7,8],[1,3,4,5,6,7,8,23],[1,3,4,5,6,7,8,9],[1,3,4,5,6,7,8,9,10],[1,3,4,5,6,7,8,9,10,58],[1,3,4,5,6,7,8,9,10],[1,3,4,5,6,7,8,9,10,11],[1,3,4,5,6,7,8,9,10,11,70],[1,3,4,5,6,7,8,9,10],[1,3,4,5,6,7,8,12],[1,3,4,5,6,7,8,12,84],[1,3,4,5,6,12],[1,3,4,5,6,12],[1,3,4,5,6,94,95],[1,3,4,5,6,94,95,96],[1,3,4,5,6,94,95],[1,3,4,5,6,94,95],[1,3,4,5,6,94,95],[2]],[[0],[0,3],[0,3,4],[0,3,4,5],[0,3,4,5,14],[0,3,4,5],[0,3,4,5],[0,3,4,5],[0,3,4,5],[0,3,4,5],[0,3,4,5],[0,3,4,5],[0,3,5],[0,3,58],[2]],[],[],[],[],[],[[0,1],[0,1,5],[0,1,5,6],[0,1,5,6,16],[0,1,5,6],[0,1,5,6,29],[],[4],[0,1,5,6],[0,1,5,6],[4]],[[0],[0,2],[0,2,3],[0,2,29],[0,2],[0,2,4],[0,2,4,41],[0,2,4],[0,2,4]],[[0,1,2,11],[0,1,2,6],[0,1,2],[0,1,2,6,19],[0,1,2,6,29],[0,1,2]],[[0,1],[0,1,4],[0,1,4,5],[0,1,2,4],[0,1,2,3,4],[0,1,2,3,4,7],[0,1,3,4],[0,1,3,4,14],[0,1,3,4],[0,1,4],[0,1,4],[0,1,26],[0,1,26,27],[0,1,26],[0,1,26],[0,1]],[[0],[0,4,5,6],[0,4,5,6,36],[0,4,5,6],[0,4,5,6,7],[0,4,5,6,7,8],[0,4,5,7,8,41,42],[0,4,5,7,8,41,42,43],[0,4,5,7,8,9,41,42],[0,4,5,7,8,41,42],[0,4,5,7,8,41,42],[0,4,5,8,57],[2,3],[0,4,5,8,10,11],[0,4,5,8,68],[],[2,3],[0,4,12],[0,4,12,81],[2,3],[0,2,3],[0,2,3,13,14],[0,2,3,109],[0,2,3],[0,2,3,13,14],[0,2,3,132],[2,3],[2,3]],[[0,1,8],[]],[[0],[2,3]],[[0],[0,4],[4,7,8,9],[4,7,8,9,10],[4,6,7,8,9],[4,6,7,8,9,15],[2,3],[4,6,7,8,9,18],[4,7,8,9],[4,6,7,8,9,28],[2,3],[4,6,7,8,9,30,31],[4,6,7,8,9,30,31,32],[4,6,7,8,9,30,31],[4,6,7,8,9,30,31],[4,7,8,9],[2,3]],[[0],[0,5],[0,5,18],[2,3],[0,6],[0,8],[0,8,9],[8,9,30,31,32],[8,9,30,31,32,33],[8,9,10,11,30,31,32],[8,9,10,11,30,31,32],[8,9,10,11,30,31,32,41],[8,9,11,30,31,32],[8,9,30,31,32],[8,9,30,31,32],[2,3]],[[0,1,7,8],[0,1,7,8,9],[0,1,6,7,8],[0,1,7,8],[0,1,7,8]],[[0,1,6],[0,1,6,10],[0,1,6],[0,1,6]],[[0],[0,6],[2,3,4],[0,9],[2,3,4],[0,2,3],[0,2,3,4],[0,2,3,4],[0,2,3,4,15],[0,2,3,4,15,16],[0,2,3,4,15,22],[2,3,4],[0,2,3,4,15],[0,2,3,4,15]],[[0],[0,6],[2,3,4],[0,2,3],[0,2,3,4],[0,2,3,4],[0,2,3,4,12],[0,2,3,4,12,13],[0,2,3,4,12,19],[2,3,4],[0,2,3,4,12],[0,2,3,4,12]],[[0,1,2,9],[0,2,4],[]],[[0,1,2],[0,1,2,7],[0,1,2,7,32],[0,1,2,7],[6]],[],[],[],[],[],[],[],[],[],[],[],[],[],[],[],[[0,1,8],[0,1,18],[],[]],[[0,1],[0,1,12],[4],[0,5,6,7],[0,5,6,7,28],[0,5,6],[5],[4]],[[0,1,2,6],[0,1,2,6,44],[],[0,2,7],[0,7,8],[0,7,8,67],[0,7,8,69],[],[0,7,8,9],[0,7,8,9,75],[0,7,8,10],[0,7,9],[0,7,9,102],[0,7,9],[0,7,9,11],[0,7,9,11,114],[0,7,9,11],[0,7,9,11]],[[0],[3,4],[3,4,13],[2,3],[4,5],[4,5,6],[4,5,6,16],[4,5,6],[4,5,6],[5,28],[2,3],[2,3]],[[1,3,5],[1,3,5,7],[1,3,5,7,8],[1,3,5,7,8,24],[1,3,5,7,8,9],[1,3,5,7,8,9,28],[1,3,5,7,8],[1,3,5,7,8,9,28,33],[1,3,5,7,8,37],[1,3,5,7,8],[1,3,5,7,8,10],[1,3,5,7,8,10,47],[1,3,5,7,8],[1,3,5,7,8,9,28,57],[1,3,5,7,8,11],[1,3,5,7,8,11,66],[1,3,5,7,8],[1,3,5,7,8,9,70],[1,3,5,7,8,12],[1,3,5,7,8,12,79],[1,3,5,7,8],[6]],[[0],[0,3,4],[3,4,7,8,9],[3,4,7,8,9,10],[3,4,6,7,8,9],[3,4,6,7,8,9,14],[3,4,7,8,9],[3,4,7,8,9],[2]],[[0],[5,6,7],[5,6,7,8],[4,5,6,7],[5,6,7,12],[2],[5,6,7],[2]],[[1],[1,5],[2],[2]],[[0,2],[0,2,4],[0,2,4,9],[2,3],[2,4,11,12,13],[2,4,11,12,13,14],[2,4,6,11,12,13],[2,4,6,11,12,13,22],[2,3],[2,4,11,12,13],[2,4,11,12,13],[2,3]],[[1,2],[1,2,3],[1,2,3],[1,2,3,4],[1,2,3,4,7],[1,2,3,4],[1,2,3,4],[2]],[[0,1,9],[0,1],[0],[]],[],[],[],[],[],[],[],[],[],[],[[0,1,2],[0,1,2,10],[0,1,2,10,17],[6,7,8],[0,1,2,20],[6,7,8],[6,7,8]],[[0,1,2,4,12],[],[0,2,15,16],[0,2,15,16,17],[0,2,15,16],[0,2,15,16]],[],[[0,4,5],[0,4,5,7],[0,4,5,7,9],[0,4,5,7,9,10],[0,4,5,7,9,10,11],[4,5,7,9,10,11,21,22,23],[4,5,7,9,10,11,21,22,23,24],[4,5,7,9,10,11,12,13,21,22,23],[4,5,7,9,10,11,13,21,22,23],[4,5,7,9,10,11,21,22,23],[4,5,7,9,10,11,21,22,23],[6]],[[0,1,2,3,4,5],[0,1,2,3,4,5,9],[0,1,2,3,4,5,9,10],[0,1,2,3,4,5,9,10],[0,1,2,3,4,5,9,10,16],[6,7,8],[0,1,2,3,4,5,9,10,21],[6,7,8],[0,1,2,3,4,5,9,10],[0,1,2,3,4,5,9,10],[0,1,2,3,4,5,9,10,11],[0,1,2,3,4,5,9,10,11,50],[6,7,8]],[],[],[],[],[],[],[],[],[],[],[],[],[],[],[],[]]
noncomputable def X:AM.Ctx:={ P:=Try.prog,G:=fun _=>.none,rw:=fun f i=>false,keep:=fun f i=>((fB[f]?).getD [])[i]?,norm:=fun _ _=>false,dr:=fun _ _=>true,dy:=fun f id=>[(18,6),(18,7),(21,5),(21,6),(24,19),(38,9),(38,20),(47,1),(51,1),(54,19),(66,3)].contains (f,id) }
theorem own:ownKnob Try.prog.godebug = .none:=by kernel_rfl
theorem full:∀ t e,t < Try.prog.types.size→Try.prog.underlying t = some (.slice e)→0 < Try.prog.cellsOf e:=slices_full_of Try.prog (by kernel_rfl)
theorem acT:AM.Hg X:=AM.UK (by kernel_rfl) (by kernel_rfl)
@[simp] theorem anM (f i:Nat):X.dr f i = true:=rfl
@[simp] theorem ag5 (f i:Nat):X.norm f i = false:=rfl
@[simp] theorem anN (f i:Nat):X.rw f i = (false):=rfl
@[simp] theorem ak4 (i:Nat):X.keep 6 i = ([[0,1],[0,1,10],[4],[0,1,17],[4],[0,1,5],[0,1,5,22],[4],[0,1,5,6],[0,1,5,6,24],[0,1,5,6],[0,1,5,6],[7,8],[4]]:List (List Nat))[i]?:=congrArg (fun (l:List (List Nat))=>l[i]?) (show (fB[6]?).getD [] = _ by kernel_rfl)
@[simp] theorem ak5 (i:Nat):X.keep 8 i = ([[0,1],[0,1,12],[4,5],[0,1,6],[0,1,6,16],[4,5],[0,7,8,9],[0,7,8,9,27],[4,5],[0,7],[0,7,35],[4,5],[0,7,10],[0,7,61],[4,5],[7,64],[4,5],[4,5]]:List (List Nat))[i]?:=congrArg (fun (l:List (List Nat))=>l[i]?) (show (fB[8]?).getD [] = _ by kernel_rfl)
@[simp] theorem ak6 (i:Nat):X.keep 9 i = ([[],[1,2],[0]]:List (List Nat))[i]?:=congrArg (fun (l:List (List Nat))=>l[i]?) (show (fB[9]?).getD [] = _ by kernel_rfl)
@[simp] theorem ag6 (i:Nat):X.keep 10 i = ([[0,1],[4]]:List (List Nat))[i]?:=congrArg (fun (l:List (List Nat))=>l[i]?) (show (fB[10]?).getD [] = _ by kernel_rfl)
@[simp] theorem ag7 (i:Nat):X.keep 11 i = ([[0],[0,3],[3,4],[2]]:List (List Nat))[i]?:=congrArg (fun (l:List (List Nat))=>l[i]?) (show (fB[11]?).getD [] = _ by kernel_rfl)
@[simp] theorem ag8 (i:Nat):X.keep 12 i = ([[0],[0,5],[2],[39],[2],[2]]:List (List Nat))[i]?:=congrArg (fun (l:List (List Nat))=>l[i]?) (show (fB[12]?).getD [] = _ by kernel_rfl)
@[simp] theorem ag9 (i:Nat):X.keep 18 i = ([[0,1],[0,1,9],[4,5,6],[7],[7],[7,20],[4,5,6],[4,5,6]]:List (List Nat))[i]?:=congrArg (fun (l:List (List Nat))=>l[i]?) (show (fB[18]?).getD [] = _ by kernel_rfl)
@[simp] theorem aha (i:Nat):X.keep 19 i = ([[0],[2]]:List (List Nat))[i]?:=congrArg (fun (l:List (List Nat))=>l[i]?) (show (fB[19]?).getD [] = _ by kernel_rfl)
@[simp] theorem ahb (i:Nat):X.keep 20 i = ([[0],[0,3],[3,5],[3,5,18],[2],[2]]:List (List Nat))[i]?:=congrArg (fun (l:List (List Nat))=>l[i]?) (show (fB[20]?).getD [] = _ by kernel_rfl)
@[simp] theorem ahc (i:Nat):X.keep 24 i = ([[0],[0,3],[0,3,4],[0,3,17],[0,3,5],[0,3,5,6],[0,3,5,6],[0,3,5,6],[0,3,5,6,39],[0,3,5,6,41],[0,3,5,6],[0,3,5,6,41,44],[0,3,5,6],[0,3,5,6,41,48],[0,3,5,6],[0,3,5,6,55],[0,3,5,6,7,8],[0,3,5,6],[0,3,5],[0,3,4],[2]]:List (List Nat))[i]?:=congrArg (fun (l:List (List Nat))=>l[i]?) (show (fB[24]?).getD [] = _ by kernel_rfl)
@[simp] theorem ahd (i:Nat):X.keep 25 i = ([[0,1],[1,5,6],[1,5,6],[5,6,18,19,20],[5,6,18,19,20,21],[5,6,8,18,19,20],[5,6,18,19,20],[5,6,18,19,20],[5,6,18,19,20],[4]]:List (List Nat))[i]?:=congrArg (fun (l:List (List Nat))=>l[i]?) (show (fB[25]?).getD [] = _ by kernel_rfl)
@[simp] theorem ahe (i:Nat):X.keep 26 i = ([[0],[0,5],[0,5,24],[2,3],[0,6,7],[0,6,7,8],[0,6,7,8,10],[0,6,7,8,10,12],[0,6,7,8,10,12],[0,6,7,8,10,12],[6,7,8,10,12,46,47,48],[6,7,8,10,12,46,47,48,49],[6,7,8,10,12,14,46,47,48],[6,7,8,10,12,14,46,47,48,54],[6,7,8,10,12,46,47,48],[6,7,8,10,12,14,15,16,17,46,47,48],[6,7,8,10,12,14,16,17,46,47,48],[6,7,8,10,12,14,46,47,48],[6,7,8,10,12,14,15,16,17,46,47,48],[6,7,8,10,12,14,16,17,46,47,48],[6,7,8,10,12,46,47,48],[6,7,8,10,12,46,47,48],[12],[2,3]]:List (List Nat))[i]?:=congrArg (fun (l:List (List Nat))=>l[i]?) (show (fB[26]?).getD [] = _ by kernel_rfl)
@[simp] theorem ahf (i:Nat):X.keep 27 i = ([[1],[1,3],[1,3,4],[1,3,4,5],[1,3,4,5,6],[1,3,4,5,6,18],[1,3,4,5,6,7,8],[1,3,4,5,6,7,8,23],[1,3,4,5,6,7,8,9],[1,3,4,5,6,7,8,9,10],[1,3,4,5,6,7,8,9,10,58],[1,3,4,5,6,7,8,9,10],[1,3,4,5,6,7,8,9,10,11],[1,3,4,5,6,7,8,9,10,11,70],[1,3,4,5,6,7,8,9,10],[1,3,4,5,6,7,8,12],[1,3,4,5,6,7,8,12,84],[1,3,4,5,6,12],[1,3,4,5,6,12],[1,3,4,5,6,94,95],[1,3,4,5,6,94,95,96],[1,3,4,5,6,94,95],[1,3,4,5,6,94,95],[1,3,4,5,6,94,95],[2]]:List (List Nat))[i]?:=congrArg (fun (l:List (List Nat))=>l[i]?) (show (fB[27]?).getD [] = _ by kernel_rfl)
@[simp] theorem ahg (i:Nat):X.keep 28 i = ([[0],[0,3],[0,3,4],[0,3,4,5],[0,3,4,5,14],[0,3,4,5],[0,3,4,5],[0,3,4,5],[0,3,4,5],[0,3,4,5],[0,3,4,5],[0,3,4,5],[0,3,5],[0,3,58],[2]]:List (List Nat))[i]?:=congrArg (fun (l:List (List Nat))=>l[i]?) (show (fB[28]?).getD [] = _ by kernel_rfl)
@[simp] theorem ahh (i:Nat):X.keep 34 i = ([[0,1],[0,1,5],[0,1,5,6],[0,1,5,6,16],[0,1,5,6],[0,1,5,6,29],[],[4],[0,1,5,6],[0,1,5,6],[4]]:List (List Nat))[i]?:=congrArg (fun (l:List (List Nat))=>l[i]?) (show (fB[34]?).getD [] = _ by kernel_rfl)
@[simp] theorem ahi (i:Nat):X.keep 35 i = ([[0],[0,2],[0,2,3],[0,2,29],[0,2],[0,2,4],[0,2,4,41],[0,2,4],[0,2,4]]:List (List Nat))[i]?:=congrArg (fun (l:List (List Nat))=>l[i]?) (show (fB[35]?).getD [] = _ by kernel_rfl)
@[simp] theorem ahj (i:Nat):X.keep 36 i = ([[0,1,2,11],[0,1,2,6],[0,1,2],[0,1,2,6,19],[0,1,2,6,29],[0,1,2]]:List (List Nat))[i]?:=congrArg (fun (l:List (List Nat))=>l[i]?) (show (fB[36]?).getD [] = _ by kernel_rfl)
@[simp] theorem ahk (i:Nat):X.keep 37 i = ([[0,1],[0,1,4],[0,1,4,5],[0,1,2,4],[0,1,2,3,4],[0,1,2,3,4,7],[0,1,3,4],[0,1,3,4,14],[0,1,3,4],[0,1,4],[0,1,4],[0,1,26],[0,1,26,27],[0,1,26],[0,1,26],[0,1]]:List (List Nat))[i]?:=congrArg (fun (l:List (List Nat))=>l[i]?) (show (fB[37]?).getD [] = _ by kernel_rfl)
@[simp] theorem ahl (i:Nat):X.keep 38 i = ([[0],[0,4,5,6],[0,4,5,6,36],[0,4,5,6],[0,4,5,6,7],[0,4,5,6,7,8],[0,4,5,7,8,41,42],[0,4,5,7,8,41,42,43],[0,4,5,7,8,9,41,42],[0,4,5,7,8,41,42],[0,4,5,7,8,41,42],[0,4,5,8,57],[2,3],[0,4,5,8,10,11],[0,4,5,8,68],[],[2,3],[0,4,12],[0,4,12,81],[2,3],[0,2,3],[0,2,3,13,14],[0,2,3,109],[0,2,3],[0,2,3,13,14],[0,2,3,132],[2,3],[2,3]]:List (List Nat))[i]?:=congrArg (fun (l:List (List Nat))=>l[i]?) (show (fB[38]?).getD [] = _ by kernel_rfl)
@[simp] theorem ahm (i:Nat):X.keep 39 i = ([[0,1,8],[]]:List (List Nat))[i]?:=congrArg (fun (l:List (List Nat))=>l[i]?) (show (fB[39]?).getD [] = _ by kernel_rfl)
@[simp] theorem ahn (i:Nat):X.keep 40 i = ([[0],[2,3]]:List (List Nat))[i]?:=congrArg (fun (l:List (List Nat))=>l[i]?) (show (fB[40]?).getD [] = _ by kernel_rfl)
@[simp] theorem aho (i:Nat):X.keep 41 i = ([[0],[0,4],[4,7,8,9],[4,7,8,9,10],[4,6,7,8,9],[4,6,7,8,9,15],[2,3],[4,6,7,8,9,18],[4,7,8,9],[4,6,7,8,9,28],[2,3],[4,6,7,8,9,30,31],[4,6,7,8,9,30,31,32],[4,6,7,8,9,30,31],[4,6,7,8,9,30,31],[4,7,8,9],[2,3]]:List (List Nat))[i]?:=congrArg (fun (l:List (List Nat))=>l[i]?) (show (fB[41]?).getD [] = _ by kernel_rfl)
@[simp] theorem ahp (i:Nat):X.keep 42 i = ([[0],[0,5],[0,5,18],[2,3],[0,6],[0,8],[0,8,9],[8,9,30,31,32],[8,9,30,31,32,33],[8,9,10,11,30,31,32],[8,9,10,11,30,31,32],[8,9,10,11,30,31,32,41],[8,9,11,30,31,32],[8,9,30,31,32],[8,9,30,31,32],[2,3]]:List (List Nat))[i]?:=congrArg (fun (l:List (List Nat))=>l[i]?) (show (fB[42]?).getD [] = _ by kernel_rfl)
@[simp] theorem ahq (i:Nat):X.keep 43 i = ([[0,1,7,8],[0,1,7,8,9],[0,1,6,7,8],[0,1,7,8],[0,1,7,8]]:List (List Nat))[i]?:=congrArg (fun (l:List (List Nat))=>l[i]?) (show (fB[43]?).getD [] = _ by kernel_rfl)
@[simp] theorem ahr (i:Nat):X.keep 44 i = ([[0,1,6],[0,1,6,10],[0,1,6],[0,1,6]]:List (List Nat))[i]?:=congrArg (fun (l:List (List Nat))=>l[i]?) (show (fB[44]?).getD [] = _ by kernel_rfl)
@[simp] theorem ahs (i:Nat):X.keep 45 i = ([[0],[0,6],[2,3,4],[0,9],[2,3,4],[0,2,3],[0,2,3,4],[0,2,3,4],[0,2,3,4,15],[0,2,3,4,15,16],[0,2,3,4,15,22],[2,3,4],[0,2,3,4,15],[0,2,3,4,15]]:List (List Nat))[i]?:=congrArg (fun (l:List (List Nat))=>l[i]?) (show (fB[45]?).getD [] = _ by kernel_rfl)
@[simp] theorem aht (i:Nat):X.keep 46 i = ([[0],[0,6],[2,3,4],[0,2,3],[0,2,3,4],[0,2,3,4],[0,2,3,4,12],[0,2,3,4,12,13],[0,2,3,4,12,19],[2,3,4],[0,2,3,4,12],[0,2,3,4,12]]:List (List Nat))[i]?:=congrArg (fun (l:List (List Nat))=>l[i]?) (show (fB[46]?).getD [] = _ by kernel_rfl)
@[simp] theorem ahu (i:Nat):X.keep 47 i = ([[0,1,2,9],[0,2,4],[]]:List (List Nat))[i]?:=congrArg (fun (l:List (List Nat))=>l[i]?) (show (fB[47]?).getD [] = _ by kernel_rfl)
@[simp] theorem ahv (i:Nat):X.keep 48 i = ([[0,1,2],[0,1,2,7],[0,1,2,7,32],[0,1,2,7],[6]]:List (List Nat))[i]?:=congrArg (fun (l:List (List Nat))=>l[i]?) (show (fB[48]?).getD [] = _ by kernel_rfl)
@[simp] theorem ahw (i:Nat):X.keep 64 i = ([[0,1,8],[0,1,18],[],[]]:List (List Nat))[i]?:=congrArg (fun (l:List (List Nat))=>l[i]?) (show (fB[64]?).getD [] = _ by kernel_rfl)
@[simp] theorem ahx (i:Nat):X.keep 65 i = ([[0,1],[0,1,12],[4],[0,5,6,7],[0,5,6,7,28],[0,5,6],[5],[4]]:List (List Nat))[i]?:=congrArg (fun (l:List (List Nat))=>l[i]?) (show (fB[65]?).getD [] = _ by kernel_rfl)
@[simp] theorem ahy (i:Nat):X.keep 66 i = ([[0,1,2,6],[0,1,2,6,44],[],[0,2,7],[0,7,8],[0,7,8,67],[0,7,8,69],[],[0,7,8,9],[0,7,8,9,75],[0,7,8,10],[0,7,9],[0,7,9,102],[0,7,9],[0,7,9,11],[0,7,9,11,114],[0,7,9,11],[0,7,9,11]]:List (List Nat))[i]?:=congrArg (fun (l:List (List Nat))=>l[i]?) (show (fB[66]?).getD [] = _ by kernel_rfl)
@[simp] theorem ahz (i:Nat):X.keep 67 i = ([[0],[3,4],[3,4,13],[2,3],[4,5],[4,5,6],[4,5,6,16],[4,5,6],[4,5,6],[5,28],[2,3],[2,3]]:List (List Nat))[i]?:=congrArg (fun (l:List (List Nat))=>l[i]?) (show (fB[67]?).getD [] = _ by kernel_rfl)
@[simp] theorem ahA (i:Nat):X.keep 68 i = ([[1,3,5],[1,3,5,7],[1,3,5,7,8],[1,3,5,7,8,24],[1,3,5,7,8,9],[1,3,5,7,8,9,28],[1,3,5,7,8],[1,3,5,7,8,9,28,33],[1,3,5,7,8,37],[1,3,5,7,8],[1,3,5,7,8,10],[1,3,5,7,8,10,47],[1,3,5,7,8],[1,3,5,7,8,9,28,57],[1,3,5,7,8,11],[1,3,5,7,8,11,66],[1,3,5,7,8],[1,3,5,7,8,9,70],[1,3,5,7,8,12],[1,3,5,7,8,12,79],[1,3,5,7,8],[6]]:List (List Nat))[i]?:=congrArg (fun (l:List (List Nat))=>l[i]?) (show (fB[68]?).getD [] = _ by kernel_rfl)
@[simp] theorem ahB (i:Nat):X.keep 69 i = ([[0],[0,3,4],[3,4,7,8,9],[3,4,7,8,9,10],[3,4,6,7,8,9],[3,4,6,7,8,9,14],[3,4,7,8,9],[3,4,7,8,9],[2]]:List (List Nat))[i]?:=congrArg (fun (l:List (List Nat))=>l[i]?) (show (fB[69]?).getD [] = _ by kernel_rfl)
@[simp] theorem ahC (i:Nat):X.keep 70 i = ([[0],[5,6,7],[5,6,7,8],[4,5,6,7],[5,6,7,12],[2],[5,6,7],[2]]:List (List Nat))[i]?:=congrArg (fun (l:List (List Nat))=>l[i]?) (show (fB[70]?).getD [] = _ by kernel_rfl)
@[simp] theorem ahD (i:Nat):X.keep 71 i = ([[1],[1,5],[2],[2]]:List (List Nat))[i]?:=congrArg (fun (l:List (List Nat))=>l[i]?) (show (fB[71]?).getD [] = _ by kernel_rfl)
@[simp] theorem ahE (i:Nat):X.keep 72 i = ([[0,2],[0,2,4],[0,2,4,9],[2,3],[2,4,11,12,13],[2,4,11,12,13,14],[2,4,6,11,12,13],[2,4,6,11,12,13,22],[2,3],[2,4,11,12,13],[2,4,11,12,13],[2,3]]:List (List Nat))[i]?:=congrArg (fun (l:List (List Nat))=>l[i]?) (show (fB[72]?).getD [] = _ by kernel_rfl)
@[simp] theorem ahF (i:Nat):X.keep 73 i = ([[1,2],[1,2,3],[1,2,3],[1,2,3,4],[1,2,3,4,7],[1,2,3,4],[1,2,3,4],[2]]:List (List Nat))[i]?:=congrArg (fun (l:List (List Nat))=>l[i]?) (show (fB[73]?).getD [] = _ by kernel_rfl)
@[simp] theorem ahG (i:Nat):X.keep 74 i = ([[0,1,9],[0,1],[0],[]]:List (List Nat))[i]?:=congrArg (fun (l:List (List Nat))=>l[i]?) (show (fB[74]?).getD [] = _ by kernel_rfl)
@[simp] theorem ahH (i:Nat):X.keep 85 i = ([[0,1,2],[0,1,2,10],[0,1,2,10,17],[6,7,8],[0,1,2,20],[6,7,8],[6,7,8]]:List (List Nat))[i]?:=congrArg (fun (l:List (List Nat))=>l[i]?) (show (fB[85]?).getD [] = _ by kernel_rfl)
@[simp] theorem ahI (i:Nat):X.keep 86 i = ([[0,1,2,4,12],[],[0,2,15,16],[0,2,15,16,17],[0,2,15,16],[0,2,15,16]]:List (List Nat))[i]?:=congrArg (fun (l:List (List Nat))=>l[i]?) (show (fB[86]?).getD [] = _ by kernel_rfl)
@[simp] theorem ahJ (i:Nat):X.keep 88 i = ([[0,4,5],[0,4,5,7],[0,4,5,7,9],[0,4,5,7,9,10],[0,4,5,7,9,10,11],[4,5,7,9,10,11,21,22,23],[4,5,7,9,10,11,21,22,23,24],[4,5,7,9,10,11,12,13,21,22,23],[4,5,7,9,10,11,13,21,22,23],[4,5,7,9,10,11,21,22,23],[4,5,7,9,10,11,21,22,23],[6]]:List (List Nat))[i]?:=congrArg (fun (l:List (List Nat))=>l[i]?) (show (fB[88]?).getD [] = _ by kernel_rfl)
@[simp] theorem ahK (i:Nat):X.keep 89 i = ([[0,1,2,3,4,5],[0,1,2,3,4,5,9],[0,1,2,3,4,5,9,10],[0,1,2,3,4,5,9,10],[0,1,2,3,4,5,9,10,16],[6,7,8],[0,1,2,3,4,5,9,10,21],[6,7,8],[0,1,2,3,4,5,9,10],[0,1,2,3,4,5,9,10],[0,1,2,3,4,5,9,10,11],[0,1,2,3,4,5,9,10,11,50],[6,7,8]]:List (List Nat))[i]?:=congrArg (fun (l:List (List Nat))=>l[i]?) (show (fB[89]?).getD [] = _ by kernel_rfl)
attribute [go_sem] List.getElem?_cons_zero List.getElem?_cons_succ Go.AM.vC Go.AM.yD
@[simp] theorem nt6:gu X 6 = 63:=by kernel_rfl
@[simp] theorem anO:bodied X 6 = true:=by kernel_rfl
@[simp] theorem anP:aJ X 6 = [22,31]:=by kernel_rfl
@[simp] theorem nt8:gu X 8 = 66:=by kernel_rfl
@[simp] theorem anQ:bodied X 8 = true:=by kernel_rfl
@[simp] theorem agk:aJ X 8 = [22,3]:=by kernel_rfl
@[simp] theorem nt9:gu X 9 = 22:=by kernel_rfl
@[simp] theorem anR:bodied X 9 = true:=by kernel_rfl
@[simp] theorem anS:aJ X 9 = []:=by kernel_rfl
@[simp] theorem anT:gu X 10 = 10:=by kernel_rfl
@[simp] theorem ak7:bodied X 10 = true:=by kernel_rfl
@[simp] theorem abv:aJ X 10 = [22,22]:=by kernel_rfl
@[simp] theorem anU:gu X 11 = 25:=by kernel_rfl
@[simp] theorem ak8:bodied X 11 = true:=by kernel_rfl
@[simp] theorem abq:aJ X 11 = [22]:=by kernel_rfl
@[simp] theorem anV:gu X 12 = 40:=by kernel_rfl
@[simp] theorem ak9:bodied X 12 = true:=by kernel_rfl
@[simp] theorem abu:aJ X 12 = [22]:=by kernel_rfl
@[simp] theorem anW:gu X 18 = 35:=by kernel_rfl
@[simp] theorem ala:bodied X 18 = true:=by kernel_rfl
@[simp] theorem acS:aJ X 18 = [22,3]:=by kernel_rfl
@[simp] theorem anX:gu X 19 = 5:=by kernel_rfl
@[simp] theorem alb:bodied X 19 = true:=by kernel_rfl
@[simp] theorem YX:aJ X 19 = [22]:=by kernel_rfl
@[simp] theorem anY:gu X 20 = 21:=by kernel_rfl
@[simp] theorem alc:bodied X 20 = true:=by kernel_rfl
@[simp] theorem acU:aJ X 20 = [22]:=by kernel_rfl
@[simp] theorem anZ:gu X 24 = 81:=by kernel_rfl
@[simp] theorem ald:bodied X 24 = true:=by kernel_rfl
@[simp] theorem acR:aJ X 24 = [38]:=by kernel_rfl
@[simp] theorem an0:gu X 25 = 38:=by kernel_rfl
@[simp] theorem ale:bodied X 25 = true:=by kernel_rfl
@[simp] theorem abo:aJ X 25 = [31,22]:=by kernel_rfl
@[simp] theorem an1:gu X 26 = 128:=by kernel_rfl
@[simp] theorem alf:bodied X 26 = true:=by kernel_rfl
@[simp] theorem acV:aJ X 26 = [45]:=by kernel_rfl
@[simp] theorem an2:gu X 27 = 104:=by kernel_rfl
@[simp] theorem alg:bodied X 27 = true:=by kernel_rfl
@[simp] theorem ab2:aJ X 27 = [22]:=by kernel_rfl
@[simp] theorem an3:gu X 28 = 63:=by kernel_rfl
@[simp] theorem alh:bodied X 28 = true:=by kernel_rfl
@[simp] theorem acW:aJ X 28 = [22]:=by kernel_rfl
@[simp] theorem an4:gu X 34 = 63:=by kernel_rfl
@[simp] theorem ali:bodied X 34 = true:=by kernel_rfl
@[simp] theorem aaZ:aJ X 34 = [38,3]:=by kernel_rfl
@[simp] theorem an5:gu X 35 = 49:=by kernel_rfl
@[simp] theorem alj:bodied X 35 = true:=by kernel_rfl
@[simp] theorem aa8:aJ X 35 = [38]:=by kernel_rfl
@[simp] theorem an6:gu X 36 = 36:=by kernel_rfl
@[simp] theorem alk:bodied X 36 = true:=by kernel_rfl
@[simp] theorem abk:aJ X 36 = [38,56,56]:=by kernel_rfl
@[simp] theorem an7:gu X 37 = 34:=by kernel_rfl
@[simp] theorem alm:bodied X 37 = true:=by kernel_rfl
@[simp] theorem aln:aJ X 37 = []:=by kernel_rfl
@[simp] theorem an8:gu X 38 = 137:=by kernel_rfl
@[simp] theorem alo:bodied X 38 = true:=by kernel_rfl
@[simp] theorem acM:aJ X 38 = [38]:=by kernel_rfl
@[simp] theorem an9:gu X 39 = 13:=by kernel_rfl
@[simp] theorem alp:bodied X 39 = true:=by kernel_rfl
@[simp] theorem acX:aJ X 39 = [38,23]:=by kernel_rfl
@[simp] theorem aoa:gu X 40 = 8:=by kernel_rfl
@[simp] theorem alq:bodied X 40 = true:=by kernel_rfl
@[simp] theorem alr:aJ X 40 = [31]:=by kernel_rfl
@[simp] theorem aob:gu X 41 = 47:=by kernel_rfl
@[simp] theorem als:bodied X 41 = true:=by kernel_rfl
@[simp] theorem acg:aJ X 41 = [45]:=by kernel_rfl
@[simp] theorem aoc:gu X 42 = 55:=by kernel_rfl
@[simp] theorem alu:bodied X 42 = true:=by kernel_rfl
@[simp] theorem alv:aJ X 42 = [56]:=by kernel_rfl
@[simp] theorem aod:gu X 43 = 17:=by kernel_rfl
@[simp] theorem alx:bodied X 43 = true:=by kernel_rfl
@[simp] theorem acB:aJ X 43 = [64,3,3]:=by kernel_rfl
@[simp] theorem aoe:gu X 44 = 18:=by kernel_rfl
@[simp] theorem aly:bodied X 44 = true:=by kernel_rfl
@[simp] theorem acC:aJ X 44 = [64,3,3]:=by kernel_rfl
@[simp] theorem aof:gu X 45 = 33:=by kernel_rfl
@[simp] theorem alz:bodied X 45 = true:=by kernel_rfl
@[simp] theorem aci:aJ X 45 = [3]:=by kernel_rfl
@[simp] theorem aog:gu X 46 = 30:=by kernel_rfl
@[simp] theorem alA:bodied X 46 = true:=by kernel_rfl
@[simp] theorem acn:aJ X 46 = [3]:=by kernel_rfl
@[simp] theorem aoh:gu X 47 = 33:=by kernel_rfl
@[simp] theorem alB:bodied X 47 = true:=by kernel_rfl
@[simp] theorem abT:aJ X 47 = [3]:=by kernel_rfl
@[simp] theorem aoi:gu X 48 = 36:=by kernel_rfl
@[simp] theorem alC:bodied X 48 = true:=by kernel_rfl
@[simp] theorem acE:aJ X 48 = [22,3,3]:=by kernel_rfl
@[simp] theorem aoj:gu X 64 = 31:=by kernel_rfl
@[simp] theorem alD:bodied X 64 = true:=by kernel_rfl
@[simp] theorem aaY:aJ X 64 = [38,5]:=by kernel_rfl
@[simp] theorem aok:gu X 65 = 41:=by kernel_rfl
@[simp] theorem alE:bodied X 65 = true:=by kernel_rfl
@[simp] theorem aa1:aJ X 65 = [38,56]:=by kernel_rfl
@[simp] theorem aol:gu X 66 = 132:=by kernel_rfl
@[simp] theorem alF:bodied X 66 = true:=by kernel_rfl
@[simp] theorem abg:aJ X 66 = [38,3,56]:=by kernel_rfl
@[simp] theorem aom:gu X 67 = 31:=by kernel_rfl
@[simp] theorem alG:bodied X 67 = true:=by kernel_rfl
@[simp] theorem alH:aJ X 67 = [56]:=by kernel_rfl
@[simp] theorem aon:gu X 68 = 84:=by kernel_rfl
@[simp] theorem alI:bodied X 68 = true:=by kernel_rfl
@[simp] theorem abA:aJ X 68 = [38,56,3]:=by kernel_rfl
@[simp] theorem aoo:gu X 69 = 27:=by kernel_rfl
@[simp] theorem alJ:bodied X 69 = true:=by kernel_rfl
@[simp] theorem alK:aJ X 69 = [56]:=by kernel_rfl
@[simp] theorem aop:gu X 70 = 14:=by kernel_rfl
@[simp] theorem alL:bodied X 70 = true:=by kernel_rfl
@[simp] theorem alM:aJ X 70 = [56]:=by kernel_rfl
@[simp] theorem aoq:gu X 71 = 32:=by kernel_rfl
@[simp] theorem alN:bodied X 71 = true:=by kernel_rfl
@[simp] theorem ab3:aJ X 71 = [69]:=by kernel_rfl
@[simp] theorem aor:gu X 72 = 31:=by kernel_rfl
@[simp] theorem alO:bodied X 72 = true:=by kernel_rfl
@[simp] theorem alP:aJ X 72 = [56]:=by kernel_rfl
@[simp] theorem aos:gu X 73 = 22:=by kernel_rfl
@[simp] theorem alQ:bodied X 73 = true:=by kernel_rfl
@[simp] theorem alR:aJ X 73 = [96]:=by kernel_rfl
@[simp] theorem aot:gu X 74 = 48:=by kernel_rfl
@[simp] theorem alS:bodied X 74 = true:=by kernel_rfl
@[simp] theorem acz:aJ X 74 = [64,3]:=by kernel_rfl
@[simp] theorem aou:gu X 85 = 29:=by kernel_rfl
@[simp] theorem alT:bodied X 85 = true:=by kernel_rfl
@[simp] theorem alU:aJ X 85 = [56,22,3]:=by kernel_rfl
@[simp] theorem aov:gu X 86 = 23:=by kernel_rfl
@[simp] theorem alV:bodied X 86 = true:=by kernel_rfl
@[simp] theorem aa4:aJ X 86 = [3,3]:=by kernel_rfl
@[simp] theorem aow:gu X 88 = 41:=by kernel_rfl
@[simp] theorem alW:bodied X 88 = true:=by kernel_rfl
@[simp] theorem alX:aJ X 88 = [56,22,3]:=by kernel_rfl
@[simp] theorem aox:gu X 89 = 58:=by kernel_rfl
@[simp] theorem alY:bodied X 89 = true:=by kernel_rfl
@[simp] theorem alZ:aJ X 89 = []:=by kernel_rfl
@[simp] theorem WH:X.keep 18 6 = some [4,5,6]:=by kernel_rfl
@[simp] theorem F6:X.keep 18 7 = some [4,5,6]:=by kernel_rfl
@[simp] theorem Uf:X.keep 24 19 = some [0,3,4]:=by kernel_rfl
@[simp] theorem Vr:X.keep 38 9 = some [0,4,5,7,8,41,42]:=by kernel_rfl
@[simp] theorem Tm:X.keep 38 20 = some [0,2,3]:=by kernel_rfl
@[simp] theorem WB:X.keep 47 1 = some [0,2,4]:=by kernel_rfl
@[simp] theorem U8:X.keep 66 3 = some [0,2,7]:=by kernel_rfl
@[simp] theorem ahL:X.dy 8 12 = false:=by kernel_rfl
@[simp] theorem ahM:X.dy 12 3 = false:=by kernel_rfl
@[simp] theorem ahN:X.dy 18 6 = true:=by kernel_rfl
@[simp] theorem ahO:X.dy 18 7 = true:=by kernel_rfl
@[simp] theorem adx:X.dy 24 19 = true:=by kernel_rfl
@[simp] theorem ady:X.dy 26 14 = false:=by kernel_rfl
@[simp] theorem adz:X.dy 26 16 = false:=by kernel_rfl
@[simp] theorem adA:X.dy 26 19 = false:=by kernel_rfl
@[simp] theorem adB:X.dy 26 22 = false:=by kernel_rfl
@[simp] theorem ahP:X.dy 27 8 = false:=by kernel_rfl
@[simp] theorem adC:X.dy 27 12 = false:=by kernel_rfl
@[simp] theorem adD:X.dy 27 14 = false:=by kernel_rfl
@[simp] theorem adE:X.dy 28 10 = false:=by kernel_rfl
@[simp] theorem ahQ:X.dy 34 5 = false:=by kernel_rfl
@[simp] theorem ahR:X.dy 34 8 = false:=by kernel_rfl
@[simp] theorem ahS:X.dy 38 9 = true:=by kernel_rfl
@[simp] theorem adF:X.dy 38 20 = true:=by kernel_rfl
@[simp] theorem adG:X.dy 45 12 = false:=by kernel_rfl
@[simp] theorem adH:X.dy 46 10 = false:=by kernel_rfl
@[simp] theorem ahT:X.dy 47 1 = true:=by kernel_rfl
@[simp] theorem ahU:X.dy 48 2 = false:=by kernel_rfl
@[simp] theorem ahV:X.dy 64 1 = false:=by kernel_rfl
@[simp] theorem ahW:X.dy 65 3 = false:=by kernel_rfl
@[simp] theorem ahX:X.dy 66 3 = true:=by kernel_rfl
@[simp] theorem adI:X.dy 66 11 = false:=by kernel_rfl
@[simp] theorem adJ:X.dy 66 17 = false:=by kernel_rfl
@[simp] theorem ahY:X.dy 73 6 = false:=by kernel_rfl
@[simp] theorem ahZ:X.dy 74 2 = false:=by kernel_rfl
@[simp] theorem ah0:X.dy 89 8 = false:=by kernel_rfl
@[simp] theorem al0:sizeT X 0 = 1:=by kernel_rfl
@[simp] theorem ah1:bG X 0 = 0:=by kernel_rfl
@[simp] theorem aoy:okT X 0 = true:=by kernel_rfl
@[simp] theorem isAgg0:bF X 0 = false:=by kernel_rfl
@[simp] theorem ah2:bY X 0 = false:=by kernel_rfl
@[simp] theorem ah3:cZ X 0 = false:=by kernel_rfl
@[simp] theorem al1:gY X 0 = false:=by kernel_rfl
@[simp] theorem aoz:bM X 0 = true:=by kernel_rfl
@[simp] theorem aoA:und X 3 = .int .i64:=by kernel_rfl
@[simp] theorem size3:sizeT X 3 = 1:=by kernel_rfl
@[simp] theorem bytes3:bG X 3 = 8:=by kernel_rfl
@[simp] theorem aoB:okT X 3 = true:=by kernel_rfl
@[simp] theorem isAgg3:bF X 3 = false:=by kernel_rfl
@[simp] theorem ah4:bY X 3 = true:=by kernel_rfl
@[simp] theorem ah5:cZ X 3 = false:=by kernel_rfl
@[simp] theorem al2:gY X 3 = false:=by kernel_rfl
@[simp] theorem SB:bM X 3 = true:=by kernel_rfl
@[simp] theorem zero3:bg X 3 = .int .i64 0:=by kernel_rfl
@[simp] theorem aoC:und X 4 = .bool:=by kernel_rfl
@[simp] theorem al3:sizeT X 4 = 1:=by kernel_rfl
@[simp] theorem bytes4:bG X 4 = 1:=by kernel_rfl
@[simp] theorem aoD:okT X 4 = true:=by kernel_rfl
@[simp] theorem isAgg4:bF X 4 = false:=by kernel_rfl
@[simp] theorem ah6:bY X 4 = false:=by kernel_rfl
@[simp] theorem ah7:cZ X 4 = false:=by kernel_rfl
@[simp] theorem al4:gY X 4 = false:=by kernel_rfl
@[simp] theorem aoE:bM X 4 = true:=by kernel_rfl
@[simp] theorem al5:bg X 4 = .bool false:=by kernel_rfl
@[simp] theorem SQ:und X 5 = .int .u8:=by kernel_rfl
@[simp] theorem zX:sizeT X 5 = 1:=by kernel_rfl
@[simp] theorem bytes5:bG X 5 = 1:=by kernel_rfl
@[simp] theorem aoF:okT X 5 = true:=by kernel_rfl
@[simp] theorem isAgg5:bF X 5 = false:=by kernel_rfl
@[simp] theorem ah8:bY X 5 = true:=by kernel_rfl
@[simp] theorem ah9:cZ X 5 = false:=by kernel_rfl
@[simp] theorem al6:gY X 5 = true:=by kernel_rfl
@[simp] theorem Jp:bM X 5 = true:=by kernel_rfl
@[simp] theorem al7:bg X 5 = .int .u8 0:=by kernel_rfl
@[simp] theorem aoG:und X 9 = .string:=by kernel_rfl
@[simp] theorem al8:sizeT X 9 = 1:=by kernel_rfl
@[simp] theorem bytes9:bG X 9 = 16:=by kernel_rfl
@[simp] theorem aoH:okT X 9 = true:=by kernel_rfl
@[simp] theorem isAgg9:bF X 9 = false:=by kernel_rfl
@[simp] theorem aia:bY X 9 = false:=by kernel_rfl
@[simp] theorem aib:cZ X 9 = false:=by kernel_rfl
@[simp] theorem al9:gY X 9 = false:=by kernel_rfl
@[simp] theorem aoI:bM X 9 = true:=by kernel_rfl
@[simp] theorem zero9:bg X 9 = .str []:=by kernel_rfl
@[simp] theorem vI:und X 22 = .slice 5:=by kernel_rfl
@[simp] theorem aic:sizeT X 22 = 1:=by kernel_rfl
@[simp] theorem adK:bG X 22 = 24:=by kernel_rfl
@[simp] theorem ama:okT X 22 = true:=by kernel_rfl
@[simp] theorem adL:bF X 22 = false:=by kernel_rfl
@[simp] theorem adM:bY X 22 = false:=by kernel_rfl
@[simp] theorem adN:cZ X 22 = false:=by kernel_rfl
@[simp] theorem aie:gY X 22 = false:=by kernel_rfl
@[simp] theorem amb:bM X 22 = true:=by kernel_rfl
@[simp] theorem zero22:bg X 22 = .ro 0 .pn 0:=by kernel_rfl
@[simp] theorem amc:und X 23 = .int .i64:=by kernel_rfl
@[simp] theorem aif:sizeT X 23 = 1:=by kernel_rfl
@[simp] theorem bytes23:bG X 23 = 8:=by kernel_rfl
@[simp] theorem amd:okT X 23 = true:=by kernel_rfl
@[simp] theorem adO:bF X 23 = false:=by kernel_rfl
@[simp] theorem adP:bY X 23 = true:=by kernel_rfl
@[simp] theorem adQ:cZ X 23 = false:=by kernel_rfl
@[simp] theorem aii:gY X 23 = false:=by kernel_rfl
@[simp] theorem ame:bM X 23 = true:=by kernel_rfl
@[simp] theorem aij:bg X 23 = .int .i64 0:=by kernel_rfl
@[simp] theorem aik:sizeT X 24 = 1:=by kernel_rfl
@[simp] theorem adR:bG X 24 = 0:=by kernel_rfl
@[simp] theorem amf:okT X 24 = true:=by kernel_rfl
@[simp] theorem isAgg24:bF X 24 = false:=by kernel_rfl
@[simp] theorem adS:bY X 24 = false:=by kernel_rfl
@[simp] theorem adT:cZ X 24 = false:=by kernel_rfl
@[simp] theorem ail:gY X 24 = false:=by kernel_rfl
@[simp] theorem amg:bM X 24 = true:=by kernel_rfl
@[simp] theorem amh:und X 31 = .int .u32:=by kernel_rfl
@[simp] theorem ain:sizeT X 31 = 1:=by kernel_rfl
@[simp] theorem adU:bG X 31 = 4:=by kernel_rfl
@[simp] theorem ami:okT X 31 = true:=by kernel_rfl
@[simp] theorem isAgg31:bF X 31 = false:=by kernel_rfl
@[simp] theorem adV:bY X 31 = true:=by kernel_rfl
@[simp] theorem adW:cZ X 31 = false:=by kernel_rfl
@[simp] theorem aio:gY X 31 = false:=by kernel_rfl
@[simp] theorem amj:bM X 31 = true:=by kernel_rfl
@[simp] theorem aip:bg X 31 = .int .u32 0:=by kernel_rfl
@[simp] theorem amk:und X 32 = .int .u64:=by kernel_rfl
@[simp] theorem aiq:sizeT X 32 = 1:=by kernel_rfl
@[simp] theorem adX:bG X 32 = 8:=by kernel_rfl
@[simp] theorem aml:okT X 32 = true:=by kernel_rfl
@[simp] theorem isAgg32:bF X 32 = false:=by kernel_rfl
@[simp] theorem adY:bY X 32 = true:=by kernel_rfl
@[simp] theorem adZ:cZ X 32 = false:=by kernel_rfl
@[simp] theorem air:gY X 32 = false:=by kernel_rfl
@[simp] theorem amm:bM X 32 = true:=by kernel_rfl
@[simp] theorem zero32:bg X 32 = .int .u64 0:=by kernel_rfl
@[simp] theorem ais:sizeT X 35 = 1:=by kernel_rfl
@[simp] theorem ad1:bG X 35 = 0:=by kernel_rfl
@[simp] theorem amn:okT X 35 = true:=by kernel_rfl
@[simp] theorem isAgg35:bF X 35 = false:=by kernel_rfl
@[simp] theorem ad2:bY X 35 = false:=by kernel_rfl
@[simp] theorem ad3:cZ X 35 = false:=by kernel_rfl
@[simp] theorem ait:gY X 35 = false:=by kernel_rfl
@[simp] theorem amo:bM X 35 = true:=by kernel_rfl
@[simp] theorem amq:und X 38 = .pointer 40:=by kernel_rfl
@[simp] theorem aiu:sizeT X 38 = 1:=by kernel_rfl
@[simp] theorem ad4:bG X 38 = 8:=by kernel_rfl
@[simp] theorem amr:okT X 38 = true:=by kernel_rfl
@[simp] theorem isAgg38:bF X 38 = false:=by kernel_rfl
@[simp] theorem ad5:bY X 38 = false:=by kernel_rfl
@[simp] theorem ad6:cZ X 38 = false:=by kernel_rfl
@[simp] theorem aiv:gY X 38 = false:=by kernel_rfl
@[simp] theorem ams:bM X 38 = true:=by kernel_rfl
@[simp] theorem aiw:bg X 38 = .gK:=by kernel_rfl
@[simp] theorem aix:sizeT X 40 = 5:=by kernel_rfl
@[simp] theorem ad7:bG X 40 = 72:=by kernel_rfl
@[simp] theorem amu:okT X 40 = true:=by kernel_rfl
@[simp] theorem isAgg40:bF X 40 = true:=by kernel_rfl
@[simp] theorem ad8:bY X 40 = false:=by kernel_rfl
@[simp] theorem ad9:cZ X 40 = false:=by kernel_rfl
@[simp] theorem aiy:gY X 40 = false:=by kernel_rfl
@[simp] theorem amv:bM X 40 = true:=by kernel_rfl
@[simp] theorem aiz:bg X 40 = .agg (.pc [.ro 0 .pn 0,.int .i64 0,.ro 0 .pn 0,.int .i64 0,.int .i64 0]):=by kernel_rfl
@[simp] theorem acN:und X 41 = .slice 53:=by kernel_rfl
@[simp] theorem aiA:sizeT X 41 = 1:=by kernel_rfl
@[simp] theorem aea:bG X 41 = 24:=by kernel_rfl
@[simp] theorem amw:okT X 41 = true:=by kernel_rfl
@[simp] theorem isAgg41:bF X 41 = false:=by kernel_rfl
@[simp] theorem aeb:bY X 41 = false:=by kernel_rfl
@[simp] theorem aec:cZ X 41 = false:=by kernel_rfl
@[simp] theorem aiB:gY X 41 = false:=by kernel_rfl
@[simp] theorem amx:bM X 41 = true:=by kernel_rfl
@[simp] theorem aiC:bg X 41 = .ro 0 .pn 0:=by kernel_rfl
@[simp] theorem amy:und X 45 = .slice 69:=by kernel_rfl
@[simp] theorem aiD:sizeT X 45 = 1:=by kernel_rfl
@[simp] theorem aed:bG X 45 = 24:=by kernel_rfl
@[simp] theorem amA:okT X 45 = true:=by kernel_rfl
@[simp] theorem isAgg45:bF X 45 = false:=by kernel_rfl
@[simp] theorem aee:bY X 45 = false:=by kernel_rfl
@[simp] theorem aef:cZ X 45 = false:=by kernel_rfl
@[simp] theorem aiE:gY X 45 = false:=by kernel_rfl
@[simp] theorem amB:bM X 45 = true:=by kernel_rfl
@[simp] theorem aiF:bg X 45 = .ro 0 .pn 0:=by kernel_rfl
@[simp] theorem amC:und X 47 = .pointer 51:=by kernel_rfl
@[simp] theorem aiG:sizeT X 47 = 1:=by kernel_rfl
@[simp] theorem aeg:bG X 47 = 8:=by kernel_rfl
@[simp] theorem amD:okT X 47 = true:=by kernel_rfl
@[simp] theorem isAgg47:bF X 47 = false:=by kernel_rfl
@[simp] theorem aeh:bY X 47 = false:=by kernel_rfl
@[simp] theorem aei:cZ X 47 = false:=by kernel_rfl
@[simp] theorem aiH:gY X 47 = false:=by kernel_rfl
@[simp] theorem amE:bM X 47 = true:=by kernel_rfl
@[simp] theorem aiI:bg X 47 = .gK:=by kernel_rfl
@[simp] theorem aiJ:sizeT X 48 = 1:=by kernel_rfl
@[simp] theorem aej:bG X 48 = 0:=by kernel_rfl
@[simp] theorem amF:okT X 48 = true:=by kernel_rfl
@[simp] theorem isAgg48:bF X 48 = false:=by kernel_rfl
@[simp] theorem aek:bY X 48 = false:=by kernel_rfl
@[simp] theorem ael:cZ X 48 = false:=by kernel_rfl
@[simp] theorem aiK:gY X 48 = false:=by kernel_rfl
@[simp] theorem amG:bM X 48 = true:=by kernel_rfl
@[simp] theorem aiL:sizeT X 51 = 5:=by kernel_rfl
@[simp] theorem aem:bG X 51 = 72:=by kernel_rfl
@[simp] theorem amH:okT X 51 = true:=by kernel_rfl
@[simp] theorem isAgg51:bF X 51 = true:=by kernel_rfl
@[simp] theorem aen:bY X 51 = false:=by kernel_rfl
@[simp] theorem aeo:cZ X 51 = false:=by kernel_rfl
@[simp] theorem aiM:gY X 51 = false:=by kernel_rfl
@[simp] theorem amI:bM X 51 = true:=by kernel_rfl
@[simp] theorem aiN:bg X 51 = .agg (.pc [.ro 0 .pn 0,.int .i64 0,.int .i64 0,.ro 0 .pn 0,.int .i64 0]):=by kernel_rfl
@[simp] theorem aaG:sizeT X 53 = 4:=by kernel_rfl
@[simp] theorem aep:bG X 53 = 32:=by kernel_rfl
@[simp] theorem amJ:okT X 53 = true:=by kernel_rfl
@[simp] theorem isAgg53:bF X 53 = true:=by kernel_rfl
@[simp] theorem aer:bY X 53 = false:=by kernel_rfl
@[simp] theorem aes:cZ X 53 = false:=by kernel_rfl
@[simp] theorem aiO:gY X 53 = false:=by kernel_rfl
@[simp] theorem acO:bM X 53 = true:=by kernel_rfl
@[simp] theorem aiP:bg X 53 = .agg (.pc [.int .i64 0,.bool false,.int .i64 0,.int .i64 0]):=by kernel_rfl
@[simp] theorem Hq:und X 56 = .slice 3:=by kernel_rfl
@[simp] theorem aiQ:sizeT X 56 = 1:=by kernel_rfl
@[simp] theorem aeu:bG X 56 = 24:=by kernel_rfl
@[simp] theorem amK:okT X 56 = true:=by kernel_rfl
@[simp] theorem isAgg56:bF X 56 = false:=by kernel_rfl
@[simp] theorem aev:bY X 56 = false:=by kernel_rfl
@[simp] theorem aew:cZ X 56 = false:=by kernel_rfl
@[simp] theorem aiR:gY X 56 = false:=by kernel_rfl
@[simp] theorem amL:bM X 56 = true:=by kernel_rfl
@[simp] theorem aiS:bg X 56 = .ro 0 .pn 0:=by kernel_rfl
@[simp] theorem aiT:sizeT X 57 = 1:=by kernel_rfl
@[simp] theorem aex:bG X 57 = 0:=by kernel_rfl
@[simp] theorem amM:okT X 57 = true:=by kernel_rfl
@[simp] theorem isAgg57:bF X 57 = false:=by kernel_rfl
@[simp] theorem aey:bY X 57 = false:=by kernel_rfl
@[simp] theorem aez:cZ X 57 = false:=by kernel_rfl
@[simp] theorem aiU:gY X 57 = false:=by kernel_rfl
@[simp] theorem amN:bM X 57 = true:=by kernel_rfl
@[simp] theorem aiV:sizeT X 60 = 1:=by kernel_rfl
@[simp] theorem aeA:bG X 60 = 0:=by kernel_rfl
@[simp] theorem amO:okT X 60 = true:=by kernel_rfl
@[simp] theorem aeB:bF X 60 = false:=by kernel_rfl
@[simp] theorem aeC:bY X 60 = false:=by kernel_rfl
@[simp] theorem aeD:cZ X 60 = false:=by kernel_rfl
@[simp] theorem aiW:gY X 60 = false:=by kernel_rfl
@[simp] theorem amP:bM X 60 = true:=by kernel_rfl
@[simp] theorem aiX:sizeT X 62 = 1:=by kernel_rfl
@[simp] theorem aeE:bG X 62 = 0:=by kernel_rfl
@[simp] theorem amQ:okT X 62 = true:=by kernel_rfl
@[simp] theorem aeF:bF X 62 = false:=by kernel_rfl
@[simp] theorem aeG:bY X 62 = false:=by kernel_rfl
@[simp] theorem aeH:cZ X 62 = false:=by kernel_rfl
@[simp] theorem aiY:gY X 62 = false:=by kernel_rfl
@[simp] theorem amR:bM X 62 = true:=by kernel_rfl
@[simp] theorem amS:und X 64 = .pointer 66:=by kernel_rfl
@[simp] theorem aiZ:sizeT X 64 = 1:=by kernel_rfl
@[simp] theorem aeI:bG X 64 = 8:=by kernel_rfl
@[simp] theorem amT:okT X 64 = true:=by kernel_rfl
@[simp] theorem aeJ:bF X 64 = false:=by kernel_rfl
@[simp] theorem aeK:bY X 64 = false:=by kernel_rfl
@[simp] theorem aeL:cZ X 64 = false:=by kernel_rfl
@[simp] theorem ai0:gY X 64 = false:=by kernel_rfl
@[simp] theorem amU:bM X 64 = true:=by kernel_rfl
@[simp] theorem zero64:bg X 64 = .gK:=by kernel_rfl
@[simp] theorem ai1:sizeT X 66 = 2:=by kernel_rfl
@[simp] theorem aeM:bG X 66 = 32:=by kernel_rfl
@[simp] theorem amV:okT X 66 = true:=by kernel_rfl
@[simp] theorem aeN:bF X 66 = true:=by kernel_rfl
@[simp] theorem aeO:bY X 66 = false:=by kernel_rfl
@[simp] theorem aeP:cZ X 66 = false:=by kernel_rfl
@[simp] theorem ai2:gY X 66 = false:=by kernel_rfl
@[simp] theorem amW:bM X 66 = true:=by kernel_rfl
@[simp] theorem ai3:bg X 66 = .agg (.pc [.ro 0 .pn 0,.int .i64 0]):=by kernel_rfl
@[simp] theorem ai4:sizeT X 67 = 1:=by kernel_rfl
@[simp] theorem aeQ:bG X 67 = 8:=by kernel_rfl
@[simp] theorem amX:okT X 67 = true:=by kernel_rfl
@[simp] theorem aeR:bF X 67 = false:=by kernel_rfl
@[simp] theorem aeS:bY X 67 = false:=by kernel_rfl
@[simp] theorem aeT:cZ X 67 = false:=by kernel_rfl
@[simp] theorem ai5:gY X 67 = false:=by kernel_rfl
@[simp] theorem amY:bM X 67 = true:=by kernel_rfl
@[simp] theorem ai6:bg X 67 = .jD:=by kernel_rfl
@[simp] theorem ai7:sizeT X 69 = 3:=by kernel_rfl
@[simp] theorem aeU:bG X 69 = 24:=by kernel_rfl
@[simp] theorem amZ:okT X 69 = true:=by kernel_rfl
@[simp] theorem aeV:bF X 69 = true:=by kernel_rfl
@[simp] theorem aeW:bY X 69 = false:=by kernel_rfl
@[simp] theorem aeX:cZ X 69 = false:=by kernel_rfl
@[simp] theorem ai8:gY X 69 = false:=by kernel_rfl
@[simp] theorem am0:bM X 69 = true:=by kernel_rfl
@[simp] theorem ai9:bg X 69 = .agg (.pc [.int .i64 0,.int .i64 0,.int .u8 0]):=by kernel_rfl
@[simp] theorem aja:sizeT X 70 = 1:=by kernel_rfl
@[simp] theorem aeY:bG X 70 = 0:=by kernel_rfl
@[simp] theorem am1:okT X 70 = true:=by kernel_rfl
@[simp] theorem aeZ:bF X 70 = false:=by kernel_rfl
@[simp] theorem ae0:bY X 70 = false:=by kernel_rfl
@[simp] theorem ae1:cZ X 70 = false:=by kernel_rfl
@[simp] theorem ajb:gY X 70 = false:=by kernel_rfl
@[simp] theorem am2:bM X 70 = true:=by kernel_rfl
@[simp] theorem am3:und X 72 = .map 73 56:=by kernel_rfl
@[simp] theorem ajc:sizeT X 72 = 1:=by kernel_rfl
@[simp] theorem ae2:bG X 72 = 8:=by kernel_rfl
@[simp] theorem am4:okT X 72 = true:=by kernel_rfl
@[simp] theorem ae3:bF X 72 = false:=by kernel_rfl
@[simp] theorem ae4:bY X 72 = false:=by kernel_rfl
@[simp] theorem ae5:cZ X 72 = false:=by kernel_rfl
@[simp] theorem ajd:gY X 72 = false:=by kernel_rfl
@[simp] theorem am5:bM X 72 = true:=by kernel_rfl
@[simp] theorem aje:bg X 72 = .iD:=by kernel_rfl
@[simp] theorem am6:und X 73 = .array 3 5:=by kernel_rfl
@[simp] theorem ajf:sizeT X 73 = 3:=by kernel_rfl
@[simp] theorem ae6:bG X 73 = 3:=by kernel_rfl
@[simp] theorem am7:okT X 73 = true:=by kernel_rfl
@[simp] theorem ae7:bF X 73 = true:=by kernel_rfl
@[simp] theorem ae8:bY X 73 = false:=by kernel_rfl
@[simp] theorem ae9:cZ X 73 = true:=by kernel_rfl
@[simp] theorem ajg:gY X 73 = false:=by kernel_rfl
@[simp] theorem am8:bM X 73 = true:=by kernel_rfl
@[simp] theorem ajh:bg X 73 = .agg (.pb [0,0,0]):=by kernel_rfl
@[simp] theorem aji:sizeT X 74 = 1:=by kernel_rfl
@[simp] theorem afa:bG X 74 = 8:=by kernel_rfl
@[simp] theorem am9:okT X 74 = true:=by kernel_rfl
@[simp] theorem afb:bF X 74 = false:=by kernel_rfl
@[simp] theorem afc:bY X 74 = false:=by kernel_rfl
@[simp] theorem afd:cZ X 74 = false:=by kernel_rfl
@[simp] theorem ajj:gY X 74 = false:=by kernel_rfl
@[simp] theorem ana:bM X 74 = true:=by kernel_rfl
@[simp] theorem ajk:bg X 74 = .jD:=by kernel_rfl
@[simp] theorem ajl:sizeT X 78 = 2:=by kernel_rfl
@[simp] theorem afe:bG X 78 = 48:=by kernel_rfl
@[simp] theorem anb:okT X 78 = true:=by kernel_rfl
@[simp] theorem aff:bF X 78 = true:=by kernel_rfl
@[simp] theorem afg:bY X 78 = false:=by kernel_rfl
@[simp] theorem afh:cZ X 78 = false:=by kernel_rfl
@[simp] theorem ajm:gY X 78 = false:=by kernel_rfl
@[simp] theorem anc:bM X 78 = true:=by kernel_rfl
@[simp] theorem ajn:bg X 78 = .agg (.pc [.ro 0 .pn 0,.ro 0 .pn 0]):=by kernel_rfl
@[simp] theorem ajo:sizeT X 80 = 1:=by kernel_rfl
@[simp] theorem afi:bG X 80 = 0:=by kernel_rfl
@[simp] theorem ane:okT X 80 = true:=by kernel_rfl
@[simp] theorem afj:bF X 80 = false:=by kernel_rfl
@[simp] theorem afk:bY X 80 = false:=by kernel_rfl
@[simp] theorem afl:cZ X 80 = false:=by kernel_rfl
@[simp] theorem ajp:gY X 80 = false:=by kernel_rfl
@[simp] theorem anf:bM X 80 = true:=by kernel_rfl
@[simp] theorem ang:und X 82 = .pointer 84:=by kernel_rfl
@[simp] theorem ajq:sizeT X 82 = 1:=by kernel_rfl
@[simp] theorem afm:bG X 82 = 8:=by kernel_rfl
@[simp] theorem anh:okT X 82 = true:=by kernel_rfl
@[simp] theorem afn:bF X 82 = false:=by kernel_rfl
@[simp] theorem afo:bY X 82 = false:=by kernel_rfl
@[simp] theorem afp:cZ X 82 = false:=by kernel_rfl
@[simp] theorem ajr:gY X 82 = false:=by kernel_rfl
@[simp] theorem ani:bM X 82 = true:=by kernel_rfl
@[simp] theorem ajs:bg X 82 = .gK:=by kernel_rfl
@[simp] theorem ajt:sizeT X 84 = 2:=by kernel_rfl
@[simp] theorem afq:bG X 84 = 32:=by kernel_rfl
@[simp] theorem anj:okT X 84 = true:=by kernel_rfl
@[simp] theorem afr:bF X 84 = true:=by kernel_rfl
@[simp] theorem afs:bY X 84 = false:=by kernel_rfl
@[simp] theorem aft:cZ X 84 = false:=by kernel_rfl
@[simp] theorem aju:gY X 84 = false:=by kernel_rfl
@[simp] theorem ank:bM X 84 = true:=by kernel_rfl
@[simp] theorem ajv:bg X 84 = .agg (.pc [.ro 0 .pn 0,.int .i64 0]):=by kernel_rfl
@[simp] theorem ajw:sizeT X 85 = 1:=by kernel_rfl
@[simp] theorem afu:bG X 85 = 0:=by kernel_rfl
@[simp] theorem anl:okT X 85 = true:=by kernel_rfl
@[simp] theorem afv:bF X 85 = false:=by kernel_rfl
@[simp] theorem afw:bY X 85 = false:=by kernel_rfl
@[simp] theorem afx:cZ X 85 = false:=by kernel_rfl
@[simp] theorem ajx:gY X 85 = false:=by kernel_rfl
@[simp] theorem anm:bM X 85 = true:=by kernel_rfl
@[simp] theorem ano:und X 90 = .array 19 3:=by kernel_rfl
@[simp] theorem ajy:sizeT X 90 = 19:=by kernel_rfl
@[simp] theorem afy:bG X 90 = 152:=by kernel_rfl
@[simp] theorem anp:okT X 90 = true:=by kernel_rfl
@[simp] theorem afz:bF X 90 = true:=by kernel_rfl
@[simp] theorem afA:bY X 90 = false:=by kernel_rfl
@[simp] theorem afB:cZ X 90 = true:=by kernel_rfl
@[simp] theorem ajz:gY X 90 = false:=by kernel_rfl
@[simp] theorem anq:bM X 90 = true:=by kernel_rfl
@[simp] theorem ajA:bg X 90 = .agg (.pi .i64 [0,0,0,0,0,0,0,0,0,0,0,0,0,0,0,0,0,0,0]):=by kernel_rfl
@[simp] theorem ajB:sizeT X 91 = 1:=by kernel_rfl
@[simp] theorem afC:bG X 91 = 0:=by kernel_rfl
@[simp] theorem anr:okT X 91 = true:=by kernel_rfl
@[simp] theorem afD:bF X 91 = false:=by kernel_rfl
@[simp] theorem afE:bY X 91 = false:=by kernel_rfl
@[simp] theorem afF:cZ X 91 = false:=by kernel_rfl
@[simp] theorem ajC:gY X 91 = false:=by kernel_rfl
@[simp] theorem ant:bM X 91 = true:=by kernel_rfl
@[simp] theorem anu:und X 96 = .array 16 3:=by kernel_rfl
@[simp] theorem ajD:sizeT X 96 = 16:=by kernel_rfl
@[simp] theorem afG:bG X 96 = 128:=by kernel_rfl
@[simp] theorem anv:okT X 96 = true:=by kernel_rfl
@[simp] theorem afH:bF X 96 = true:=by kernel_rfl
@[simp] theorem afI:bY X 96 = false:=by kernel_rfl
@[simp] theorem afJ:cZ X 96 = true:=by kernel_rfl
@[simp] theorem ajE:gY X 96 = false:=by kernel_rfl
@[simp] theorem anw:bM X 96 = true:=by kernel_rfl
@[simp] theorem ajF:bg X 96 = .agg (.pi .i64 [0,0,0,0,0,0,0,0,0,0,0,0,0,0,0,0]):=by kernel_rfl
@[simp] theorem ajG:sizeT X 97 = 1:=by kernel_rfl
@[simp] theorem afK:bG X 97 = 0:=by kernel_rfl
@[simp] theorem anx:okT X 97 = true:=by kernel_rfl
@[simp] theorem afL:bF X 97 = false:=by kernel_rfl
@[simp] theorem afM:bY X 97 = false:=by kernel_rfl
@[simp] theorem afN:cZ X 97 = false:=by kernel_rfl
@[simp] theorem ajH:gY X 97 = false:=by kernel_rfl
@[simp] theorem anz:bM X 97 = true:=by kernel_rfl
@[simp] theorem anA:und X 99 = .array 17 3:=by kernel_rfl
@[simp] theorem ajI:sizeT X 99 = 17:=by kernel_rfl
@[simp] theorem afO:bG X 99 = 136:=by kernel_rfl
@[simp] theorem anB:okT X 99 = true:=by kernel_rfl
@[simp] theorem afP:bF X 99 = true:=by kernel_rfl
@[simp] theorem afQ:bY X 99 = false:=by kernel_rfl
@[simp] theorem afR:cZ X 99 = true:=by kernel_rfl
@[simp] theorem ajJ:gY X 99 = false:=by kernel_rfl
@[simp] theorem anC:bM X 99 = true:=by kernel_rfl
@[simp] theorem ajK:bg X 99 = .agg (.pi .i64 [0,0,0,0,0,0,0,0,0,0,0,0,0,0,0,0,0]):=by kernel_rfl
@[simp] theorem afS:sizeT X 105 = 1:=by kernel_rfl
@[simp] theorem acY:bG X 105 = 0:=by kernel_rfl
@[simp] theorem ajL:okT X 105 = true:=by kernel_rfl
@[simp] theorem acZ:bF X 105 = false:=by kernel_rfl
@[simp] theorem ac0:bY X 105 = false:=by kernel_rfl
@[simp] theorem ac1:cZ X 105 = false:=by kernel_rfl
@[simp] theorem afT:gY X 105 = false:=by kernel_rfl
@[simp] theorem ajM:bM X 105 = true:=by kernel_rfl
@[simp] theorem ajN:und X 107 = .array 2 3:=by kernel_rfl
@[simp] theorem afU:sizeT X 107 = 2:=by kernel_rfl
@[simp] theorem ac2:bG X 107 = 16:=by kernel_rfl
@[simp] theorem ajO:okT X 107 = true:=by kernel_rfl
@[simp] theorem ac3:bF X 107 = true:=by kernel_rfl
@[simp] theorem ac4:bY X 107 = false:=by kernel_rfl
@[simp] theorem ac5:cZ X 107 = true:=by kernel_rfl
@[simp] theorem afV:gY X 107 = false:=by kernel_rfl
@[simp] theorem ajP:bM X 107 = true:=by kernel_rfl
@[simp] theorem afW:bg X 107 = .agg (.pi .i64 [0,0]):=by kernel_rfl
@[simp] theorem ajQ:und X 108 = .array 29 107:=by kernel_rfl
@[simp] theorem afX:sizeT X 108 = 58:=by kernel_rfl
@[simp] theorem ac6:bG X 108 = 464:=by kernel_rfl
@[simp] theorem ajR:okT X 108 = true:=by kernel_rfl
@[simp] theorem ac7:bF X 108 = true:=by kernel_rfl
@[simp] theorem ac8:bY X 108 = false:=by kernel_rfl
@[simp] theorem ac9:cZ X 108 = true:=by kernel_rfl
@[simp] theorem afY:gY X 108 = false:=by kernel_rfl
@[simp] theorem ajS:bM X 108 = true:=by kernel_rfl
@[simp] theorem afZ:bg X 108 = .agg (.pr 2 [.pc [.int .i64 0,.int .i64 0],.pc [.int .i64 0,.int .i64 0],.pc [.int .i64 0,.int .i64 0],.pc [.int .i64 0,.int .i64 0],.pc [.int .i64 0,.int .i64 0],.pc [.int .i64 0,.int .i64 0],.pc [.int .i64 0,.int .i64 0],.pc [.int .i64 0,.int .i64 0],.pc [.int .i64 0,.int .i64 0],.pc [.int .i64 0,.int .i64 0],.pc [.int .i64 0,.int .i64 0],.pc [.int .i64 0,.int .i64 0],.pc [.int .i64 0,.int .i64 0],.pc [.int .i64 0,.int .i64 0],.pc [.int .i64 0,.int .i64 0],.pc [.int .i64 0,.int .i64 0],.pc [.int .i64 0,.int .i64 0],.pc [.int .i64 0,.int .i64 0],.pc [.int .i64 0,.int .i64 0],.pc [.int .i64 0,.int .i64 0],.pc [.int .i64 0,.int .i64 0],.pc [.int .i64 0,.int .i64 0],.pc [.int .i64 0,.int .i64 0],.pc [.int .i64 0,.int .i64 0],.pc [.int .i64 0,.int .i64 0],.pc [.int .i64 0,.int .i64 0],.pc [.int .i64 0,.int .i64 0],.pc [.int .i64 0,.int .i64 0],.pc [.int .i64 0,.int .i64 0]]):=by kernel_rfl
@[simp] theorem af0:sizeT X 110 = 1:=by kernel_rfl
@[simp] theorem ada:bG X 110 = 8:=by kernel_rfl
@[simp] theorem ajT:okT X 110 = true:=by kernel_rfl
@[simp] theorem adb:bF X 110 = false:=by kernel_rfl
@[simp] theorem ade:bY X 110 = false:=by kernel_rfl
@[simp] theorem adf:cZ X 110 = false:=by kernel_rfl
@[simp] theorem af2:gY X 110 = false:=by kernel_rfl
@[simp] theorem ajU:bM X 110 = true:=by kernel_rfl
@[simp] theorem af4:bg X 110 = .jD:=by kernel_rfl
@[simp] theorem ajV:und X 112 = .array 16 56:=by kernel_rfl
@[simp] theorem af5:sizeT X 112 = 16:=by kernel_rfl
@[simp] theorem adg:bG X 112 = 384:=by kernel_rfl
@[simp] theorem ajW:okT X 112 = true:=by kernel_rfl
@[simp] theorem adh:bF X 112 = true:=by kernel_rfl
@[simp] theorem adi:bY X 112 = false:=by kernel_rfl
@[simp] theorem adk:cZ X 112 = true:=by kernel_rfl
@[simp] theorem af6:gY X 112 = false:=by kernel_rfl
@[simp] theorem ajX:bM X 112 = true:=by kernel_rfl
@[simp] theorem af7:bg X 112 = .agg (.pc [.ro 0 .pn 0,.ro 0 .pn 0,.ro 0 .pn 0,.ro 0 .pn 0,.ro 0 .pn 0,.ro 0 .pn 0,.ro 0 .pn 0,.ro 0 .pn 0,.ro 0 .pn 0,.ro 0 .pn 0,.ro 0 .pn 0,.ro 0 .pn 0,.ro 0 .pn 0,.ro 0 .pn 0,.ro 0 .pn 0,.ro 0 .pn 0]):=by kernel_rfl
@[simp] theorem ajY (H:AM.Heap) (x:AV):bD X H 40 x 0 = faV H x 0:=bK (ty:=22) (by kernel_rfl) (by kernel_rfl) H x
@[simp] theorem ajZ (x:AV):gG X 40 x 0 = fvV X x 0 22:=fA (by kernel_rfl) x
@[simp] theorem aj0 (H:AM.Heap) (x:AV):bD X H 40 x 1 = faV H x 1:=bK (ty:=3) (by kernel_rfl) (by kernel_rfl) H x
@[simp] theorem aj1 (x:AV):gG X 40 x 1 = fvV X x 1 3:=fA (by kernel_rfl) x
@[simp] theorem aj2 (H:AM.Heap) (x:AV):bD X H 40 x 2 = faV H x 2:=bK (ty:=22) (by kernel_rfl) (by kernel_rfl) H x
@[simp] theorem aj3 (x:AV):gG X 40 x 2 = fvV X x 2 22:=fA (by kernel_rfl) x
@[simp] theorem aj6 (H:AM.Heap) (x:AV):bD X H 40 x 3 = faV H x 3:=bK (ty:=3) (by kernel_rfl) (by kernel_rfl) H x
@[simp] theorem aj7 (x:AV):gG X 40 x 3 = fvV X x 3 3:=fA (by kernel_rfl) x
@[simp] theorem aj8 (H:AM.Heap) (x:AV):bD X H 40 x 4 = faV H x 4:=bK (ty:=23) (by kernel_rfl) (by kernel_rfl) H x
@[simp] theorem aj9 (x:AV):gG X 40 x 4 = fvV X x 4 23:=fA (by kernel_rfl) x
@[simp] theorem akb (H:AM.Heap) (x:AV):bD X H 51 x 0 = faV H x 0:=bK (ty:=22) (by kernel_rfl) (by kernel_rfl) H x
@[simp] theorem akc (x:AV):gG X 51 x 0 = fvV X x 0 22:=fA (by kernel_rfl) x
@[simp] theorem akd (H:AM.Heap) (x:AV):bD X H 51 x 1 = faV H x 1:=bK (ty:=3) (by kernel_rfl) (by kernel_rfl) H x
@[simp] theorem ake (x:AV):gG X 51 x 1 = fvV X x 1 3:=fA (by kernel_rfl) x
@[simp] theorem akf (H:AM.Heap) (x:AV):bD X H 51 x 2 = faV H x 2:=bK (ty:=23) (by kernel_rfl) (by kernel_rfl) H x
@[simp] theorem akg (x:AV):gG X 51 x 2 = fvV X x 2 23:=fA (by kernel_rfl) x
@[simp] theorem akh (H:AM.Heap) (x:AV):bD X H 51 x 3 = faV H x 3:=bK (ty:=22) (by kernel_rfl) (by kernel_rfl) H x
@[simp] theorem aki (x:AV):gG X 51 x 3 = fvV X x 3 22:=fA (by kernel_rfl) x
@[simp] theorem akj (H:AM.Heap) (x:AV):bD X H 51 x 4 = faV H x 4:=bK (ty:=3) (by kernel_rfl) (by kernel_rfl) H x
@[simp] theorem akk (x:AV):gG X 51 x 4 = fvV X x 4 3:=fA (by kernel_rfl) x
@[simp] theorem akl (H:AM.Heap) (x:AV):bD X H 53 x 0 = faV H x 0:=bK (ty:=3) (by kernel_rfl) (by kernel_rfl) H x
@[simp] theorem akm (x:AV):gG X 53 x 0 = fvV X x 0 3:=fA (by kernel_rfl) x
@[simp] theorem akn (H:AM.Heap) (x:AV):bD X H 53 x 1 = faV H x 1:=bK (ty:=4) (by kernel_rfl) (by kernel_rfl) H x
@[simp] theorem ako (x:AV):gG X 53 x 1 = fvV X x 1 4:=fA (by kernel_rfl) x
@[simp] theorem akp (H:AM.Heap) (x:AV):bD X H 53 x 3 = faV H x 3:=bK (ty:=3) (by kernel_rfl) (by kernel_rfl) H x
@[simp] theorem akq (x:AV):gG X 53 x 3 = fvV X x 3 3:=fA (by kernel_rfl) x
@[simp] theorem akr (H:AM.Heap) (x:AV):bD X H 66 x 0 = faV H x 0:=bK (ty:=22) (by kernel_rfl) (by kernel_rfl) H x
@[simp] theorem aks (x:AV):gG X 66 x 0 = fvV X x 0 22:=fA (by kernel_rfl) x
@[simp] theorem akt (H:AM.Heap) (x:AV):bD X H 66 x 1 = faV H x 1:=bK (ty:=3) (by kernel_rfl) (by kernel_rfl) H x
@[simp] theorem aku (x:AV):gG X 66 x 1 = fvV X x 1 3:=fA (by kernel_rfl) x
@[simp] theorem akv (H:AM.Heap) (x:AV):bD X H 69 x 0 = faV H x 0:=bK (ty:=3) (by kernel_rfl) (by kernel_rfl) H x
@[simp] theorem akw (x:AV):gG X 69 x 0 = fvV X x 0 3:=fA (by kernel_rfl) x
@[simp] theorem akx (H:AM.Heap) (x:AV):bD X H 69 x 1 = faV H x 1:=bK (ty:=3) (by kernel_rfl) (by kernel_rfl) H x
@[simp] theorem aky (x:AV):gG X 69 x 1 = fvV X x 1 3:=fA (by kernel_rfl) x
@[simp] theorem akz (H:AM.Heap) (x:AV):bD X H 69 x 2 = faV H x 2:=bK (ty:=5) (by kernel_rfl) (by kernel_rfl) H x
@[simp] theorem akA (x:AV):gG X 69 x 2 = fvV X x 2 5:=fA (by kernel_rfl) x
@[simp] theorem akB (H:AM.Heap) (x:AV):bD X H 78 x 0 = faV H x 0:=bK (ty:=56) (by kernel_rfl) (by kernel_rfl) H x
@[simp] theorem akC (x:AV):gG X 78 x 0 = fvV X x 0 56:=fA (by kernel_rfl) x
@[simp] theorem akD (H:AM.Heap) (x:AV):bD X H 78 x 1 = faV H x 1:=bK (ty:=56) (by kernel_rfl) (by kernel_rfl) H x
@[simp] theorem akE (x:AV):gG X 78 x 1 = fvV X x 1 56:=fA (by kernel_rfl) x
@[simp] theorem akF (H:AM.Heap) (x:AV):bD X H 84 x 0 = faV H x 0:=bK (ty:=22) (by kernel_rfl) (by kernel_rfl) H x
@[simp] theorem akG (x:AV):gG X 84 x 0 = fvV X x 0 22:=fA (by kernel_rfl) x
@[simp] theorem akH (H:AM.Heap) (x:AV):bD X H 84 x 1 = faV H x 1:=bK (ty:=3) (by kernel_rfl) (by kernel_rfl) H x
@[simp] theorem akI (x:AV):gG X 84 x 1 = fvV X x 1 3:=fA (by kernel_rfl) x
end Go.Proofs.Ytcllinmgllmpmaa
