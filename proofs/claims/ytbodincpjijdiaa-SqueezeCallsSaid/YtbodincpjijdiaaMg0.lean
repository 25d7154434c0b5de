/- X to X: texts of this claim, one behind the other; what each shows stands at its head. -/
import Derived.Test.YtbodincpjijdiaaRows
import Derived.Test.YtbodincpjijdiaaAm4
set_option linter.unusedSimpArgs false
set_option linter.unusedVariables false
set_option maxRecDepth 100000
set_option maxHeartbeats 8000000
namespace Go.Proofs.Ytbodincpjijdiaa
open Go.AM
def dN:List (List (List Nat)):=[[],[],[],[[0,1,2,3],[0,1,2,3,17],[8],[0,1,2,3,20],[8],[0,1,2,3,9],[0,1,2,3,9,10,11,12],[0,9,10,11,12,13,14,15],[8]],[],[],[],[],[[],[1,2,3],[0]],[[0],[2]],[[0,1,2,3],[0,1,2,3,29],[8,9,10],[0,1,2,3,11],[0,1,2,3,11,36],[0,1,2,3,11,12],[0,1,2,3,11,12,13,14],[0,1,2,3,11,12,13,14,46],[0,1,2,3,11,12,13,14,15],[0,1,2,3,11,12,13,14,15,52],[0,1,2,3,11,12,13,14],[0,1,2,3,11,12,13,14],[0,1,2,3,11,12,13,14],[0,1,2,3,11,12,13],[0,1,2,3,11,12],[0,1,2,3,11,12],[0,1,2,3,11],[8,9,10]],[[0,1,2,3],[0,1,2,3,30],[8,9,10],[0,1,2,3,11],[0,1,2,3,11,12],[0,1,2,3,11,12,34],[0,1,2,3,11,12,13],[0,1,2,3,11,12,13],[0,1,2,3,11,12,13,14],[0,1,2,3,11,12,13,14,15],[0,1,2,3,11,12,13,14,15,52],[0,1,2,3,11,12,13,14,15,16],[0,1,2,3,11,12,13,14,15,16,59],[0,1,2,3,11,12,14,15],[0,1,2,3,11,12,14],[0,1,2,3,11,12],[0,1,2,3,11,12],[8,9,10]],[[0,1],[4]],[[0,1],[0,1,18],[4],[5],[5,6],[5,6,33],[5,6],[5,6,40],[4],[4]],[],[],[],[],[],[],[],[],[],[],[],[[0],[0,3],[3,4],[2]],[[0,1,2],[0,1,2,26],[6,7],[1,2,8],[1,8,29,30],[1,8,29,30,31],[1,8,9,29,30],[1,8,29,30],[1,8,29,30],[6,7]],[[0],[0,3],[3,4],[2]],[],[],[],[],[],[],[[0],[2]],[[0],[0,3],[3,5],[3,5,18],[2],[2]],[[0],[0,4],[2],[2]],[[0],[0,3],[3,5],[3,5,18],[2],[2]],[[0],[2]],[],[],[[0,1],[1,5,6],[1,5,6],[5,6,18,19,20],[5,6,18,19,20,21],[5,6,8,18,19,20],[5,6,18,19,20],[5,6,18,19,20],[5,6,18,19,20],[4]],[[0],[0,5],[0,5,24],[2,3],[0,6,7],[0,6,7,8],[0,6,7,8,10],[0,6,7,8,10,12],[0,6,7,8,10,12],[0,6,7,8,10,12],[6,7,8,10,12,46,47,48],[6,7,8,10,12,46,47,48,49],[6,7,8,10,12,14,46,47,48],[6,7,8,10,12,14,46,47,48,54],[6,7,8,10,12,46,47,48],[6,7,8,10,12,14,15,16,17,46,47,48],[6,7,8,10,12,14,16,17,46,47,48],[6,7,8,10,12,14,46,47,48],[6,7,8,10,12,14,15,16,17,46,47,48],[6,7,8,10,12,14,16,17,46,47,48],[6,7,8,10,12,46,47,48],[6,7,8,10,12,46,47,48],[12],[2,3]],[[1],[1,3],[1,3,4],[1,3,4,5],[1,3,4,5,6],[1,3,4,5,6,18],[1,3,4,5,6,7,8],[1,3,4,5,6,7,8,23],[1,3,4,5,6,7,8,9],[1,3,4,5,6,7,8,9,10],[1,3,4,5,6,7,8,9,10,58],[1,3,4,5,6,7,8,9,10],[1,3,4,5,6,7,8,9,10,11],[1,3,4,5,6,7,8,9,10,11,70],[1,3,4,5,6,7,8,9,10],[1,3,4,5,6,7,8,12],[1,3,4,5,6,7,8,12,84],[1,3,4,5,6,12],[1,3,4,5,6,12],[1,3,4,5,6,94,95],[1,3,4,5,6,94,95,96],[1,3,4,5,6,94,95],[1,3,4,5,6,94,95],[1,3,4,5,6,94,95],[2]],[[0],[0,3],[0,3,4],[0,3,4,5],[0,3,4,5,14],[0,3,4,5],[0,3,4,5],[0,3,4,5],[0,3,4,5],[0,3,4,5],[0,3,4,5],[0,3,4,5],[0,3,5],[0,3,58],[2]],[[0],[0,5],[0,5,24],[2,3],[0,6,7],[0,6,7,8],[0,6,7,8,10],[0,6,7,8,10,12],[0,6,7,8,10,12],[0,6,7,8,10,12],[0,6,7,8,10,12,13],[0,6,7,8,10,12,13,49],[0,6,7,8,10,12,13],[0,6,7,8,10,12,13,57],[0,6,7,8,10,12,13,14],[0,6,7,8,10,12,13],[0,6,7,8,10,12,13,15],[0,6,7,8,10,12,13,15,16,17],[0,6,7,8,10,12,13,16,17],[0,6,7,8,10,12,13],[0,6,7,8,10,12,13,15],[0,6,7,8,10,12,13,15,16,17],[0,6,7,8,10,12,13,16,17],[0,6,7,8,10,12,13],[12],[2,3]],[[0],[0,3],[0,3,4],[0,3,4,12],[0,3,4,5,6],[0,3,4,5,6,7],[0,3,4,5,6,7,23],[0,3,4,5,6,7],[0,3,4,5,6,7,8],[0,3,4,5,6,7,8,32],[0,3,4,5,6,7],[0,3,4,5,6,36],[0,3,4,5],[0,3,4],[0,3,4],[0,3,4],[2]],[[0],[0,3],[0,3,4],[0,3,4,14],[0,3,4,5],[0,3,4,5,6],[0,3,4,5,6,25],[0,3,4,5,6],[0,3,4,5,6],[0,3,4,5,6],[0,3,4,6],[0,3,4,54],[2],[2]],[[0,1],[1,5,6],[1,5,6,7],[1,5,6,7,17],[1,5,6,7],[1,5,6,7],[1,5,6,7],[4]],[],[],[[0],[2,3]],[[0],[0,4],[4,7,8,9],[4,7,8,9,10],[4,6,7,8,9],[4,6,7,8,9,15],[2,3],[4,6,7,8,9,18],[4,7,8,9],[4,6,7,8,9,28],[2,3],[4,6,7,8,9,30,31],[4,6,7,8,9,30,31,32],[4,6,7,8,9,30,31],[4,6,7,8,9,30,31],[4,7,8,9],[2,3]],[[0,1],[0,1,4],[0,1,4,5],[0,1,2,4],[0,1,2,3,4],[0,1,2,3,4,7],[0,1,3,4],[0,1,3,4,14],[0,1,3,4],[0,1,4],[0,1,4],[0,1,26],[0,1,26,27],[0,1,26],[0,1,26],[0,1]],[[0],[0,5],[0,5,18],[2,3],[0,6],[0,8],[0,8,9],[8,9,30,31,32],[8,9,30,31,32,33],[8,9,10,11,30,31,32],[8,9,10,11,30,31,32],[8,9,10,11,30,31,32,41],[8,9,11,30,31,32],[8,9,30,31,32],[8,9,30,31,32],[2,3]],[[0,1,7,8],[0,1,7,8,9],[0,1,6,7,8],[0,1,7,8],[0,1,7,8]],[[0,1,6],[0,1,6,10],[0,1,6],[0,1,6]],[[0],[0,6],[2,3,4],[0,9],[2,3,4],[0,2,3],[0,2,3,4],[0,2,3,4],[0,2,3,4,15],[0,2,3,4,15,16],[0,2,3,4,15,22],[2,3,4],[0,2,3,4,15],[0,2,3,4,15]],[[0],[0,6],[2,3,4],[0,2,3],[0,2,3,4],[0,2,3,4],[0,2,3,4,12],[0,2,3,4,12,13],[0,2,3,4,12,19],[2,3,4],[0,2,3,4,12],[0,2,3,4,12]],[[0,1,2,9],[0,2,4],[]],[[0,1,2],[0,1,2,7],[0,1,2,7,32],[0,1,2,7],[6]],[[0],[0,4],[0,4,5],[0,4,5,10],[0,4,5],[0,4,5,18],[2,3],[0,4,5,24],[0,4,5],[0,4,5,40],[2,3],[0,4,5,6],[0,4,5,6,47],[0,4,5,6],[0,4,5,6],[2,3]],[[],[2,3],[2,3,4],[2,3,4,9],[2,3,4],[2,3,4],[2,3,4,16],[2,3,4],[2,3,4,21],[2,3,4],[2,3,4,26],[2,3,4],[2,3,5],[2,3,5,31],[2,3,5],[2,3,5],[0,1]],[[0],[0,5],[0,5,18],[2,3],[0,6],[0,6,7,8],[0,6,7,8,9],[0,6,7,8,9,24],[0,6,7,8,9],[0,6,7,8,9,10],[0,6,7,8,9,10,30],[0,6,7,8,9,10],[0,6,7,8,9,10,38],[0,6,7,8,9,10,40],[0,6,7,9,10],[0,6,7,8,9,10],[0,6,11],[0,6,11,56],[0,6,11],[0,6,11,63],[0,6,11],[2,3]],[[0,1,2,6],[0,1,2,6,9],[0,1,2,6],[0,1,2,6],[0,1,2,6]],[[0,1,6],[0,1,6,10],[0,1,6],[0,1,6],[0,1,6]],[[0],[0,8],[2],[0,3],[0,3,4],[0,3,4,10],[0,3,4],[0,3,4,5],[0,3,4,20],[0,3,4],[2]],[[0],[0,6],[2,3],[0,8],[2,3],[0,4],[2,3]],[[0],[0,3],[0,3,4],[0,3,4,8],[0,3,4],[0,3,4,5],[0,3,4,18],[0,3,4],[2]],[[0],[0,6],[2,3],[0,4],[2,3]],[[0,1,2],[0,1,2,7],[0,1,2,7,34],[0,1,2,7],[6]],[],[[1],[1,5],[2],[2]],[[0],[3,4],[3,4,13],[2,3],[4,5],[4,5,6],[4,5,6,16],[4,5,6],[4,5,6],[5,28],[2,3],[2,3]],[[0,2],[0,2,4],[0,2,4,9],[2,3],[2,4,11,12,13],[2,4,11,12,13,14],[2,4,6,11,12,13],[2,4,6,11,12,13,22],[2,3],[2,4,11,12,13],[2,4,11,12,13],[2,3]],[[1,2],[1,2,3],[1,2,3],[1,2,3,4],[1,2,3,4,7],[1,2,3,4],[1,2,3,4],[2]],[[0,1,9],[0,1],[0],[]],[[1],[1,5],[2],[2]],[[0],[0,8],[2,3],[0,4],[0,4,5],[0,4,5,12],[0,4,5],[0,4,5,26],[2,3],[0,4,5,31],[0,4,5],[4,42],[2,3],[2,3]],[[0,1,2],[0,1,2,9],[0,1,2],[0],[6]],[],[],[],[],[],[],[],[],[],[],[],[],[],[],[],[],[],[],[],[],[],[],[],[],[],[],[],[],[],[],[],[]]
noncomputable def X:AM.Ctx:={ P:=Try.prog,G:=fun _=>.none,rw:=fun f i=>(f == 79 && i == 0) || (f == 13 && i == 0),keep:=fun f i=>((dN[f]?).getD [])[i]?,norm:=fun _ _=>false,dr:=fun _ _=>true,dy:=fun f id=>[(22,8),(50,6),(50,7),(59,1),(62,1),(71,19),(83,9),(83,20),(87,3)].contains (f,id) }
theorem own:ownKnob Try.prog.godebug = .none:=by kernel_rfl
theorem full:∀ t e,t < Try.prog.types.size→Try.prog.underlying t = some (.slice e)→0 < Try.prog.cellsOf e:=slices_full_of Try.prog (by kernel_rfl)
theorem YR:AM.Ez X:=AM.Qw (by kernel_rfl) (by kernel_rfl)
@[simp] theorem amT (f i:Nat):X.dr f i = true:=rfl
@[simp] theorem afz (f i:Nat):X.norm f i = false:=rfl
@[simp] theorem amU (f i:Nat):X.rw f i = ((f == 79 && i == 0) || (f == 13 && i == 0)):=rfl
@[simp] theorem akf (i:Nat):X.keep 3 i = ([[0,1,2,3],[0,1,2,3,17],[8],[0,1,2,3,20],[8],[0,1,2,3,9],[0,1,2,3,9,10,11,12],[0,9,10,11,12,13,14,15],[8]]:List (List Nat))[i]?:=congrArg (fun (l:List (List Nat))=>l[i]?) (show (dN[3]?).getD [] = _ by kernel_rfl)
@[simp] theorem akg (i:Nat):X.keep 8 i = ([[],[1,2,3],[0]]:List (List Nat))[i]?:=congrArg (fun (l:List (List Nat))=>l[i]?) (show (dN[8]?).getD [] = _ by kernel_rfl)
@[simp] theorem akh (i:Nat):X.keep 9 i = ([[0],[2]]:List (List Nat))[i]?:=congrArg (fun (l:List (List Nat))=>l[i]?) (show (dN[9]?).getD [] = _ by kernel_rfl)
@[simp] theorem afA (i:Nat):X.keep 10 i = ([[0,1,2,3],[0,1,2,3,29],[8,9,10],[0,1,2,3,11],[0,1,2,3,11,36],[0,1,2,3,11,12],[0,1,2,3,11,12,13,14],[0,1,2,3,11,12,13,14,46],[0,1,2,3,11,12,13,14,15],[0,1,2,3,11,12,13,14,15,52],[0,1,2,3,11,12,13,14],[0,1,2,3,11,12,13,14],[0,1,2,3,11,12,13,14],[0,1,2,3,11,12,13],[0,1,2,3,11,12],[0,1,2,3,11,12],[0,1,2,3,11],[8,9,10]]:List (List Nat))[i]?:=congrArg (fun (l:List (List Nat))=>l[i]?) (show (dN[10]?).getD [] = _ by kernel_rfl)
@[simp] theorem afB (i:Nat):X.keep 11 i = ([[0,1,2,3],[0,1,2,3,30],[8,9,10],[0,1,2,3,11],[0,1,2,3,11,12],[0,1,2,3,11,12,34],[0,1,2,3,11,12,13],[0,1,2,3,11,12,13],[0,1,2,3,11,12,13,14],[0,1,2,3,11,12,13,14,15],[0,1,2,3,11,12,13,14,15,52],[0,1,2,3,11,12,13,14,15,16],[0,1,2,3,11,12,13,14,15,16,59],[0,1,2,3,11,12,14,15],[0,1,2,3,11,12,14],[0,1,2,3,11,12],[0,1,2,3,11,12],[8,9,10]]:List (List Nat))[i]?:=congrArg (fun (l:List (List Nat))=>l[i]?) (show (dN[11]?).getD [] = _ by kernel_rfl)
@[simp] theorem afC (i:Nat):X.keep 12 i = ([[0,1],[4]]:List (List Nat))[i]?:=congrArg (fun (l:List (List Nat))=>l[i]?) (show (dN[12]?).getD [] = _ by kernel_rfl)
@[simp] theorem afD (i:Nat):X.keep 13 i = ([[0,1],[0,1,18],[4],[5],[5,6],[5,6,33],[5,6],[5,6,40],[4],[4]]:List (List Nat))[i]?:=congrArg (fun (l:List (List Nat))=>l[i]?) (show (dN[13]?).getD [] = _ by kernel_rfl)
@[simp] theorem afE (i:Nat):X.keep 25 i = ([[0],[0,3],[3,4],[2]]:List (List Nat))[i]?:=congrArg (fun (l:List (List Nat))=>l[i]?) (show (dN[25]?).getD [] = _ by kernel_rfl)
@[simp] theorem afF (i:Nat):X.keep 26 i = ([[0,1,2],[0,1,2,26],[6,7],[1,2,8],[1,8,29,30],[1,8,29,30,31],[1,8,9,29,30],[1,8,29,30],[1,8,29,30],[6,7]]:List (List Nat))[i]?:=congrArg (fun (l:List (List Nat))=>l[i]?) (show (dN[26]?).getD [] = _ by kernel_rfl)
@[simp] theorem afG (i:Nat):X.keep 27 i = ([[0],[0,3],[3,4],[2]]:List (List Nat))[i]?:=congrArg (fun (l:List (List Nat))=>l[i]?) (show (dN[27]?).getD [] = _ by kernel_rfl)
@[simp] theorem afH (i:Nat):X.keep 34 i = ([[0],[2]]:List (List Nat))[i]?:=congrArg (fun (l:List (List Nat))=>l[i]?) (show (dN[34]?).getD [] = _ by kernel_rfl)
@[simp] theorem afI (i:Nat):X.keep 35 i = ([[0],[0,3],[3,5],[3,5,18],[2],[2]]:List (List Nat))[i]?:=congrArg (fun (l:List (List Nat))=>l[i]?) (show (dN[35]?).getD [] = _ by kernel_rfl)
@[simp] theorem afJ (i:Nat):X.keep 36 i = ([[0],[0,4],[2],[2]]:List (List Nat))[i]?:=congrArg (fun (l:List (List Nat))=>l[i]?) (show (dN[36]?).getD [] = _ by kernel_rfl)
@[simp] theorem afK (i:Nat):X.keep 37 i = ([[0],[0,3],[3,5],[3,5,18],[2],[2]]:List (List Nat))[i]?:=congrArg (fun (l:List (List Nat))=>l[i]?) (show (dN[37]?).getD [] = _ by kernel_rfl)
@[simp] theorem afL (i:Nat):X.keep 38 i = ([[0],[2]]:List (List Nat))[i]?:=congrArg (fun (l:List (List Nat))=>l[i]?) (show (dN[38]?).getD [] = _ by kernel_rfl)
@[simp] theorem afM (i:Nat):X.keep 41 i = ([[0,1],[1,5,6],[1,5,6],[5,6,18,19,20],[5,6,18,19,20,21],[5,6,8,18,19,20],[5,6,18,19,20],[5,6,18,19,20],[5,6,18,19,20],[4]]:List (List Nat))[i]?:=congrArg (fun (l:List (List Nat))=>l[i]?) (show (dN[41]?).getD [] = _ by kernel_rfl)
@[simp] theorem afN (i:Nat):X.keep 42 i = ([[0],[0,5],[0,5,24],[2,3],[0,6,7],[0,6,7,8],[0,6,7,8,10],[0,6,7,8,10,12],[0,6,7,8,10,12],[0,6,7,8,10,12],[6,7,8,10,12,46,47,48],[6,7,8,10,12,46,47,48,49],[6,7,8,10,12,14,46,47,48],[6,7,8,10,12,14,46,47,48,54],[6,7,8,10,12,46,47,48],[6,7,8,10,12,14,15,16,17,46,47,48],[6,7,8,10,12,14,16,17,46,47,48],[6,7,8,10,12,14,46,47,48],[6,7,8,10,12,14,15,16,17,46,47,48],[6,7,8,10,12,14,16,17,46,47,48],[6,7,8,10,12,46,47,48],[6,7,8,10,12,46,47,48],[12],[2,3]]:List (List Nat))[i]?:=congrArg (fun (l:List (List Nat))=>l[i]?) (show (dN[42]?).getD [] = _ by kernel_rfl)
@[simp] theorem afO (i:Nat):X.keep 43 i = ([[1],[1,3],[1,3,4],[1,3,4,5],[1,3,4,5,6],[1,3,4,5,6,18],[1,3,4,5,6,7,8],[1,3,4,5,6,7,8,23],[1,3,4,5,6,7,8,9],[1,3,4,5,6,7,8,9,10],[1,3,4,5,6,7,8,9,10,58],[1,3,4,5,6,7,8,9,10],[1,3,4,5,6,7,8,9,10,11],[1,3,4,5,6,7,8,9,10,11,70],[1,3,4,5,6,7,8,9,10],[1,3,4,5,6,7,8,12],[1,3,4,5,6,7,8,12,84],[1,3,4,5,6,12],[1,3,4,5,6,12],[1,3,4,5,6,94,95],[1,3,4,5,6,94,95,96],[1,3,4,5,6,94,95],[1,3,4,5,6,94,95],[1,3,4,5,6,94,95],[2]]:List (List Nat))[i]?:=congrArg (fun (l:List (List Nat))=>l[i]?) (show (dN[43]?).getD [] = _ by kernel_rfl)
@[simp] theorem afP (i:Nat):X.keep 44 i = ([[0],[0,3],[0,3,4],[0,3,4,5],[0,3,4,5,14],[0,3,4,5],[0,3,4,5],[0,3,4,5],[0,3,4,5],[0,3,4,5],[0,3,4,5],[0,3,4,5],[0,3,5],[0,3,58],[2]]:List (List Nat))[i]?:=congrArg (fun (l:List (List Nat))=>l[i]?) (show (dN[44]?).getD [] = _ by kernel_rfl)
@[simp] theorem afQ (i:Nat):X.keep 45 i = ([[0],[0,5],[0,5,24],[2,3],[0,6,7],[0,6,7,8],[0,6,7,8,10],[0,6,7,8,10,12],[0,6,7,8,10,12],[0,6,7,8,10,12],[0,6,7,8,10,12,13],[0,6,7,8,10,12,13,49],[0,6,7,8,10,12,13],[0,6,7,8,10,12,13,57],[0,6,7,8,10,12,13,14],[0,6,7,8,10,12,13],[0,6,7,8,10,12,13,15],[0,6,7,8,10,12,13,15,16,17],[0,6,7,8,10,12,13,16,17],[0,6,7,8,10,12,13],[0,6,7,8,10,12,13,15],[0,6,7,8,10,12,13,15,16,17],[0,6,7,8,10,12,13,16,17],[0,6,7,8,10,12,13],[12],[2,3]]:List (List Nat))[i]?:=congrArg (fun (l:List (List Nat))=>l[i]?) (show (dN[45]?).getD [] = _ by kernel_rfl)
@[simp] theorem afR (i:Nat):X.keep 46 i = ([[0],[0,3],[0,3,4],[0,3,4,12],[0,3,4,5,6],[0,3,4,5,6,7],[0,3,4,5,6,7,23],[0,3,4,5,6,7],[0,3,4,5,6,7,8],[0,3,4,5,6,7,8,32],[0,3,4,5,6,7],[0,3,4,5,6,36],[0,3,4,5],[0,3,4],[0,3,4],[0,3,4],[2]]:List (List Nat))[i]?:=congrArg (fun (l:List (List Nat))=>l[i]?) (show (dN[46]?).getD [] = _ by kernel_rfl)
@[simp] theorem afS (i:Nat):X.keep 47 i = ([[0],[0,3],[0,3,4],[0,3,4,14],[0,3,4,5],[0,3,4,5,6],[0,3,4,5,6,25],[0,3,4,5,6],[0,3,4,5,6],[0,3,4,5,6],[0,3,4,6],[0,3,4,54],[2],[2]]:List (List Nat))[i]?:=congrArg (fun (l:List (List Nat))=>l[i]?) (show (dN[47]?).getD [] = _ by kernel_rfl)
@[simp] theorem afT (i:Nat):X.keep 48 i = ([[0,1],[1,5,6],[1,5,6,7],[1,5,6,7,17],[1,5,6,7],[1,5,6,7],[1,5,6,7],[4]]:List (List Nat))[i]?:=congrArg (fun (l:List (List Nat))=>l[i]?) (show (dN[48]?).getD [] = _ by kernel_rfl)
@[simp] theorem afU (i:Nat):X.keep 51 i = ([[0],[2,3]]:List (List Nat))[i]?:=congrArg (fun (l:List (List Nat))=>l[i]?) (show (dN[51]?).getD [] = _ by kernel_rfl)
@[simp] theorem afV (i:Nat):X.keep 52 i = ([[0],[0,4],[4,7,8,9],[4,7,8,9,10],[4,6,7,8,9],[4,6,7,8,9,15],[2,3],[4,6,7,8,9,18],[4,7,8,9],[4,6,7,8,9,28],[2,3],[4,6,7,8,9,30,31],[4,6,7,8,9,30,31,32],[4,6,7,8,9,30,31],[4,6,7,8,9,30,31],[4,7,8,9],[2,3]]:List (List Nat))[i]?:=congrArg (fun (l:List (List Nat))=>l[i]?) (show (dN[52]?).getD [] = _ by kernel_rfl)
@[simp] theorem afW (i:Nat):X.keep 53 i = ([[0,1],[0,1,4],[0,1,4,5],[0,1,2,4],[0,1,2,3,4],[0,1,2,3,4,7],[0,1,3,4],[0,1,3,4,14],[0,1,3,4],[0,1,4],[0,1,4],[0,1,26],[0,1,26,27],[0,1,26],[0,1,26],[0,1]]:List (List Nat))[i]?:=congrArg (fun (l:List (List Nat))=>l[i]?) (show (dN[53]?).getD [] = _ by kernel_rfl)
@[simp] theorem afX (i:Nat):X.keep 54 i = ([[0],[0,5],[0,5,18],[2,3],[0,6],[0,8],[0,8,9],[8,9,30,31,32],[8,9,30,31,32,33],[8,9,10,11,30,31,32],[8,9,10,11,30,31,32],[8,9,10,11,30,31,32,41],[8,9,11,30,31,32],[8,9,30,31,32],[8,9,30,31,32],[2,3]]:List (List Nat))[i]?:=congrArg (fun (l:List (List Nat))=>l[i]?) (show (dN[54]?).getD [] = _ by kernel_rfl)
@[simp] theorem afY (i:Nat):X.keep 55 i = ([[0,1,7,8],[0,1,7,8,9],[0,1,6,7,8],[0,1,7,8],[0,1,7,8]]:List (List Nat))[i]?:=congrArg (fun (l:List (List Nat))=>l[i]?) (show (dN[55]?).getD [] = _ by kernel_rfl)
@[simp] theorem afZ (i:Nat):X.keep 56 i = ([[0,1,6],[0,1,6,10],[0,1,6],[0,1,6]]:List (List Nat))[i]?:=congrArg (fun (l:List (List Nat))=>l[i]?) (show (dN[56]?).getD [] = _ by kernel_rfl)
@[simp] theorem af0 (i:Nat):X.keep 57 i = ([[0],[0,6],[2,3,4],[0,9],[2,3,4],[0,2,3],[0,2,3,4],[0,2,3,4],[0,2,3,4,15],[0,2,3,4,15,16],[0,2,3,4,15,22],[2,3,4],[0,2,3,4,15],[0,2,3,4,15]]:List (List Nat))[i]?:=congrArg (fun (l:List (List Nat))=>l[i]?) (show (dN[57]?).getD [] = _ by kernel_rfl)
@[simp] theorem af2 (i:Nat):X.keep 58 i = ([[0],[0,6],[2,3,4],[0,2,3],[0,2,3,4],[0,2,3,4],[0,2,3,4,12],[0,2,3,4,12,13],[0,2,3,4,12,19],[2,3,4],[0,2,3,4,12],[0,2,3,4,12]]:List (List Nat))[i]?:=congrArg (fun (l:List (List Nat))=>l[i]?) (show (dN[58]?).getD [] = _ by kernel_rfl)
@[simp] theorem af4 (i:Nat):X.keep 59 i = ([[0,1,2,9],[0,2,4],[]]:List (List Nat))[i]?:=congrArg (fun (l:List (List Nat))=>l[i]?) (show (dN[59]?).getD [] = _ by kernel_rfl)
@[simp] theorem af5 (i:Nat):X.keep 60 i = ([[0,1,2],[0,1,2,7],[0,1,2,7,32],[0,1,2,7],[6]]:List (List Nat))[i]?:=congrArg (fun (l:List (List Nat))=>l[i]?) (show (dN[60]?).getD [] = _ by kernel_rfl)
@[simp] theorem af6 (i:Nat):X.keep 61 i = ([[0],[0,4],[0,4,5],[0,4,5,10],[0,4,5],[0,4,5,18],[2,3],[0,4,5,24],[0,4,5],[0,4,5,40],[2,3],[0,4,5,6],[0,4,5,6,47],[0,4,5,6],[0,4,5,6],[2,3]]:List (List Nat))[i]?:=congrArg (fun (l:List (List Nat))=>l[i]?) (show (dN[61]?).getD [] = _ by kernel_rfl)
@[simp] theorem af7 (i:Nat):X.keep 62 i = ([[],[2,3],[2,3,4],[2,3,4,9],[2,3,4],[2,3,4],[2,3,4,16],[2,3,4],[2,3,4,21],[2,3,4],[2,3,4,26],[2,3,4],[2,3,5],[2,3,5,31],[2,3,5],[2,3,5],[0,1]]:List (List Nat))[i]?:=congrArg (fun (l:List (List Nat))=>l[i]?) (show (dN[62]?).getD [] = _ by kernel_rfl)
@[simp] theorem af8 (i:Nat):X.keep 63 i = ([[0],[0,5],[0,5,18],[2,3],[0,6],[0,6,7,8],[0,6,7,8,9],[0,6,7,8,9,24],[0,6,7,8,9],[0,6,7,8,9,10],[0,6,7,8,9,10,30],[0,6,7,8,9,10],[0,6,7,8,9,10,38],[0,6,7,8,9,10,40],[0,6,7,9,10],[0,6,7,8,9,10],[0,6,11],[0,6,11,56],[0,6,11],[0,6,11,63],[0,6,11],[2,3]]:List (List Nat))[i]?:=congrArg (fun (l:List (List Nat))=>l[i]?) (show (dN[63]?).getD [] = _ by kernel_rfl)
@[simp] theorem af9 (i:Nat):X.keep 64 i = ([[0,1,2,6],[0,1,2,6,9],[0,1,2,6],[0,1,2,6],[0,1,2,6]]:List (List Nat))[i]?:=congrArg (fun (l:List (List Nat))=>l[i]?) (show (dN[64]?).getD [] = _ by kernel_rfl)
@[simp] theorem aga (i:Nat):X.keep 65 i = ([[0,1,6],[0,1,6,10],[0,1,6],[0,1,6],[0,1,6]]:List (List Nat))[i]?:=congrArg (fun (l:List (List Nat))=>l[i]?) (show (dN[65]?).getD [] = _ by kernel_rfl)
@[simp] theorem agb (i:Nat):X.keep 66 i = ([[0],[0,8],[2],[0,3],[0,3,4],[0,3,4,10],[0,3,4],[0,3,4,5],[0,3,4,20],[0,3,4],[2]]:List (List Nat))[i]?:=congrArg (fun (l:List (List Nat))=>l[i]?) (show (dN[66]?).getD [] = _ by kernel_rfl)
@[simp] theorem agc (i:Nat):X.keep 67 i = ([[0],[0,6],[2,3],[0,8],[2,3],[0,4],[2,3]]:List (List Nat))[i]?:=congrArg (fun (l:List (List Nat))=>l[i]?) (show (dN[67]?).getD [] = _ by kernel_rfl)
@[simp] theorem agd (i:Nat):X.keep 68 i = ([[0],[0,3],[0,3,4],[0,3,4,8],[0,3,4],[0,3,4,5],[0,3,4,18],[0,3,4],[2]]:List (List Nat))[i]?:=congrArg (fun (l:List (List Nat))=>l[i]?) (show (dN[68]?).getD [] = _ by kernel_rfl)
@[simp] theorem agf (i:Nat):X.keep 69 i = ([[0],[0,6],[2,3],[0,4],[2,3]]:List (List Nat))[i]?:=congrArg (fun (l:List (List Nat))=>l[i]?) (show (dN[69]?).getD [] = _ by kernel_rfl)
@[simp] theorem agh (i:Nat):X.keep 70 i = ([[0,1,2],[0,1,2,7],[0,1,2,7,34],[0,1,2,7],[6]]:List (List Nat))[i]?:=congrArg (fun (l:List (List Nat))=>l[i]?) (show (dN[70]?).getD [] = _ by kernel_rfl)
@[simp] theorem agi (i:Nat):X.keep 72 i = ([[1],[1,5],[2],[2]]:List (List Nat))[i]?:=congrArg (fun (l:List (List Nat))=>l[i]?) (show (dN[72]?).getD [] = _ by kernel_rfl)
@[simp] theorem agj (i:Nat):X.keep 73 i = ([[0],[3,4],[3,4,13],[2,3],[4,5],[4,5,6],[4,5,6,16],[4,5,6],[4,5,6],[5,28],[2,3],[2,3]]:List (List Nat))[i]?:=congrArg (fun (l:List (List Nat))=>l[i]?) (show (dN[73]?).getD [] = _ by kernel_rfl)
@[simp] theorem agk (i:Nat):X.keep 74 i = ([[0,2],[0,2,4],[0,2,4,9],[2,3],[2,4,11,12,13],[2,4,11,12,13,14],[2,4,6,11,12,13],[2,4,6,11,12,13,22],[2,3],[2,4,11,12,13],[2,4,11,12,13],[2,3]]:List (List Nat))[i]?:=congrArg (fun (l:List (List Nat))=>l[i]?) (show (dN[74]?).getD [] = _ by kernel_rfl)
@[simp] theorem agl (i:Nat):X.keep 75 i = ([[1,2],[1,2,3],[1,2,3],[1,2,3,4],[1,2,3,4,7],[1,2,3,4],[1,2,3,4],[2]]:List (List Nat))[i]?:=congrArg (fun (l:List (List Nat))=>l[i]?) (show (dN[75]?).getD [] = _ by kernel_rfl)
@[simp] theorem agm (i:Nat):X.keep 76 i = ([[0,1,9],[0,1],[0],[]]:List (List Nat))[i]?:=congrArg (fun (l:List (List Nat))=>l[i]?) (show (dN[76]?).getD [] = _ by kernel_rfl)
@[simp] theorem agn (i:Nat):X.keep 77 i = ([[1],[1,5],[2],[2]]:List (List Nat))[i]?:=congrArg (fun (l:List (List Nat))=>l[i]?) (show (dN[77]?).getD [] = _ by kernel_rfl)
@[simp] theorem agp (i:Nat):X.keep 78 i = ([[0],[0,8],[2,3],[0,4],[0,4,5],[0,4,5,12],[0,4,5],[0,4,5,26],[2,3],[0,4,5,31],[0,4,5],[4,42],[2,3],[2,3]]:List (List Nat))[i]?:=congrArg (fun (l:List (List Nat))=>l[i]?) (show (dN[78]?).getD [] = _ by kernel_rfl)
@[simp] theorem agq (i:Nat):X.keep 79 i = ([[0,1,2],[0,1,2,9],[0,1,2],[0],[6]]:List (List Nat))[i]?:=congrArg (fun (l:List (List Nat))=>l[i]?) (show (dN[79]?).getD [] = _ by kernel_rfl)
attribute [go_sem] List.getElem?_cons_zero List.getElem?_cons_succ Go.AM.tu Go.AM.xk
@[simp] theorem nt3:fF X 3 = 59:=by kernel_rfl
@[simp] theorem amV:bodied X 3 = true:=by kernel_rfl
@[simp] theorem amW:aI X 3 = [22,5,3,3]:=by kernel_rfl
@[simp] theorem nt8:fF X 8 = 22:=by kernel_rfl
@[simp] theorem amX:bodied X 8 = true:=by kernel_rfl
@[simp] theorem amY:aI X 8 = []:=by kernel_rfl
@[simp] theorem nt9:fF X 9 = 14:=by kernel_rfl
@[simp] theorem amZ:bodied X 9 = true:=by kernel_rfl
@[simp] theorem agr:aI X 9 = [22]:=by kernel_rfl
@[simp] theorem am0:fF X 10 = 84:=by kernel_rfl
@[simp] theorem aki:bodied X 10 = true:=by kernel_rfl
@[simp] theorem YS:aI X 10 = [22,5,3,3]:=by kernel_rfl
@[simp] theorem am1:fF X 11 = 93:=by kernel_rfl
@[simp] theorem akj:bodied X 11 = true:=by kernel_rfl
@[simp] theorem YT:aI X 11 = [22,5,3,3]:=by kernel_rfl
@[simp] theorem am2:fF X 12 = 10:=by kernel_rfl
@[simp] theorem akk:bodied X 12 = true:=by kernel_rfl
@[simp] theorem YU:aI X 12 = [22,22]:=by kernel_rfl
@[simp] theorem am3:fF X 13 = 41:=by kernel_rfl
@[simp] theorem akl:bodied X 13 = true:=by kernel_rfl
@[simp] theorem YV:aI X 13 = [22,22]:=by kernel_rfl
@[simp] theorem am4:fF X 25 = 25:=by kernel_rfl
@[simp] theorem akm:bodied X 25 = true:=by kernel_rfl
@[simp] theorem YW:aI X 25 = [22]:=by kernel_rfl
@[simp] theorem am5:fF X 26 = 43:=by kernel_rfl
@[simp] theorem akn:bodied X 26 = true:=by kernel_rfl
@[simp] theorem YX:aI X 26 = [22,58,3]:=by kernel_rfl
@[simp] theorem am6:fF X 27 = 25:=by kernel_rfl
@[simp] theorem ako:bodied X 27 = true:=by kernel_rfl
@[simp] theorem YZ:aI X 27 = [22]:=by kernel_rfl
@[simp] theorem am7:fF X 34 = 5:=by kernel_rfl
@[simp] theorem akp:bodied X 34 = true:=by kernel_rfl
@[simp] theorem Y0:aI X 34 = [22]:=by kernel_rfl
@[simp] theorem am8:fF X 35 = 21:=by kernel_rfl
@[simp] theorem akq:bodied X 35 = true:=by kernel_rfl
@[simp] theorem Y1:aI X 35 = [22]:=by kernel_rfl
@[simp] theorem am9:fF X 36 = 8:=by kernel_rfl
@[simp] theorem akr:bodied X 36 = true:=by kernel_rfl
@[simp] theorem Y2:aI X 36 = [22]:=by kernel_rfl
@[simp] theorem ana:fF X 37 = 21:=by kernel_rfl
@[simp] theorem aks:bodied X 37 = true:=by kernel_rfl
@[simp] theorem Y3:aI X 37 = [22]:=by kernel_rfl
@[simp] theorem anb:fF X 38 = 5:=by kernel_rfl
@[simp] theorem akt:bodied X 38 = true:=by kernel_rfl
@[simp] theorem Y4:aI X 38 = [22]:=by kernel_rfl
@[simp] theorem anc:fF X 41 = 38:=by kernel_rfl
@[simp] theorem aku:bodied X 41 = true:=by kernel_rfl
@[simp] theorem Y5:aI X 41 = [68,22]:=by kernel_rfl
@[simp] theorem ane:fF X 42 = 128:=by kernel_rfl
@[simp] theorem akv:bodied X 42 = true:=by kernel_rfl
@[simp] theorem YB:aI X 42 = [75]:=by kernel_rfl
@[simp] theorem anf:fF X 43 = 104:=by kernel_rfl
@[simp] theorem akw:bodied X 43 = true:=by kernel_rfl
@[simp] theorem YL:aI X 43 = [22]:=by kernel_rfl
@[simp] theorem ang:fF X 44 = 63:=by kernel_rfl
@[simp] theorem akx:bodied X 44 = true:=by kernel_rfl
@[simp] theorem YF:aI X 44 = [22]:=by kernel_rfl
@[simp] theorem anh:fF X 45 = 148:=by kernel_rfl
@[simp] theorem aky:bodied X 45 = true:=by kernel_rfl
@[simp] theorem Y6:aI X 45 = [75]:=by kernel_rfl
@[simp] theorem ani:fF X 46 = 57:=by kernel_rfl
@[simp] theorem akz:bodied X 46 = true:=by kernel_rfl
@[simp] theorem Y7:aI X 46 = [22]:=by kernel_rfl
@[simp] theorem anj:fF X 47 = 57:=by kernel_rfl
@[simp] theorem akA:bodied X 47 = true:=by kernel_rfl
@[simp] theorem Y8:aI X 47 = [22]:=by kernel_rfl
@[simp] theorem ank:fF X 48 = 36:=by kernel_rfl
@[simp] theorem akB:bodied X 48 = true:=by kernel_rfl
@[simp] theorem Y9:aI X 48 = [68,22]:=by kernel_rfl
@[simp] theorem anl:fF X 51 = 8:=by kernel_rfl
@[simp] theorem akC:bodied X 51 = true:=by kernel_rfl
@[simp] theorem akD:aI X 51 = [68]:=by kernel_rfl
@[simp] theorem anm:fF X 52 = 47:=by kernel_rfl
@[simp] theorem akE:bodied X 52 = true:=by kernel_rfl
@[simp] theorem Za:aI X 52 = [75]:=by kernel_rfl
@[simp] theorem ano:fF X 53 = 34:=by kernel_rfl
@[simp] theorem akF:bodied X 53 = true:=by kernel_rfl
@[simp] theorem akG:aI X 53 = []:=by kernel_rfl
@[simp] theorem anp:fF X 54 = 55:=by kernel_rfl
@[simp] theorem akH:bodied X 54 = true:=by kernel_rfl
@[simp] theorem akI:aI X 54 = [36]:=by kernel_rfl
@[simp] theorem anq:fF X 55 = 17:=by kernel_rfl
@[simp] theorem akJ:bodied X 55 = true:=by kernel_rfl
@[simp] theorem Zb:aI X 55 = [86,3,3]:=by kernel_rfl
@[simp] theorem anr:fF X 56 = 18:=by kernel_rfl
@[simp] theorem akK:bodied X 56 = true:=by kernel_rfl
@[simp] theorem Zc:aI X 56 = [86,3,3]:=by kernel_rfl
@[simp] theorem ant:fF X 57 = 33:=by kernel_rfl
@[simp] theorem akL:bodied X 57 = true:=by kernel_rfl
@[simp] theorem Zd:aI X 57 = [3]:=by kernel_rfl
@[simp] theorem anu:fF X 58 = 30:=by kernel_rfl
@[simp] theorem akM:bodied X 58 = true:=by kernel_rfl
@[simp] theorem Ze:aI X 58 = [3]:=by kernel_rfl
@[simp] theorem anv:fF X 59 = 33:=by kernel_rfl
@[simp] theorem akN:bodied X 59 = true:=by kernel_rfl
@[simp] theorem YG:aI X 59 = [3]:=by kernel_rfl
@[simp] theorem anw:fF X 60 = 36:=by kernel_rfl
@[simp] theorem akO:bodied X 60 = true:=by kernel_rfl
@[simp] theorem Zf:aI X 60 = [22,3,3]:=by kernel_rfl
@[simp] theorem anx:fF X 61 = 65:=by kernel_rfl
@[simp] theorem akP:bodied X 61 = true:=by kernel_rfl
@[simp] theorem Zg:aI X 61 = [75]:=by kernel_rfl
@[simp] theorem anz:fF X 62 = 39:=by kernel_rfl
@[simp] theorem akQ:bodied X 62 = true:=by kernel_rfl
@[simp] theorem akR:aI X 62 = []:=by kernel_rfl
@[simp] theorem anA:fF X 63 = 68:=by kernel_rfl
@[simp] theorem akS:bodied X 63 = true:=by kernel_rfl
@[simp] theorem akT:aI X 63 = [36]:=by kernel_rfl
@[simp] theorem anB:fF X 64 = 36:=by kernel_rfl
@[simp] theorem akU:bodied X 64 = true:=by kernel_rfl
@[simp] theorem Zh:aI X 64 = [98,3,3]:=by kernel_rfl
@[simp] theorem anC:fF X 65 = 37:=by kernel_rfl
@[simp] theorem akV:bodied X 65 = true:=by kernel_rfl
@[simp] theorem Zi:aI X 65 = [98,3,3]:=by kernel_rfl
@[simp] theorem anD:fF X 66 = 23:=by kernel_rfl
@[simp] theorem akW:bodied X 66 = true:=by kernel_rfl
@[simp] theorem VF:aI X 66 = [3]:=by kernel_rfl
@[simp] theorem anE:fF X 67 = 23:=by kernel_rfl
@[simp] theorem akX:bodied X 67 = true:=by kernel_rfl
@[simp] theorem akY:aI X 67 = [3]:=by kernel_rfl
@[simp] theorem anF:fF X 68 = 21:=by kernel_rfl
@[simp] theorem akZ:bodied X 68 = true:=by kernel_rfl
@[simp] theorem Zj:aI X 68 = [3]:=by kernel_rfl
@[simp] theorem anG:fF X 69 = 20:=by kernel_rfl
@[simp] theorem ak0:bodied X 69 = true:=by kernel_rfl
@[simp] theorem ak1:aI X 69 = [3]:=by kernel_rfl
@[simp] theorem anH:fF X 70 = 38:=by kernel_rfl
@[simp] theorem ak2:bodied X 70 = true:=by kernel_rfl
@[simp] theorem Zk:aI X 70 = [22,3,3]:=by kernel_rfl
@[simp] theorem anI:fF X 72 = 32:=by kernel_rfl
@[simp] theorem ak3:bodied X 72 = true:=by kernel_rfl
@[simp] theorem YM:aI X 72 = [91]:=by kernel_rfl
@[simp] theorem anJ:fF X 73 = 31:=by kernel_rfl
@[simp] theorem ak4:bodied X 73 = true:=by kernel_rfl
@[simp] theorem ak5:aI X 73 = [36]:=by kernel_rfl
@[simp] theorem anK:fF X 74 = 31:=by kernel_rfl
@[simp] theorem ak6:bodied X 74 = true:=by kernel_rfl
@[simp] theorem ak7:aI X 74 = [36]:=by kernel_rfl
@[simp] theorem anL:fF X 75 = 22:=by kernel_rfl
@[simp] theorem ak8:bodied X 75 = true:=by kernel_rfl
@[simp] theorem ak9:aI X 75 = [112]:=by kernel_rfl
@[simp] theorem anM:fF X 76 = 48:=by kernel_rfl
@[simp] theorem ala:bodied X 76 = true:=by kernel_rfl
@[simp] theorem Zl:aI X 76 = [86,3]:=by kernel_rfl
@[simp] theorem anN:fF X 77 = 32:=by kernel_rfl
@[simp] theorem alb:bodied X 77 = true:=by kernel_rfl
@[simp] theorem Zm:aI X 77 = [91]:=by kernel_rfl
@[simp] theorem anO:fF X 78 = 45:=by kernel_rfl
@[simp] theorem alc:bodied X 78 = true:=by kernel_rfl
@[simp] theorem Zn:aI X 78 = [36]:=by kernel_rfl
@[simp] theorem anP:fF X 79 = 30:=by kernel_rfl
@[simp] theorem ald:bodied X 79 = true:=by kernel_rfl
@[simp] theorem VG:aI X 79 = [22,3,3]:=by kernel_rfl
@[simp] theorem Qx:X.keep 59 1 = some [0,2,4]:=by kernel_rfl
@[simp] theorem abH:X.dy 42 14 = false:=by kernel_rfl
@[simp] theorem abI:X.dy 42 16 = false:=by kernel_rfl
@[simp] theorem abJ:X.dy 42 19 = false:=by kernel_rfl
@[simp] theorem abK:X.dy 42 22 = false:=by kernel_rfl
@[simp] theorem ags:X.dy 43 8 = false:=by kernel_rfl
@[simp] theorem abL:X.dy 43 12 = false:=by kernel_rfl
@[simp] theorem abM:X.dy 43 14 = false:=by kernel_rfl
@[simp] theorem abN:X.dy 44 10 = false:=by kernel_rfl
@[simp] theorem abO:X.dy 45 15 = false:=by kernel_rfl
@[simp] theorem abP:X.dy 45 18 = false:=by kernel_rfl
@[simp] theorem abQ:X.dy 45 22 = false:=by kernel_rfl
@[simp] theorem abR:X.dy 45 24 = false:=by kernel_rfl
@[simp] theorem abS:X.dy 57 12 = false:=by kernel_rfl
@[simp] theorem abT:X.dy 58 10 = false:=by kernel_rfl
@[simp] theorem agt:X.dy 59 1 = true:=by kernel_rfl
@[simp] theorem agu:X.dy 60 2 = false:=by kernel_rfl
@[simp] theorem agv:X.dy 62 1 = true:=by kernel_rfl
@[simp] theorem agw:X.dy 64 3 = false:=by kernel_rfl
@[simp] theorem agx:X.dy 65 3 = false:=by kernel_rfl
@[simp] theorem agy:X.dy 70 2 = false:=by kernel_rfl
@[simp] theorem agz:X.dy 75 6 = false:=by kernel_rfl
@[simp] theorem agA:X.dy 76 2 = false:=by kernel_rfl
@[simp] theorem ale:sizeT X 0 = 1:=by kernel_rfl
@[simp] theorem agB:bf X 0 = 0:=by kernel_rfl
@[simp] theorem anQ:okT X 0 = true:=by kernel_rfl
@[simp] theorem isAgg0:aX X 0 = false:=by kernel_rfl
@[simp] theorem agC:bF X 0 = false:=by kernel_rfl
@[simp] theorem agD:bK X 0 = false:=by kernel_rfl
@[simp] theorem alf:fD X 0 = false:=by kernel_rfl
@[simp] theorem anR:bC X 0 = true:=by kernel_rfl
@[simp] theorem anS:und X 3 = .int .i64:=by kernel_rfl
@[simp] theorem size3:sizeT X 3 = 1:=by kernel_rfl
@[simp] theorem bytes3:bf X 3 = 8:=by kernel_rfl
@[simp] theorem anT:okT X 3 = true:=by kernel_rfl
@[simp] theorem isAgg3:aX X 3 = false:=by kernel_rfl
@[simp] theorem agE:bF X 3 = true:=by kernel_rfl
@[simp] theorem agF:bK X 3 = false:=by kernel_rfl
@[simp] theorem alg:fD X 3 = false:=by kernel_rfl
@[simp] theorem Uk:bC X 3 = true:=by kernel_rfl
@[simp] theorem zero3:bg X 3 = .int .i64 0:=by kernel_rfl
@[simp] theorem anU:und X 4 = .bool:=by kernel_rfl
@[simp] theorem alh:sizeT X 4 = 1:=by kernel_rfl
@[simp] theorem bytes4:bf X 4 = 1:=by kernel_rfl
@[simp] theorem anV:okT X 4 = true:=by kernel_rfl
@[simp] theorem isAgg4:aX X 4 = false:=by kernel_rfl
@[simp] theorem agG:bF X 4 = false:=by kernel_rfl
@[simp] theorem agH:bK X 4 = false:=by kernel_rfl
@[simp] theorem ali:fD X 4 = false:=by kernel_rfl
@[simp] theorem anW:bC X 4 = true:=by kernel_rfl
@[simp] theorem alj:bg X 4 = .bool false:=by kernel_rfl
@[simp] theorem rV:und X 5 = .int .u8:=by kernel_rfl
@[simp] theorem kL:sizeT X 5 = 1:=by kernel_rfl
@[simp] theorem bytes5:bf X 5 = 1:=by kernel_rfl
@[simp] theorem anX:okT X 5 = true:=by kernel_rfl
@[simp] theorem isAgg5:aX X 5 = false:=by kernel_rfl
@[simp] theorem agI:bF X 5 = true:=by kernel_rfl
@[simp] theorem agJ:bK X 5 = false:=by kernel_rfl
@[simp] theorem alk:fD X 5 = true:=by kernel_rfl
@[simp] theorem qC:bC X 5 = true:=by kernel_rfl
@[simp] theorem alm:bg X 5 = .int .u8 0:=by kernel_rfl
@[simp] theorem anY:und X 9 = .string:=by kernel_rfl
@[simp] theorem aln:sizeT X 9 = 1:=by kernel_rfl
@[simp] theorem bytes9:bf X 9 = 16:=by kernel_rfl
@[simp] theorem anZ:okT X 9 = true:=by kernel_rfl
@[simp] theorem isAgg9:aX X 9 = false:=by kernel_rfl
@[simp] theorem agK:bF X 9 = false:=by kernel_rfl
@[simp] theorem agL:bK X 9 = false:=by kernel_rfl
@[simp] theorem alo:fD X 9 = false:=by kernel_rfl
@[simp] theorem an0:bC X 9 = true:=by kernel_rfl
@[simp] theorem zero9:bg X 9 = .str []:=by kernel_rfl
@[simp] theorem kK:und X 22 = .slice 5:=by kernel_rfl
@[simp] theorem agM:sizeT X 22 = 1:=by kernel_rfl
@[simp] theorem abU:bf X 22 = 24:=by kernel_rfl
@[simp] theorem alp:okT X 22 = true:=by kernel_rfl
@[simp] theorem abV:aX X 22 = false:=by kernel_rfl
@[simp] theorem abW:bF X 22 = false:=by kernel_rfl
@[simp] theorem abX:bK X 22 = false:=by kernel_rfl
@[simp] theorem agN:fD X 22 = false:=by kernel_rfl
@[simp] theorem alq:bC X 22 = true:=by kernel_rfl
@[simp] theorem zero22:bg X 22 = .ro 0 .pn 0:=by kernel_rfl
@[simp] theorem alr:und X 25 = .int .i64:=by kernel_rfl
@[simp] theorem size25:sizeT X 25 = 1:=by kernel_rfl
@[simp] theorem bytes25:bf X 25 = 8:=by kernel_rfl
@[simp] theorem als:okT X 25 = true:=by kernel_rfl
@[simp] theorem isAgg25:aX X 25 = false:=by kernel_rfl
@[simp] theorem abY:bF X 25 = true:=by kernel_rfl
@[simp] theorem abZ:bK X 25 = false:=by kernel_rfl
@[simp] theorem agO:fD X 25 = false:=by kernel_rfl
@[simp] theorem alu:bC X 25 = true:=by kernel_rfl
@[simp] theorem agP:bg X 25 = .int .i64 0:=by kernel_rfl
@[simp] theorem agQ:sizeT X 26 = 1:=by kernel_rfl
@[simp] theorem bytes26:bf X 26 = 0:=by kernel_rfl
@[simp] theorem alv:okT X 26 = true:=by kernel_rfl
@[simp] theorem ab1:aX X 26 = false:=by kernel_rfl
@[simp] theorem ab2:bF X 26 = false:=by kernel_rfl
@[simp] theorem ab3:bK X 26 = false:=by kernel_rfl
@[simp] theorem agR:fD X 26 = false:=by kernel_rfl
@[simp] theorem alx:bC X 26 = true:=by kernel_rfl
@[simp] theorem aly:und X 30 = .pointer 43:=by kernel_rfl
@[simp] theorem agS:sizeT X 30 = 1:=by kernel_rfl
@[simp] theorem bytes30:bf X 30 = 8:=by kernel_rfl
@[simp] theorem alz:okT X 30 = true:=by kernel_rfl
@[simp] theorem isAgg30:aX X 30 = false:=by kernel_rfl
@[simp] theorem ab4:bF X 30 = false:=by kernel_rfl
@[simp] theorem ab5:bK X 30 = false:=by kernel_rfl
@[simp] theorem agT:fD X 30 = false:=by kernel_rfl
@[simp] theorem alA:bC X 30 = true:=by kernel_rfl
@[simp] theorem zero30:bg X 30 = .gy:=by kernel_rfl
@[simp] theorem agU:sizeT X 31 = 1:=by kernel_rfl
@[simp] theorem ab6:bf X 31 = 0:=by kernel_rfl
@[simp] theorem alB:okT X 31 = true:=by kernel_rfl
@[simp] theorem isAgg31:aX X 31 = false:=by kernel_rfl
@[simp] theorem ab7:bF X 31 = false:=by kernel_rfl
@[simp] theorem ab8:bK X 31 = false:=by kernel_rfl
@[simp] theorem agV:fD X 31 = false:=by kernel_rfl
@[simp] theorem alC:bC X 31 = true:=by kernel_rfl
@[simp] theorem agW:sizeT X 33 = 1:=by kernel_rfl
@[simp] theorem ab9:bf X 33 = 0:=by kernel_rfl
@[simp] theorem alD:okT X 33 = true:=by kernel_rfl
@[simp] theorem isAgg33:aX X 33 = false:=by kernel_rfl
@[simp] theorem acd:bF X 33 = false:=by kernel_rfl
@[simp] theorem ace:bK X 33 = false:=by kernel_rfl
@[simp] theorem agX:fD X 33 = false:=by kernel_rfl
@[simp] theorem alE:bC X 33 = true:=by kernel_rfl
@[simp] theorem Ny:und X 36 = .slice 3:=by kernel_rfl
@[simp] theorem agY:sizeT X 36 = 1:=by kernel_rfl
@[simp] theorem acf:bf X 36 = 24:=by kernel_rfl
@[simp] theorem alF:okT X 36 = true:=by kernel_rfl
@[simp] theorem isAgg36:aX X 36 = false:=by kernel_rfl
@[simp] theorem acg:bF X 36 = false:=by kernel_rfl
@[simp] theorem ach:bK X 36 = false:=by kernel_rfl
@[simp] theorem agZ:fD X 36 = false:=by kernel_rfl
@[simp] theorem alG:bC X 36 = true:=by kernel_rfl
@[simp] theorem ag0:bg X 36 = .ro 0 .pn 0:=by kernel_rfl
@[simp] theorem alH:und X 38 = .slice 22:=by kernel_rfl
@[simp] theorem ag1:sizeT X 38 = 1:=by kernel_rfl
@[simp] theorem aci:bf X 38 = 24:=by kernel_rfl
@[simp] theorem alI:okT X 38 = true:=by kernel_rfl
@[simp] theorem isAgg38:aX X 38 = false:=by kernel_rfl
@[simp] theorem acj:bF X 38 = false:=by kernel_rfl
@[simp] theorem acn:bK X 38 = false:=by kernel_rfl
@[simp] theorem ag2:fD X 38 = false:=by kernel_rfl
@[simp] theorem alJ:bC X 38 = true:=by kernel_rfl
@[simp] theorem ag3:bg X 38 = .ro 0 .pn 0:=by kernel_rfl
@[simp] theorem ag4:sizeT X 43 = 4:=by kernel_rfl
@[simp] theorem aco:bf X 43 = 48:=by kernel_rfl
@[simp] theorem alK:okT X 43 = true:=by kernel_rfl
@[simp] theorem isAgg43:aX X 43 = true:=by kernel_rfl
@[simp] theorem acp:bF X 43 = false:=by kernel_rfl
@[simp] theorem acr:bK X 43 = false:=by kernel_rfl
@[simp] theorem ag5:fD X 43 = false:=by kernel_rfl
@[simp] theorem alL:bC X 43 = true:=by kernel_rfl
@[simp] theorem ag6:bg X 43 = .agg (.pc [.int .i64 0,.int .u8 0,.ro 0 .pn 0,.int .i64 0]):=by kernel_rfl
@[simp] theorem alM:und X 44 = .slice 30:=by kernel_rfl
@[simp] theorem ag7:sizeT X 44 = 1:=by kernel_rfl
@[simp] theorem acs:bf X 44 = 24:=by kernel_rfl
@[simp] theorem alN:okT X 44 = true:=by kernel_rfl
@[simp] theorem isAgg44:aX X 44 = false:=by kernel_rfl
@[simp] theorem acu:bF X 44 = false:=by kernel_rfl
@[simp] theorem acv:bK X 44 = false:=by kernel_rfl
@[simp] theorem ag8:fD X 44 = false:=by kernel_rfl
@[simp] theorem alO:bC X 44 = true:=by kernel_rfl
@[simp] theorem ag9:bg X 44 = .ro 0 .pn 0:=by kernel_rfl
@[simp] theorem alP:und X 48 = .pointer 65:=by kernel_rfl
@[simp] theorem aha:sizeT X 48 = 1:=by kernel_rfl
@[simp] theorem acw:bf X 48 = 8:=by kernel_rfl
@[simp] theorem alQ:okT X 48 = true:=by kernel_rfl
@[simp] theorem isAgg48:aX X 48 = false:=by kernel_rfl
@[simp] theorem acy:bF X 48 = false:=by kernel_rfl
@[simp] theorem acz:bK X 48 = false:=by kernel_rfl
@[simp] theorem ahb:fD X 48 = false:=by kernel_rfl
@[simp] theorem alR:bC X 48 = true:=by kernel_rfl
@[simp] theorem ahc:bg X 48 = .gy:=by kernel_rfl
@[simp] theorem ahd:sizeT X 49 = 1:=by kernel_rfl
@[simp] theorem acA:bf X 49 = 0:=by kernel_rfl
@[simp] theorem alS:okT X 49 = true:=by kernel_rfl
@[simp] theorem acB:aX X 49 = false:=by kernel_rfl
@[simp] theorem acC:bF X 49 = false:=by kernel_rfl
@[simp] theorem acD:bK X 49 = false:=by kernel_rfl
@[simp] theorem ahe:fD X 49 = false:=by kernel_rfl
@[simp] theorem alT:bC X 49 = true:=by kernel_rfl
@[simp] theorem alU:und X 51 = .slice 55:=by kernel_rfl
@[simp] theorem ahf:sizeT X 51 = 1:=by kernel_rfl
@[simp] theorem acE:bf X 51 = 24:=by kernel_rfl
@[simp] theorem alV:okT X 51 = true:=by kernel_rfl
@[simp] theorem isAgg51:aX X 51 = false:=by kernel_rfl
@[simp] theorem acF:bF X 51 = false:=by kernel_rfl
@[simp] theorem acG:bK X 51 = false:=by kernel_rfl
@[simp] theorem ahg:fD X 51 = false:=by kernel_rfl
@[simp] theorem alW:bC X 51 = true:=by kernel_rfl
@[simp] theorem ahh:bg X 51 = .ro 0 .pn 0:=by kernel_rfl
@[simp] theorem ahi:sizeT X 52 = 1:=by kernel_rfl
@[simp] theorem acH:bf X 52 = 0:=by kernel_rfl
@[simp] theorem alX:okT X 52 = true:=by kernel_rfl
@[simp] theorem isAgg52:aX X 52 = false:=by kernel_rfl
@[simp] theorem acI:bF X 52 = false:=by kernel_rfl
@[simp] theorem acJ:bK X 52 = false:=by kernel_rfl
@[simp] theorem ahj:fD X 52 = false:=by kernel_rfl
@[simp] theorem alY:bC X 52 = true:=by kernel_rfl
@[simp] theorem ahk:sizeT X 55 = 3:=by kernel_rfl
@[simp] theorem acK:bf X 55 = 32:=by kernel_rfl
@[simp] theorem alZ:okT X 55 = true:=by kernel_rfl
@[simp] theorem isAgg55:aX X 55 = true:=by kernel_rfl
@[simp] theorem acL:bF X 55 = false:=by kernel_rfl
@[simp] theorem acM:bK X 55 = false:=by kernel_rfl
@[simp] theorem ahl:fD X 55 = false:=by kernel_rfl
@[simp] theorem al0:bC X 55 = true:=by kernel_rfl
@[simp] theorem ahm:bg X 55 = .agg (.pc [.int .u8 0,.int .u8 0,.ro 0 .pn 0]):=by kernel_rfl
@[simp] theorem al1:und X 58 = .int .u64:=by kernel_rfl
@[simp] theorem ahn:sizeT X 58 = 1:=by kernel_rfl
@[simp] theorem acN:bf X 58 = 8:=by kernel_rfl
@[simp] theorem al2:okT X 58 = true:=by kernel_rfl
@[simp] theorem isAgg58:aX X 58 = false:=by kernel_rfl
@[simp] theorem acO:bF X 58 = true:=by kernel_rfl
@[simp] theorem acP:bK X 58 = false:=by kernel_rfl
@[simp] theorem aho:fD X 58 = false:=by kernel_rfl
@[simp] theorem al3:bC X 58 = true:=by kernel_rfl
@[simp] theorem ahp:bg X 58 = .int .u64 0:=by kernel_rfl
@[simp] theorem al4:und X 59 = .int .u64:=by kernel_rfl
@[simp] theorem ahq:sizeT X 59 = 1:=by kernel_rfl
@[simp] theorem acQ:bf X 59 = 8:=by kernel_rfl
@[simp] theorem al5:okT X 59 = true:=by kernel_rfl
@[simp] theorem acR:aX X 59 = false:=by kernel_rfl
@[simp] theorem acS:bF X 59 = true:=by kernel_rfl
@[simp] theorem acT:bK X 59 = false:=by kernel_rfl
@[simp] theorem ahr:fD X 59 = false:=by kernel_rfl
@[simp] theorem al6:bC X 59 = true:=by kernel_rfl
@[simp] theorem ahs:bg X 59 = .int .u64 0:=by kernel_rfl
@[simp] theorem aht:sizeT X 60 = 1:=by kernel_rfl
@[simp] theorem acU:bf X 60 = 0:=by kernel_rfl
@[simp] theorem al7:okT X 60 = true:=by kernel_rfl
@[simp] theorem acV:aX X 60 = false:=by kernel_rfl
@[simp] theorem acW:bF X 60 = false:=by kernel_rfl
@[simp] theorem acX:bK X 60 = false:=by kernel_rfl
@[simp] theorem ahu:fD X 60 = false:=by kernel_rfl
@[simp] theorem al8:bC X 60 = true:=by kernel_rfl
@[simp] theorem ahv:sizeT X 65 = 8:=by kernel_rfl
@[simp] theorem acY:bf X 65 = 88:=by kernel_rfl
@[simp] theorem al9:okT X 65 = true:=by kernel_rfl
@[simp] theorem acZ:aX X 65 = true:=by kernel_rfl
@[simp] theorem ac0:bF X 65 = false:=by kernel_rfl
@[simp] theorem ac1:bK X 65 = false:=by kernel_rfl
@[simp] theorem ahw:fD X 65 = false:=by kernel_rfl
@[simp] theorem ama:bC X 65 = true:=by kernel_rfl
@[simp] theorem ahx:bg X 65 = .agg (.pc [.int .i64 0,.int .i64 0,.int .u8 0,.ro 0 .pn 0,.ro 0 .pn 0,.int .u8 0,.bool false,.int .i64 0]):=by kernel_rfl
@[simp] theorem ahy:sizeT X 66 = 1:=by kernel_rfl
@[simp] theorem ac2:bf X 66 = 0:=by kernel_rfl
@[simp] theorem amb:okT X 66 = true:=by kernel_rfl
@[simp] theorem ac3:aX X 66 = false:=by kernel_rfl
@[simp] theorem ac4:bF X 66 = false:=by kernel_rfl
@[simp] theorem ac5:bK X 66 = false:=by kernel_rfl
@[simp] theorem ahz:fD X 66 = false:=by kernel_rfl
@[simp] theorem amc:bC X 66 = true:=by kernel_rfl
@[simp] theorem amd:und X 68 = .int .u32:=by kernel_rfl
@[simp] theorem ahA:sizeT X 68 = 1:=by kernel_rfl
@[simp] theorem ac6:bf X 68 = 4:=by kernel_rfl
@[simp] theorem ame:okT X 68 = true:=by kernel_rfl
@[simp] theorem ac7:aX X 68 = false:=by kernel_rfl
@[simp] theorem ac8:bF X 68 = true:=by kernel_rfl
@[simp] theorem ac9:bK X 68 = false:=by kernel_rfl
@[simp] theorem ahB:fD X 68 = false:=by kernel_rfl
@[simp] theorem amf:bC X 68 = true:=by kernel_rfl
@[simp] theorem ahC:bg X 68 = .int .u32 0:=by kernel_rfl
@[simp] theorem ahD:sizeT X 70 = 1:=by kernel_rfl
@[simp] theorem ada:bf X 70 = 0:=by kernel_rfl
@[simp] theorem amg:okT X 70 = true:=by kernel_rfl
@[simp] theorem adb:aX X 70 = false:=by kernel_rfl
@[simp] theorem ade:bF X 70 = false:=by kernel_rfl
@[simp] theorem adf:bK X 70 = false:=by kernel_rfl
@[simp] theorem ahE:fD X 70 = false:=by kernel_rfl
@[simp] theorem amh:bC X 70 = true:=by kernel_rfl
@[simp] theorem ami:und X 75 = .slice 91:=by kernel_rfl
@[simp] theorem ahF:sizeT X 75 = 1:=by kernel_rfl
@[simp] theorem adg:bf X 75 = 24:=by kernel_rfl
@[simp] theorem amj:okT X 75 = true:=by kernel_rfl
@[simp] theorem adh:aX X 75 = false:=by kernel_rfl
@[simp] theorem adi:bF X 75 = false:=by kernel_rfl
@[simp] theorem adk:bK X 75 = false:=by kernel_rfl
@[simp] theorem ahG:fD X 75 = false:=by kernel_rfl
@[simp] theorem amk:bC X 75 = true:=by kernel_rfl
@[simp] theorem ahH:bg X 75 = .ro 0 .pn 0:=by kernel_rfl
@[simp] theorem ahI:sizeT X 78 = 1:=by kernel_rfl
@[simp] theorem adn:bf X 78 = 0:=by kernel_rfl
@[simp] theorem aml:okT X 78 = true:=by kernel_rfl
@[simp] theorem ado:aX X 78 = false:=by kernel_rfl
@[simp] theorem adp:bF X 78 = false:=by kernel_rfl
@[simp] theorem adq:bK X 78 = false:=by kernel_rfl
@[simp] theorem ahJ:fD X 78 = false:=by kernel_rfl
@[simp] theorem amm:bC X 78 = true:=by kernel_rfl
@[simp] theorem ahK:sizeT X 80 = 1:=by kernel_rfl
@[simp] theorem adr:bf X 80 = 0:=by kernel_rfl
@[simp] theorem amn:okT X 80 = true:=by kernel_rfl
@[simp] theorem ads:aX X 80 = false:=by kernel_rfl
@[simp] theorem adt:bF X 80 = false:=by kernel_rfl
@[simp] theorem adu:bK X 80 = false:=by kernel_rfl
@[simp] theorem ahL:fD X 80 = false:=by kernel_rfl
@[simp] theorem amo:bC X 80 = true:=by kernel_rfl
@[simp] theorem ahM:sizeT X 82 = 1:=by kernel_rfl
@[simp] theorem adv:bf X 82 = 0:=by kernel_rfl
@[simp] theorem amq:okT X 82 = true:=by kernel_rfl
@[simp] theorem adw:aX X 82 = false:=by kernel_rfl
@[simp] theorem adx:bF X 82 = false:=by kernel_rfl
@[simp] theorem ady:bK X 82 = false:=by kernel_rfl
@[simp] theorem ahN:fD X 82 = false:=by kernel_rfl
@[simp] theorem amr:bC X 82 = true:=by kernel_rfl
@[simp] theorem ahO:sizeT X 84 = 1:=by kernel_rfl
@[simp] theorem adz:bf X 84 = 0:=by kernel_rfl
@[simp] theorem ams:okT X 84 = true:=by kernel_rfl
@[simp] theorem adA:aX X 84 = false:=by kernel_rfl
@[simp] theorem adB:bF X 84 = false:=by kernel_rfl
@[simp] theorem adC:bK X 84 = false:=by kernel_rfl
@[simp] theorem ahP:fD X 84 = false:=by kernel_rfl
@[simp] theorem amu:bC X 84 = true:=by kernel_rfl
@[simp] theorem amv:und X 86 = .pointer 88:=by kernel_rfl
@[simp] theorem ahQ:sizeT X 86 = 1:=by kernel_rfl
@[simp] theorem adD:bf X 86 = 8:=by kernel_rfl
@[simp] theorem amw:okT X 86 = true:=by kernel_rfl
@[simp] theorem adE:aX X 86 = false:=by kernel_rfl
@[simp] theorem adF:bF X 86 = false:=by kernel_rfl
@[simp] theorem adG:bK X 86 = false:=by kernel_rfl
@[simp] theorem ahR:fD X 86 = false:=by kernel_rfl
@[simp] theorem amx:bC X 86 = true:=by kernel_rfl
@[simp] theorem ahS:bg X 86 = .gy:=by kernel_rfl
@[simp] theorem ahT:sizeT X 88 = 2:=by kernel_rfl
@[simp] theorem adH:bf X 88 = 32:=by kernel_rfl
@[simp] theorem amy:okT X 88 = true:=by kernel_rfl
@[simp] theorem adI:aX X 88 = true:=by kernel_rfl
@[simp] theorem adJ:bF X 88 = false:=by kernel_rfl
@[simp] theorem adK:bK X 88 = false:=by kernel_rfl
@[simp] theorem ahU:fD X 88 = false:=by kernel_rfl
@[simp] theorem amA:bC X 88 = true:=by kernel_rfl
@[simp] theorem ahV:bg X 88 = .agg (.pc [.ro 0 .pn 0,.int .i64 0]):=by kernel_rfl
@[simp] theorem ahW:sizeT X 89 = 1:=by kernel_rfl
@[simp] theorem adL:bf X 89 = 8:=by kernel_rfl
@[simp] theorem amB:okT X 89 = true:=by kernel_rfl
@[simp] theorem adM:aX X 89 = false:=by kernel_rfl
@[simp] theorem adN:bF X 89 = false:=by kernel_rfl
@[simp] theorem adO:bK X 89 = false:=by kernel_rfl
@[simp] theorem ahX:fD X 89 = false:=by kernel_rfl
@[simp] theorem amC:bC X 89 = true:=by kernel_rfl
@[simp] theorem ahY:bg X 89 = .jA:=by kernel_rfl
@[simp] theorem ahZ:sizeT X 91 = 3:=by kernel_rfl
@[simp] theorem adP:bf X 91 = 24:=by kernel_rfl
@[simp] theorem amD:okT X 91 = true:=by kernel_rfl
@[simp] theorem adQ:aX X 91 = true:=by kernel_rfl
@[simp] theorem adR:bF X 91 = false:=by kernel_rfl
@[simp] theorem adS:bK X 91 = false:=by kernel_rfl
@[simp] theorem ah0:fD X 91 = false:=by kernel_rfl
@[simp] theorem amE:bC X 91 = true:=by kernel_rfl
@[simp] theorem ah1:bg X 91 = .agg (.pc [.int .i64 0,.int .i64 0,.int .u8 0]):=by kernel_rfl
@[simp] theorem ah2:sizeT X 92 = 1:=by kernel_rfl
@[simp] theorem adT:bf X 92 = 0:=by kernel_rfl
@[simp] theorem amF:okT X 92 = true:=by kernel_rfl
@[simp] theorem adU:aX X 92 = false:=by kernel_rfl
@[simp] theorem adV:bF X 92 = false:=by kernel_rfl
@[simp] theorem adW:bK X 92 = false:=by kernel_rfl
@[simp] theorem ah3:fD X 92 = false:=by kernel_rfl
@[simp] theorem amG:bC X 92 = true:=by kernel_rfl
@[simp] theorem amH:und X 94 = .map 95 36:=by kernel_rfl
@[simp] theorem ah4:sizeT X 94 = 1:=by kernel_rfl
@[simp] theorem adX:bf X 94 = 8:=by kernel_rfl
@[simp] theorem amI:okT X 94 = true:=by kernel_rfl
@[simp] theorem adY:aX X 94 = false:=by kernel_rfl
@[simp] theorem adZ:bF X 94 = false:=by kernel_rfl
@[simp] theorem ad1:bK X 94 = false:=by kernel_rfl
@[simp] theorem ah5:fD X 94 = false:=by kernel_rfl
@[simp] theorem amJ:bC X 94 = true:=by kernel_rfl
@[simp] theorem ah6:bg X 94 = .gY:=by kernel_rfl
@[simp] theorem amK:und X 95 = .array 3 5:=by kernel_rfl
@[simp] theorem ah7:sizeT X 95 = 3:=by kernel_rfl
@[simp] theorem ad2:bf X 95 = 3:=by kernel_rfl
@[simp] theorem amL:okT X 95 = true:=by kernel_rfl
@[simp] theorem ad3:aX X 95 = true:=by kernel_rfl
@[simp] theorem ad4:bF X 95 = false:=by kernel_rfl
@[simp] theorem ad5:bK X 95 = true:=by kernel_rfl
@[simp] theorem ah8:fD X 95 = false:=by kernel_rfl
@[simp] theorem amM:bC X 95 = true:=by kernel_rfl
@[simp] theorem ah9:bg X 95 = .agg (.pb [0,0,0]):=by kernel_rfl
@[simp] theorem aia:sizeT X 96 = 1:=by kernel_rfl
@[simp] theorem ad6:bf X 96 = 8:=by kernel_rfl
@[simp] theorem amN:okT X 96 = true:=by kernel_rfl
@[simp] theorem ad7:aX X 96 = false:=by kernel_rfl
@[simp] theorem ad8:bF X 96 = false:=by kernel_rfl
@[simp] theorem ad9:bK X 96 = false:=by kernel_rfl
@[simp] theorem aib:fD X 96 = false:=by kernel_rfl
@[simp] theorem amO:bC X 96 = true:=by kernel_rfl
@[simp] theorem aic:bg X 96 = .jA:=by kernel_rfl
@[simp] theorem amP:und X 98 = .pointer 100:=by kernel_rfl
@[simp] theorem aie:sizeT X 98 = 1:=by kernel_rfl
@[simp] theorem aea:bf X 98 = 8:=by kernel_rfl
@[simp] theorem amQ:okT X 98 = true:=by kernel_rfl
@[simp] theorem aeb:aX X 98 = false:=by kernel_rfl
@[simp] theorem aec:bF X 98 = false:=by kernel_rfl
@[simp] theorem aed:bK X 98 = false:=by kernel_rfl
@[simp] theorem aif:fD X 98 = false:=by kernel_rfl
@[simp] theorem amR:bC X 98 = true:=by kernel_rfl
@[simp] theorem aii:bg X 98 = .gy:=by kernel_rfl
@[simp] theorem aee:sizeT X 100 = 2:=by kernel_rfl
@[simp] theorem Zo:bf X 100 = 32:=by kernel_rfl
@[simp] theorem aij:okT X 100 = true:=by kernel_rfl
@[simp] theorem Zp:aX X 100 = true:=by kernel_rfl
@[simp] theorem Zq:bF X 100 = false:=by kernel_rfl
@[simp] theorem Zr:bK X 100 = false:=by kernel_rfl
@[simp] theorem aef:fD X 100 = false:=by kernel_rfl
@[simp] theorem aik:bC X 100 = true:=by kernel_rfl
@[simp] theorem aeg:bg X 100 = .agg (.pc [.ro 0 .pn 0,.int .i64 0]):=by kernel_rfl
@[simp] theorem aeh:sizeT X 102 = 1:=by kernel_rfl
@[simp] theorem Zt:bf X 102 = 0:=by kernel_rfl
@[simp] theorem ail:okT X 102 = true:=by kernel_rfl
@[simp] theorem Zu:aX X 102 = false:=by kernel_rfl
@[simp] theorem Zv:bF X 102 = false:=by kernel_rfl
@[simp] theorem Zw:bK X 102 = false:=by kernel_rfl
@[simp] theorem aei:fD X 102 = false:=by kernel_rfl
@[simp] theorem ain:bC X 102 = true:=by kernel_rfl
@[simp] theorem aio:und X 104 = .pointer 106:=by kernel_rfl
@[simp] theorem aej:sizeT X 104 = 1:=by kernel_rfl
@[simp] theorem Zx:bf X 104 = 8:=by kernel_rfl
@[simp] theorem aip:okT X 104 = true:=by kernel_rfl
@[simp] theorem Zy:aX X 104 = false:=by kernel_rfl
@[simp] theorem Zz:bF X 104 = false:=by kernel_rfl
@[simp] theorem ZA:bK X 104 = false:=by kernel_rfl
@[simp] theorem aek:fD X 104 = false:=by kernel_rfl
@[simp] theorem aiq:bC X 104 = true:=by kernel_rfl
@[simp] theorem ael:bg X 104 = .gy:=by kernel_rfl
@[simp] theorem aem:sizeT X 106 = 5:=by kernel_rfl
@[simp] theorem ZB:bf X 106 = 72:=by kernel_rfl
@[simp] theorem air:okT X 106 = true:=by kernel_rfl
@[simp] theorem ZC:aX X 106 = true:=by kernel_rfl
@[simp] theorem ZE:bF X 106 = false:=by kernel_rfl
@[simp] theorem ZF:bK X 106 = false:=by kernel_rfl
@[simp] theorem aen:fD X 106 = false:=by kernel_rfl
@[simp] theorem ais:bC X 106 = true:=by kernel_rfl
@[simp] theorem aeo:bg X 106 = .agg (.pc [.ro 0 .pn 0,.int .i64 0,.ro 0 .pn 0,.int .i64 0,.int .i64 0]):=by kernel_rfl
@[simp] theorem WW:und X 107 = .slice 119:=by kernel_rfl
@[simp] theorem aep:sizeT X 107 = 1:=by kernel_rfl
@[simp] theorem ZG:bf X 107 = 24:=by kernel_rfl
@[simp] theorem ait:okT X 107 = true:=by kernel_rfl
@[simp] theorem ZH:aX X 107 = false:=by kernel_rfl
@[simp] theorem ZI:bF X 107 = false:=by kernel_rfl
@[simp] theorem ZJ:bK X 107 = false:=by kernel_rfl
@[simp] theorem aer:fD X 107 = false:=by kernel_rfl
@[simp] theorem aiu:bC X 107 = true:=by kernel_rfl
@[simp] theorem aes:bg X 107 = .ro 0 .pn 0:=by kernel_rfl
@[simp] theorem aeu:sizeT X 110 = 1:=by kernel_rfl
@[simp] theorem ZL:bf X 110 = 0:=by kernel_rfl
@[simp] theorem aiv:okT X 110 = true:=by kernel_rfl
@[simp] theorem ZM:aX X 110 = false:=by kernel_rfl
@[simp] theorem ZN:bF X 110 = false:=by kernel_rfl
@[simp] theorem ZO:bK X 110 = false:=by kernel_rfl
@[simp] theorem aev:fD X 110 = false:=by kernel_rfl
@[simp] theorem aiw:bC X 110 = true:=by kernel_rfl
@[simp] theorem aix:und X 112 = .array 16 3:=by kernel_rfl
@[simp] theorem aew:sizeT X 112 = 16:=by kernel_rfl
@[simp] theorem ZP:bf X 112 = 128:=by kernel_rfl
@[simp] theorem aiy:okT X 112 = true:=by kernel_rfl
@[simp] theorem ZQ:aX X 112 = true:=by kernel_rfl
@[simp] theorem ZR:bF X 112 = false:=by kernel_rfl
@[simp] theorem ZT:bK X 112 = true:=by kernel_rfl
@[simp] theorem aex:fD X 112 = false:=by kernel_rfl
@[simp] theorem aiz:bC X 112 = true:=by kernel_rfl
@[simp] theorem aey:bg X 112 = .agg (.pi .i64 [0,0,0,0,0,0,0,0,0,0,0,0,0,0,0,0]):=by kernel_rfl
@[simp] theorem aez:sizeT X 113 = 1:=by kernel_rfl
@[simp] theorem ZU:bf X 113 = 0:=by kernel_rfl
@[simp] theorem aiA:okT X 113 = true:=by kernel_rfl
@[simp] theorem ZV:aX X 113 = false:=by kernel_rfl
@[simp] theorem ZW:bF X 113 = false:=by kernel_rfl
@[simp] theorem ZX:bK X 113 = false:=by kernel_rfl
@[simp] theorem aeA:fD X 113 = false:=by kernel_rfl
@[simp] theorem aiB:bC X 113 = true:=by kernel_rfl
@[simp] theorem aiC:und X 115 = .array 17 3:=by kernel_rfl
@[simp] theorem aeB:sizeT X 115 = 17:=by kernel_rfl
@[simp] theorem ZY:bf X 115 = 136:=by kernel_rfl
@[simp] theorem aiD:okT X 115 = true:=by kernel_rfl
@[simp] theorem Z4:aX X 115 = true:=by kernel_rfl
@[simp] theorem Z5:bF X 115 = false:=by kernel_rfl
@[simp] theorem Z7:bK X 115 = true:=by kernel_rfl
@[simp] theorem aeC:fD X 115 = false:=by kernel_rfl
@[simp] theorem aiE:bC X 115 = true:=by kernel_rfl
@[simp] theorem aeD:bg X 115 = .agg (.pi .i64 [0,0,0,0,0,0,0,0,0,0,0,0,0,0,0,0,0]):=by kernel_rfl
@[simp] theorem Ul:sizeT X 119 = 4:=by kernel_rfl
@[simp] theorem Z8:bf X 119 = 32:=by kernel_rfl
@[simp] theorem aiF:okT X 119 = true:=by kernel_rfl
@[simp] theorem Z9:aX X 119 = true:=by kernel_rfl
@[simp] theorem aac:bF X 119 = false:=by kernel_rfl
@[simp] theorem aad:bK X 119 = false:=by kernel_rfl
@[simp] theorem aeE:fD X 119 = false:=by kernel_rfl
@[simp] theorem WX:bC X 119 = true:=by kernel_rfl
@[simp] theorem aeF:bg X 119 = .agg (.pc [.int .i64 0,.bool false,.int .i64 0,.int .i64 0]):=by kernel_rfl
@[simp] theorem aiG:und X 125 = .array 19 3:=by kernel_rfl
@[simp] theorem aeG:sizeT X 125 = 19:=by kernel_rfl
@[simp] theorem aae:bf X 125 = 152:=by kernel_rfl
@[simp] theorem aiH:okT X 125 = true:=by kernel_rfl
@[simp] theorem aaf:aX X 125 = true:=by kernel_rfl
@[simp] theorem aag:bF X 125 = false:=by kernel_rfl
@[simp] theorem aah:bK X 125 = true:=by kernel_rfl
@[simp] theorem aeH:fD X 125 = false:=by kernel_rfl
@[simp] theorem aiI:bC X 125 = true:=by kernel_rfl
@[simp] theorem aeI:bg X 125 = .agg (.pi .i64 [0,0,0,0,0,0,0,0,0,0,0,0,0,0,0,0,0,0,0]):=by kernel_rfl
@[simp] theorem aeJ:sizeT X 128 = 1:=by kernel_rfl
@[simp] theorem aai:bf X 128 = 0:=by kernel_rfl
@[simp] theorem aiJ:okT X 128 = true:=by kernel_rfl
@[simp] theorem aaj:aX X 128 = false:=by kernel_rfl
@[simp] theorem aak:bF X 128 = false:=by kernel_rfl
@[simp] theorem aal:bK X 128 = false:=by kernel_rfl
@[simp] theorem aeK:fD X 128 = false:=by kernel_rfl
@[simp] theorem aiK:bC X 128 = true:=by kernel_rfl
@[simp] theorem aiL:und X 130 = .array 2 3:=by kernel_rfl
@[simp] theorem aeL:sizeT X 130 = 2:=by kernel_rfl
@[simp] theorem aam:bf X 130 = 16:=by kernel_rfl
@[simp] theorem aiM:okT X 130 = true:=by kernel_rfl
@[simp] theorem aan:aX X 130 = true:=by kernel_rfl
@[simp] theorem aao:bF X 130 = false:=by kernel_rfl
@[simp] theorem aap:bK X 130 = true:=by kernel_rfl
@[simp] theorem aeM:fD X 130 = false:=by kernel_rfl
@[simp] theorem aiN:bC X 130 = true:=by kernel_rfl
@[simp] theorem aeN:bg X 130 = .agg (.pi .i64 [0,0]):=by kernel_rfl
@[simp] theorem aiO:und X 131 = .array 29 130:=by kernel_rfl
@[simp] theorem aeO:sizeT X 131 = 58:=by kernel_rfl
@[simp] theorem aaq:bf X 131 = 464:=by kernel_rfl
@[simp] theorem aiP:okT X 131 = true:=by kernel_rfl
@[simp] theorem aar:aX X 131 = true:=by kernel_rfl
@[simp] theorem aas:bF X 131 = false:=by kernel_rfl
@[simp] theorem aat:bK X 131 = true:=by kernel_rfl
@[simp] theorem aeP:fD X 131 = false:=by kernel_rfl
@[simp] theorem aiQ:bC X 131 = true:=by kernel_rfl
@[simp] theorem aeQ:bg X 131 = .agg (.pr 2 [.pc [.int .i64 0,.int .i64 0],.pc [.int .i64 0,.int .i64 0],.pc [.int .i64 0,.int .i64 0],.pc [.int .i64 0,.int .i64 0],.pc [.int .i64 0,.int .i64 0],.pc [.int .i64 0,.int .i64 0],.pc [.int .i64 0,.int .i64 0],.pc [.int .i64 0,.int .i64 0],.pc [.int .i64 0,.int .i64 0],.pc [.int .i64 0,.int .i64 0],.pc [.int .i64 0,.int .i64 0],.pc [.int .i64 0,.int .i64 0],.pc [.int .i64 0,.int .i64 0],.pc [.int .i64 0,.int .i64 0],.pc [.int .i64 0,.int .i64 0],.pc [.int .i64 0,.int .i64 0],.pc [.int .i64 0,.int .i64 0],.pc [.int .i64 0,.int .i64 0],.pc [.int .i64 0,.int .i64 0],.pc [.int .i64 0,.int .i64 0],.pc [.int .i64 0,.int .i64 0],.pc [.int .i64 0,.int .i64 0],.pc [.int .i64 0,.int .i64 0],.pc [.int .i64 0,.int .i64 0],.pc [.int .i64 0,.int .i64 0],.pc [.int .i64 0,.int .i64 0],.pc [.int .i64 0,.int .i64 0],.pc [.int .i64 0,.int .i64 0],.pc [.int .i64 0,.int .i64 0]]):=by kernel_rfl
@[simp] theorem aeR:sizeT X 132 = 1:=by kernel_rfl
@[simp] theorem aau:bf X 132 = 8:=by kernel_rfl
@[simp] theorem aiR:okT X 132 = true:=by kernel_rfl
@[simp] theorem aav:aX X 132 = false:=by kernel_rfl
@[simp] theorem aaw:bF X 132 = false:=by kernel_rfl
@[simp] theorem aax:bK X 132 = false:=by kernel_rfl
@[simp] theorem aeS:fD X 132 = false:=by kernel_rfl
@[simp] theorem aiS:bC X 132 = true:=by kernel_rfl
@[simp] theorem aeT:bg X 132 = .jA:=by kernel_rfl
@[simp] theorem aiT:und X 134 = .array 16 36:=by kernel_rfl
@[simp] theorem aeU:sizeT X 134 = 16:=by kernel_rfl
@[simp] theorem aay:bf X 134 = 384:=by kernel_rfl
@[simp] theorem aiU:okT X 134 = true:=by kernel_rfl
@[simp] theorem aaz:aX X 134 = true:=by kernel_rfl
@[simp] theorem aaA:bF X 134 = false:=by kernel_rfl
@[simp] theorem aaB:bK X 134 = true:=by kernel_rfl
@[simp] theorem aeV:fD X 134 = false:=by kernel_rfl
@[simp] theorem aiV:bC X 134 = true:=by kernel_rfl
@[simp] theorem aeW:bg X 134 = .agg (.pc [.ro 0 .pn 0,.ro 0 .pn 0,.ro 0 .pn 0,.ro 0 .pn 0,.ro 0 .pn 0,.ro 0 .pn 0,.ro 0 .pn 0,.ro 0 .pn 0,.ro 0 .pn 0,.ro 0 .pn 0,.ro 0 .pn 0,.ro 0 .pn 0,.ro 0 .pn 0,.ro 0 .pn 0,.ro 0 .pn 0,.ro 0 .pn 0]):=by kernel_rfl
@[simp] theorem aiW (H:AM.Heap) (x:AV):aW X H 43 x 0 = faV H x 0:=aY (ty:=3) (by kernel_rfl) (by kernel_rfl) H x
@[simp] theorem aiX (x:AV):eG X 43 x 0 = fvV X x 0 3:=dH (by kernel_rfl) x
@[simp] theorem aiY (H:AM.Heap) (x:AV):aW X H 43 x 1 = faV H x 1:=aY (ty:=5) (by kernel_rfl) (by kernel_rfl) H x
@[simp] theorem aiZ (x:AV):eG X 43 x 1 = fvV X x 1 5:=dH (by kernel_rfl) x
@[simp] theorem ai0 (H:AM.Heap) (x:AV):aW X H 43 x 2 = faV H x 2:=aY (ty:=22) (by kernel_rfl) (by kernel_rfl) H x
@[simp] theorem ai1 (x:AV):eG X 43 x 2 = fvV X x 2 22:=dH (by kernel_rfl) x
@[simp] theorem ai2 (H:AM.Heap) (x:AV):aW X H 43 x 3 = faV H x 3:=aY (ty:=25) (by kernel_rfl) (by kernel_rfl) H x
@[simp] theorem ai3 (x:AV):eG X 43 x 3 = fvV X x 3 25:=dH (by kernel_rfl) x
@[simp] theorem ai4 (H:AM.Heap) (x:AV):aW X H 55 x 2 = faV H x 2:=aY (ty:=22) (by kernel_rfl) (by kernel_rfl) H x
@[simp] theorem ai5 (x:AV):eG X 55 x 2 = fvV X x 2 22:=dH (by kernel_rfl) x
@[simp] theorem ai6 (H:AM.Heap) (x:AV):aW X H 65 x 0 = faV H x 0:=aY (ty:=3) (by kernel_rfl) (by kernel_rfl) H x
@[simp] theorem ai7 (x:AV):eG X 65 x 0 = fvV X x 0 3:=dH (by kernel_rfl) x
@[simp] theorem ai8 (H:AM.Heap) (x:AV):aW X H 65 x 1 = faV H x 1:=aY (ty:=3) (by kernel_rfl) (by kernel_rfl) H x
@[simp] theorem ai9 (x:AV):eG X 65 x 1 = fvV X x 1 3:=dH (by kernel_rfl) x
@[simp] theorem aja (H:AM.Heap) (x:AV):aW X H 65 x 2 = faV H x 2:=aY (ty:=5) (by kernel_rfl) (by kernel_rfl) H x
@[simp] theorem ajb (x:AV):eG X 65 x 2 = fvV X x 2 5:=dH (by kernel_rfl) x
@[simp] theorem ajc (H:AM.Heap) (x:AV):aW X H 65 x 3 = faV H x 3:=aY (ty:=22) (by kernel_rfl) (by kernel_rfl) H x
@[simp] theorem ajd (x:AV):eG X 65 x 3 = fvV X x 3 22:=dH (by kernel_rfl) x
@[simp] theorem aje (H:AM.Heap) (x:AV):aW X H 65 x 4 = faV H x 4:=aY (ty:=22) (by kernel_rfl) (by kernel_rfl) H x
@[simp] theorem ajf (x:AV):eG X 65 x 4 = fvV X x 4 22:=dH (by kernel_rfl) x
@[simp] theorem ajg (H:AM.Heap) (x:AV):aW X H 65 x 5 = faV H x 5:=aY (ty:=5) (by kernel_rfl) (by kernel_rfl) H x
@[simp] theorem ajh (x:AV):eG X 65 x 5 = fvV X x 5 5:=dH (by kernel_rfl) x
@[simp] theorem aji (H:AM.Heap) (x:AV):aW X H 65 x 6 = faV H x 6:=aY (ty:=4) (by kernel_rfl) (by kernel_rfl) H x
@[simp] theorem ajj (x:AV):eG X 65 x 6 = fvV X x 6 4:=dH (by kernel_rfl) x
@[simp] theorem ajk (H:AM.Heap) (x:AV):aW X H 65 x 7 = faV H x 7:=aY (ty:=25) (by kernel_rfl) (by kernel_rfl) H x
@[simp] theorem ajl (x:AV):eG X 65 x 7 = fvV X x 7 25:=dH (by kernel_rfl) x
@[simp] theorem ajm (H:AM.Heap) (x:AV):aW X H 88 x 0 = faV H x 0:=aY (ty:=22) (by kernel_rfl) (by kernel_rfl) H x
@[simp] theorem ajn (x:AV):eG X 88 x 0 = fvV X x 0 22:=dH (by kernel_rfl) x
@[simp] theorem ajo (H:AM.Heap) (x:AV):aW X H 88 x 1 = faV H x 1:=aY (ty:=3) (by kernel_rfl) (by kernel_rfl) H x
@[simp] theorem ajp (x:AV):eG X 88 x 1 = fvV X x 1 3:=dH (by kernel_rfl) x
@[simp] theorem ajq (H:AM.Heap) (x:AV):aW X H 91 x 0 = faV H x 0:=aY (ty:=3) (by kernel_rfl) (by kernel_rfl) H x
@[simp] theorem ajr (x:AV):eG X 91 x 0 = fvV X x 0 3:=dH (by kernel_rfl) x
@[simp] theorem ajs (H:AM.Heap) (x:AV):aW X H 91 x 1 = faV H x 1:=aY (ty:=3) (by kernel_rfl) (by kernel_rfl) H x
@[simp] theorem ajt (x:AV):eG X 91 x 1 = fvV X x 1 3:=dH (by kernel_rfl) x
@[simp] theorem aju (H:AM.Heap) (x:AV):aW X H 91 x 2 = faV H x 2:=aY (ty:=5) (by kernel_rfl) (by kernel_rfl) H x
@[simp] theorem ajv (x:AV):eG X 91 x 2 = fvV X x 2 5:=dH (by kernel_rfl) x
@[simp] theorem aeX (H:AM.Heap) (x:AV):aW X H 100 x 0 = faV H x 0:=aY (ty:=22) (by kernel_rfl) (by kernel_rfl) H x
@[simp] theorem aeY (x:AV):eG X 100 x 0 = fvV X x 0 22:=dH (by kernel_rfl) x
@[simp] theorem aeZ (H:AM.Heap) (x:AV):aW X H 100 x 1 = faV H x 1:=aY (ty:=3) (by kernel_rfl) (by kernel_rfl) H x
@[simp] theorem ae0 (x:AV):eG X 100 x 1 = fvV X x 1 3:=dH (by kernel_rfl) x
@[simp] theorem ae1 (H:AM.Heap) (x:AV):aW X H 106 x 0 = faV H x 0:=aY (ty:=22) (by kernel_rfl) (by kernel_rfl) H x
@[simp] theorem ae2 (x:AV):eG X 106 x 0 = fvV X x 0 22:=dH (by kernel_rfl) x
@[simp] theorem ae3 (H:AM.Heap) (x:AV):aW X H 106 x 1 = faV H x 1:=aY (ty:=3) (by kernel_rfl) (by kernel_rfl) H x
@[simp] theorem ae4 (x:AV):eG X 106 x 1 = fvV X x 1 3:=dH (by kernel_rfl) x
@[simp] theorem ae5 (H:AM.Heap) (x:AV):aW X H 106 x 2 = faV H x 2:=aY (ty:=22) (by kernel_rfl) (by kernel_rfl) H x
@[simp] theorem ae6 (x:AV):eG X 106 x 2 = fvV X x 2 22:=dH (by kernel_rfl) x
@[simp] theorem ae7 (H:AM.Heap) (x:AV):aW X H 106 x 3 = faV H x 3:=aY (ty:=3) (by kernel_rfl) (by kernel_rfl) H x
@[simp] theorem ae8 (x:AV):eG X 106 x 3 = fvV X x 3 3:=dH (by kernel_rfl) x
@[simp] theorem ae9 (H:AM.Heap) (x:AV):aW X H 106 x 4 = faV H x 4:=aY (ty:=25) (by kernel_rfl) (by kernel_rfl) H x
@[simp] theorem afa (x:AV):eG X 106 x 4 = fvV X x 4 25:=dH (by kernel_rfl) x
@[simp] theorem afb (H:AM.Heap) (x:AV):aW X H 119 x 0 = faV H x 0:=aY (ty:=3) (by kernel_rfl) (by kernel_rfl) H x
@[simp] theorem afc (x:AV):eG X 119 x 0 = fvV X x 0 3:=dH (by kernel_rfl) x
@[simp] theorem afd (H:AM.Heap) (x:AV):aW X H 119 x 1 = faV H x 1:=aY (ty:=4) (by kernel_rfl) (by kernel_rfl) H x
@[simp] theorem afe (x:AV):eG X 119 x 1 = fvV X x 1 4:=dH (by kernel_rfl) x
@[simp] theorem aff (H:AM.Heap) (x:AV):aW X H 119 x 3 = faV H x 3:=aY (ty:=3) (by kernel_rfl) (by kernel_rfl) H x
@[simp] theorem afg (x:AV):eG X 119 x 3 = fvV X x 3 3:=dH (by kernel_rfl) x
end Go.Proofs.Ytbodincpjijdiaa
