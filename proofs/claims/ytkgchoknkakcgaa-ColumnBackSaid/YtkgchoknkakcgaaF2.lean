/- Walks: the document's fixed number behind bytes. -/
import Derived.Test.YtkgchoknkakcgaaFD
namespace Go.Proofs.Ytkgchoknkakcgaa
open Go.AM
set_option linter.unusedSimpArgs false
set_option linter.unusedVariables false

section
variable (c : Nat) (b : List UInt8) (x n : Nat)

def rafFr (i : Nat) : AM.Frame := [(1, .int .u64 (x : Nat)), (2, .int .i64 (n : Nat)), (8, .sl 1 0 (b.length + i) i), (9, .int .i64 (i : Nat))]

end

end Go.Proofs.Ytkgchoknkakcgaa
