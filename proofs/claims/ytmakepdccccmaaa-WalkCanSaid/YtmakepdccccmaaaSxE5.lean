/- A call with given arguments, and what it returns. No conditions. -/
import Derived.Test.YtmakepdccccmaaaSxPt
import Derived.KernelRfl
set_option linter.unusedVariables false
set_option maxRecDepth 1000000
namespace Go.Sx.Wk
open Go Go.Sx Go.Proofs

def k8 : Known := ⟨36, [.ref 0 0 3 1 (some 3)], [(0, .cells [.v (.int .i64 2), .v (.int .i64 3), .v (.int .i64 6)])], 1, .tup [.ref 1 0 3 1 none, .v (.int .i64 0)], [(0, .cells [.v (.int .i64 2), .v (.int .i64 3), .v (.int .i64 6)]), (1, .cells [.v (.int .i64 0), .v (.int .i64 0), .v (.int .i64 1)])], 2⟩
theorem k8_ok : k8.ok Try.prog := runP_ok tab_ok 200 60 k8.g k8.args k8.h k8.k k8.r k8.h' k8.k' (by kernel_rfl)

end Go.Sx.Wk
