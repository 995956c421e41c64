/- A call with given arguments, and what it returns. No conditions. -/
import Derived.Test.YtmakepdccccmaaaSxPt
import Derived.KernelRfl
set_option linter.unusedVariables false
set_option maxRecDepth 1000000
namespace Go.Sx.Wk
open Go Go.Sx Go.Proofs

def k25 : Known := ⟨36, [.ref 0 0 4 1 (some 4)], [(0, .cells [.v (.int .i64 4), .v (.int .i64 4), .v (.int .i64 4), .v (.int .i64 4)])], 1, .tup [.ref 1 0 4 1 none, .v (.int .i64 0)], [(0, .cells [.v (.int .i64 4), .v (.int .i64 4), .v (.int .i64 4), .v (.int .i64 4)]), (1, .cells [.v (.int .i64 0), .v (.int .i64 0), .v (.int .i64 0), .v (.int .i64 0)])], 2⟩
theorem k25_ok : k25.ok Try.prog := runP_ok tab_ok 200 60 k25.g k25.args k25.h k25.k k25.r k25.h' k25.k' (by kernel_rfl)

end Go.Sx.Wk
