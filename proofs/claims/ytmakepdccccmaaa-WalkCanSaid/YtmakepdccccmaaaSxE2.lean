/- A call with given arguments, and what it returns. No conditions. -/
import Derived.Test.YtmakepdccccmaaaSxPt
import Derived.KernelRfl
set_option linter.unusedVariables false
set_option maxRecDepth 1000000
namespace Go.Sx.Wk
open Go Go.Sx Go.Proofs

def k2 : Known := ⟨19, [.ref 0 0 3 1 (some 3)], [(0, .cells [.v (.int .i64 2), .v (.int .i64 3), .v (.int .i64 6)])], 1, .tup [.v (.bool false), .v (.int .i64 0)], [(0, .cells [.v (.int .i64 2), .v (.int .i64 3), .v (.int .i64 6)])], 1⟩
theorem k2_ok : k2.ok Try.prog := runP_ok tab_ok 200 60 k2.g k2.args k2.h k2.k k2.r k2.h' k2.k' (by kernel_rfl)

end Go.Sx.Wk
