/- A call with given arguments, and what it returns. No conditions. -/
import Derived.Test.YtmakepdccccmaaaSxPt
import Derived.KernelRfl
set_option linter.unusedVariables false
set_option maxRecDepth 1000000
namespace Go.Sx.Wk
open Go Go.Sx Go.Proofs

def k10 : Known := ⟨32, [.ref 0 0 3 1 (some 3), .v (.int .i64 1)], [(0, .cells [.v (.int .i64 2), .v (.int .i64 3), .v (.int .i64 6)])], 1, .tup [.v (.slice none 0 0), .v (.int .i64 12)], [(0, .cells [.v (.int .i64 2), .v (.int .i64 3), .v (.int .i64 6)])], 1⟩
theorem k10_ok : k10.ok Try.prog := runP_ok tab_ok 200 60 k10.g k10.args k10.h k10.k k10.r k10.h' k10.k' (by kernel_rfl)

end Go.Sx.Wk
