/- A call with given arguments, and what it returns. No conditions. -/
import Derived.Test.YtmakepdccccmaaaSxPt
import Derived.KernelRfl
set_option linter.unusedVariables false
set_option maxRecDepth 1000000
namespace Go.Sx.Wk
open Go Go.Sx Go.Proofs

def k19 : Known := ⟨27, [.ref 0 0 3 1 (some 3), .ref 1 0 1 1 (some 1)], [(0, .cells [.v (.int .i64 2), .v (.int .i64 3), .v (.int .i64 6)]), (1, .cells [.v (.int .i64 2)])], 2, .tup [.v (.bool false), .v (.int .i64 0)], [(0, .cells [.v (.int .i64 2), .v (.int .i64 3), .v (.int .i64 6)]), (1, .cells [.v (.int .i64 2)])], 2⟩
theorem k19_ok : k19.ok Try.prog := runP_ok tab_ok 200 60 k19.g k19.args k19.h k19.k k19.r k19.h' k19.k' (by kernel_rfl)

end Go.Sx.Wk
