/- Calls with given arguments, and what they return. No conditions. -/
import Derived.Test.YtmakepdccccmaaaSxPt
import Derived.KernelRfl
set_option linter.unusedVariables false
set_option maxRecDepth 1000000
namespace Go.Sx.Wk
open Go Go.Sx Go.Proofs

def k23 : Known := ⟨34, [.ref 0 0 3 1 (some 3)], [(0, .cells [.v (.int .i64 3), .v (.int .i64 3), .v (.int .i64 3)])], 1, .tup [.ref 1 0 2 1 (some 2), .ref 1 2 3 1 none, .v (.int .i64 0)], [(0, .cells [.v (.int .i64 3), .v (.int .i64 3), .v (.int .i64 3)]), (1, .cells [.v (.int .i64 0), .v (.int .i64 1), .v (.int .i64 2), .v (.int .i64 0), .v (.int .i64 1)])], 2⟩
theorem k23_ok : k23.ok Try.prog := runP_ok tab_ok 200 60 k23.g k23.args k23.h k23.k k23.r k23.h' k23.k' (by kernel_rfl)
def k24 : Known := ⟨36, [.ref 0 0 3 1 (some 3)], [(0, .cells [.v (.int .i64 1), .v (.int .i64 1), .v (.int .i64 1)])], 1, .tup [.ref 1 0 3 1 none, .v (.int .i64 0)], [(0, .cells [.v (.int .i64 1), .v (.int .i64 1), .v (.int .i64 1)]), (1, .cells [.v (.int .i64 0), .v (.int .i64 1), .v (.int .i64 2)])], 2⟩
theorem k24_ok : k24.ok Try.prog := runP_ok tab_ok 200 60 k24.g k24.args k24.h k24.k k24.r k24.h' k24.k' (by kernel_rfl)

end Go.Sx.Wk
