/- A call with given arguments, and what it returns. No conditions. -/
import Derived.Test.YtmakepdccccmaaaSxJPatoPt
import Derived.KernelRfl
import Derived.Test.YtmakepdccccmaaaSxJE1toE3
set_option linter.unusedVariables false
set_option maxRecDepth 1000000
namespace Go.Sx.Wk
open Go Go.Sx Go.Proofs

def k10 : Known := ⟨32, [.ref 0 0 3 1 (some 3), .v (.int .i64 1)], [(0, .cells [.v (.int .i64 2), .v (.int .i64 3), .v (.int .i64 6)])], 1, .tup [.v (.slice none 0 0), .v (.int .i64 12)], [(0, .cells [.v (.int .i64 2), .v (.int .i64 3), .v (.int .i64 6)])], 1⟩
theorem k10_ok : k10.ok Try.prog := runP_ok tab_ok 200 60 k10.g k10.args k10.h k10.k k10.r k10.h' k10.k' (by kernel_rfl)

end Go.Sx.Wk
set_option maxRecDepth 1000000
namespace Go.Sx.Wk
open Go Go.Sx Go.Proofs

def k8 : Known := ⟨36, [.ref 0 0 3 1 (some 3)], [(0, .cells [.v (.int .i64 2), .v (.int .i64 3), .v (.int .i64 6)])], 1, .tup [.ref 1 0 3 1 none, .v (.int .i64 0)], [(0, .cells [.v (.int .i64 2), .v (.int .i64 3), .v (.int .i64 6)]), (1, .cells [.v (.int .i64 0), .v (.int .i64 0), .v (.int .i64 1)])], 2⟩
theorem k8_ok : k8.ok Try.prog := runP_ok tab_ok 200 60 k8.g k8.args k8.h k8.k k8.r k8.h' k8.k' (by kernel_rfl)

end Go.Sx.Wk
set_option maxRecDepth 1000000
namespace Go.Sx.Wk
open Go Go.Sx Go.Proofs

def k28 : Known := ⟨16, [], [], 0, .v (.bool true), [], 0⟩
theorem k28_ok : k28.ok Try.prog := runQ_ok (known_ok (ms := [k0, k1, k2, k3, k4, k5, k6, k7, k8, k9, k10, k11, k12, k13]) ⟨k0_ok, k1_ok, k2_ok, k3_ok, k4_ok, k5_ok, k6_ok, k7_ok, k8_ok, k9_ok, k10_ok, k11_ok, k12_ok, k13_ok, trivial⟩) tab_ok 200 60 k28.g k28.args k28.h k28.k k28.r k28.h' k28.k' (by kernel_rfl)

end Go.Sx.Wk
