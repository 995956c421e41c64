/- Calls with given arguments, and what they return. No conditions. -/
import Derived.Test.YtmakepdccccmaaaSxPt
import Derived.KernelRfl
set_option linter.unusedVariables false
set_option maxRecDepth 1000000
namespace Go.Sx.Wk
open Go Go.Sx Go.Proofs

def k14 : Known := ⟨17, [.ref 0 0 3 1 (some 3)], [(0, .cells [.v (.int .i64 2), .v (.int .i64 3), .v (.int .i64 6)])], 1, .tup [.v (.int .i64 1), .v (.int .i64 1), .v (.int .i64 0)], [(0, .cells [.v (.int .i64 2), .v (.int .i64 3), .v (.int .i64 6)])], 1⟩
theorem k14_ok : k14.ok Try.prog := runP_ok tab_ok 200 60 k14.g k14.args k14.h k14.k k14.r k14.h' k14.k' (by kernel_rfl)
def k15 : Known := ⟨19, [.ref 0 0 2 1 (some 2)], [(0, .cells [.v (.int .i64 2), .v (.int .i64 2)])], 1, .tup [.v (.bool true), .v (.int .i64 0)], [(0, .cells [.v (.int .i64 2), .v (.int .i64 2)])], 1⟩
theorem k15_ok : k15.ok Try.prog := runP_ok tab_ok 200 60 k15.g k15.args k15.h k15.k k15.r k15.h' k15.k' (by kernel_rfl)
def k16 : Known := ⟨19, [.ref 0 0 2 1 (some 2)], [(0, .cells [.v (.int .i64 1), .v (.int .i64 8)])], 1, .tup [.v (.bool false), .v (.int .i64 0)], [(0, .cells [.v (.int .i64 1), .v (.int .i64 8)])], 1⟩
theorem k16_ok : k16.ok Try.prog := runP_ok tab_ok 200 60 k16.g k16.args k16.h k16.k k16.r k16.h' k16.k' (by kernel_rfl)
def k17 : Known := ⟨21, [.ref 0 0 2 1 (some 2)], [(0, .cells [.v (.int .i64 1), .v (.int .i64 8)])], 1, .tup [.v (.int .i64 7), .v (.int .i64 0)], [(0, .cells [.v (.int .i64 1), .v (.int .i64 8)])], 1⟩
theorem k17_ok : k17.ok Try.prog := runP_ok tab_ok 200 60 k17.g k17.args k17.h k17.k k17.r k17.h' k17.k' (by kernel_rfl)
def k18 : Known := ⟨25, [.ref 0 0 2 1 (some 2), .v (.slice none 0 0)], [(0, .cells [.v (.int .i64 2), .v (.int .i64 3)])], 1, .tup [.ref 1 0 2 1 (some 2), .v (.int .i64 0)], [(0, .cells [.v (.int .i64 2), .v (.int .i64 3)]), (1, .cells [.v (.int .i64 2), .v (.int .i64 3), .v (.int .i64 0), .v (.int .i64 0)])], 2⟩
theorem k18_ok : k18.ok Try.prog := runP_ok tab_ok 200 60 k18.g k18.args k18.h k18.k k18.r k18.h' k18.k' (by kernel_rfl)
def k20 : Known := ⟨32, [.ref 0 0 2 1 (some 2), .v (.int .i64 0)], [(0, .cells [.v (.int .i64 2), .v (.int .i64 3)])], 1, .tup [.v (.slice none 0 0), .v (.int .i64 0)], [(0, .cells [.v (.int .i64 2), .v (.int .i64 3)])], 1⟩
theorem k20_ok : k20.ok Try.prog := runP_ok tab_ok 200 60 k20.g k20.args k20.h k20.k k20.r k20.h' k20.k' (by kernel_rfl)
def k21 : Known := ⟨32, [.ref 0 0 2 1 (some 2), .v (.int .i64 61)], [(0, .cells [.v (.int .i64 2), .v (.int .i64 3)])], 1, .tup [.v (.slice none 0 0), .v (.int .i64 1)], [(0, .cells [.v (.int .i64 2), .v (.int .i64 3)])], 1⟩
theorem k21_ok : k21.ok Try.prog := runP_ok tab_ok 200 60 k21.g k21.args k21.h k21.k k21.r k21.h' k21.k' (by kernel_rfl)
def k22 : Known := ⟨34, [.ref 0 0 1 1 (some 1)], [(0, .cells [.v (.int .i64 1)])], 1, .tup [.ref 1 0 0 1 (some 0), .ref 1 0 1 1 none, .v (.int .i64 0)], [(0, .cells [.v (.int .i64 1)]), (1, .cells [.v (.int .i64 0)])], 2⟩
theorem k22_ok : k22.ok Try.prog := runP_ok tab_ok 200 60 k22.g k22.args k22.h k22.k k22.r k22.h' k22.k' (by kernel_rfl)
def k26 : Known := ⟨30, [.ref 0 0 2 1 (some 2), .ref 1 0 2 1 (some 2)], [(0, .cells [.v (.int .i64 2), .v (.int .i64 3)]), (1, .cells [.v (.int .i64 0), .v (.int .i64 1)])], 2, .v (.int .i64 0), [(0, .cells [.v (.int .i64 2), .v (.int .i64 3)]), (1, .cells [.v (.int .i64 0), .v (.int .i64 1)])], 2⟩
theorem k26_ok : k26.ok Try.prog := runP_ok tab_ok 200 60 k26.g k26.args k26.h k26.k k26.r k26.h' k26.k' (by kernel_rfl)
def k27 : Known := ⟨30, [.ref 0 0 2 1 (some 2), .v (.slice none 0 0)], [(0, .cells [.v (.int .i64 2), .v (.int .i64 3)])], 1, .v (.int .i64 4), [(0, .cells [.v (.int .i64 2), .v (.int .i64 3)])], 1⟩
theorem k27_ok : k27.ok Try.prog := runP_ok tab_ok 200 60 k27.g k27.args k27.h k27.k k27.r k27.h' k27.k' (by kernel_rfl)

end Go.Sx.Wk
