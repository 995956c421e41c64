/- Calls with given arguments, and what they return. No conditions. -/
import Derived.Test.YtfiebjbhiflfpaaDoorSxPCt
import Derived.KernelRfl
set_option linter.unusedVariables false
set_option maxRecDepth 1000000
namespace Go.Sx.Ch
open Go Go.Sx Go.Proofs

def k13 : Known := ⟨33, [.agg [.ref 0 0 2 1 (some 2)]], [(0, .cells [.ref 1 0 2 1 (some 2), .ref 2 0 2 1 (some 2)]), (1, .cells [.v (.int .i64 0), .v (.int .i64 2)]), (2, .cells [.v (.int .i64 1), .v (.int .i64 3)])], 3, .tup [.ref 3 0 2 1 none, .v (.int .i64 0)], [(0, .cells [.ref 1 0 2 1 (some 2), .ref 2 0 2 1 (some 2)]), (1, .cells [.v (.int .i64 0), .v (.int .i64 2)]), (2, .cells [.v (.int .i64 1), .v (.int .i64 3)]), (3, .cells [.ref 4 0 2 1 none, .ref 5 0 2 1 none]), (4, .cells [.v (.int .i64 0), .v (.int .i64 3)]), (5, .cells [.v (.int .i64 1), .v (.int .i64 2)])], 6⟩
theorem k13_ok : k13.ok Tryd.prog := runP_ok tab_ok 200 60 k13.g k13.args k13.h k13.k k13.r k13.h' k13.k' (by kernel_rfl)
def k16 : Known := ⟨37, [.agg [.ref 0 0 2 1 (some 2)]], [(0, .cells [.ref 1 0 2 1 (some 2), .ref 2 0 2 1 (some 2)]), (1, .cells [.v (.int .i64 0), .v (.int .i64 2)]), (2, .cells [.v (.int .i64 1), .v (.int .i64 3)])], 3, .tup [.v (.int .i64 0), .v (.int .i64 0)], [(0, .cells [.ref 1 0 2 1 (some 2), .ref 2 0 2 1 (some 2)]), (1, .cells [.v (.int .i64 0), .v (.int .i64 2)]), (2, .cells [.v (.int .i64 1), .v (.int .i64 3)])], 3⟩
theorem k16_ok : k16.ok Tryd.prog := runP_ok tab_ok 200 60 k16.g k16.args k16.h k16.k k16.r k16.h' k16.k' (by kernel_rfl)
def k19 : Known := ⟨21, [.agg [.ref 0 0 1 1 (some 1)], .v (.int .i64 1)], [(0, .cells [.ref 1 0 4 1 (some 4)]), (1, .cells [.v (.int .i64 0), .v (.int .i64 2), .v (.int .i64 1), .v (.int .i64 3)])], 2, .tup [.agg [.ref 2 0 1 1 none], .v (.int .i64 0)], [(0, .cells [.ref 1 0 4 1 (some 4)]), (1, .cells [.v (.int .i64 0), .v (.int .i64 2), .v (.int .i64 1), .v (.int .i64 3)]), (2, .cells [.ref 3 0 2 1 none]), (3, .cells [.v (.int .i64 0), .v (.int .i64 1)])], 4⟩
theorem k19_ok : k19.ok Tryd.prog := runP_ok tab_ok 200 60 k19.g k19.args k19.h k19.k k19.r k19.h' k19.k' (by kernel_rfl)
def k22 : Known := ⟨26, [.agg [.v (.slice none 0 0)]], [], 0, .tup [.v (.int .i64 0), .v (.int .i64 0)], [], 0⟩
theorem k22_ok : k22.ok Tryd.prog := runP_ok tab_ok 200 60 k22.g k22.args k22.h k22.k k22.r k22.h' k22.k' (by kernel_rfl)
def k25 : Known := ⟨24, [.agg [.ref 0 0 3 1 (some 3)], .ref 4 0 3 1 (some 3)], [(0, .cells [.ref 1 0 2 1 (some 2), .ref 2 0 2 1 (some 2), .ref 3 0 2 1 (some 2)]), (1, .cells [.v (.int .i64 0), .v (.int .i64 5)]), (2, .cells [.v (.int .i64 1), .v (.int .i64 2)]), (3, .cells [.v (.int .i64 3), .v (.int .i64 4)]), (4, .cells [.v (.int .i64 0), .v (.int .i64 5), .v (.int .i64 2)])], 5, .tup [.v (.bool true), .v (.int .i64 0)], [(0, .cells [.ref 1 0 2 1 (some 2), .ref 2 0 2 1 (some 2), .ref 3 0 2 1 (some 2)]), (1, .cells [.v (.int .i64 0), .v (.int .i64 5)]), (2, .cells [.v (.int .i64 1), .v (.int .i64 2)]), (3, .cells [.v (.int .i64 3), .v (.int .i64 4)]), (4, .cells [.v (.int .i64 0), .v (.int .i64 5), .v (.int .i64 2)])], 5⟩
theorem k25_ok : k25.ok Tryd.prog := runP_ok tab_ok 200 60 k25.g k25.args k25.h k25.k k25.r k25.h' k25.k' (by kernel_rfl)
def k28 : Known := ⟨40, [.agg [.ref 0 0 1 1 (some 1)]], [(0, .cells [.ref 1 0 1 1 (some 1)]), (1, .cells [.v (.int .i64 0)])], 2, .v (.int .i64 5), [(0, .cells [.ref 1 0 1 1 (some 1)]), (1, .cells [.v (.int .i64 0)])], 2⟩
theorem k28_ok : k28.ok Tryd.prog := runP_ok tab_ok 200 60 k28.g k28.args k28.h k28.k k28.r k28.h' k28.k' (by kernel_rfl)

end Go.Sx.Ch
set_option maxRecDepth 1000000
namespace Go.Sx.Ch
open Go Go.Sx Go.Proofs

def k14 : Known := ⟨33, [.agg [.ref 0 0 1 1 (some 1)]], [(0, .cells [.ref 1 0 4 1 (some 4)]), (1, .cells [.v (.int .i64 0), .v (.int .i64 2), .v (.int .i64 1), .v (.int .i64 3)])], 2, .tup [.ref 2 0 1 1 none, .v (.int .i64 0)], [(0, .cells [.ref 1 0 4 1 (some 4)]), (1, .cells [.v (.int .i64 0), .v (.int .i64 2), .v (.int .i64 1), .v (.int .i64 3)]), (2, .cells [.ref 3 0 4 1 none]), (3, .cells [.v (.int .i64 0), .v (.int .i64 3), .v (.int .i64 1), .v (.int .i64 2)])], 4⟩
theorem k14_ok : k14.ok Tryd.prog := runP_ok tab_ok 200 60 k14.g k14.args k14.h k14.k k14.r k14.h' k14.k' (by kernel_rfl)
def k17 : Known := ⟨37, [.agg [.ref 0 0 1 1 (some 1)]], [(0, .cells [.ref 1 0 2 1 (some 2)]), (1, .cells [.v (.int .i64 0), .v (.int .i64 1)])], 2, .tup [.v (.int .i64 0), .v (.int .i64 0)], [(0, .cells [.ref 1 0 2 1 (some 2)]), (1, .cells [.v (.int .i64 0), .v (.int .i64 1)])], 2⟩
theorem k17_ok : k17.ok Tryd.prog := runP_ok tab_ok 200 60 k17.g k17.args k17.h k17.k k17.r k17.h' k17.k' (by kernel_rfl)
def k20 : Known := ⟨21, [.agg [.ref 0 0 3 1 (some 3)], .v (.int .i64 3)], [(0, .cells [.ref 1 0 2 1 (some 2), .ref 2 0 2 1 (some 2), .ref 3 0 2 1 (some 2)]), (1, .cells [.v (.int .i64 0), .v (.int .i64 5)]), (2, .cells [.v (.int .i64 1), .v (.int .i64 2)]), (3, .cells [.v (.int .i64 3), .v (.int .i64 4)])], 4, .tup [.agg [.v (.slice none 0 0)], .v (.int .i64 2)], [(0, .cells [.ref 1 0 2 1 (some 2), .ref 2 0 2 1 (some 2), .ref 3 0 2 1 (some 2)]), (1, .cells [.v (.int .i64 0), .v (.int .i64 5)]), (2, .cells [.v (.int .i64 1), .v (.int .i64 2)]), (3, .cells [.v (.int .i64 3), .v (.int .i64 4)])], 4⟩
theorem k20_ok : k20.ok Tryd.prog := runP_ok tab_ok 200 60 k20.g k20.args k20.h k20.k k20.r k20.h' k20.k' (by kernel_rfl)
def k23 : Known := ⟨28, [.agg [.ref 0 0 3 1 (some 3)]], [(0, .cells [.ref 1 0 2 1 (some 2), .ref 2 0 2 1 (some 2), .ref 3 0 2 1 (some 2)]), (1, .cells [.v (.int .i64 0), .v (.int .i64 5)]), (2, .cells [.v (.int .i64 1), .v (.int .i64 2)]), (3, .cells [.v (.int .i64 3), .v (.int .i64 4)])], 4, .tup [.ref 4 0 3 1 (some 3), .v (.int .i64 0)], [(0, .cells [.ref 1 0 2 1 (some 2), .ref 2 0 2 1 (some 2), .ref 3 0 2 1 (some 2)]), (1, .cells [.v (.int .i64 0), .v (.int .i64 5)]), (2, .cells [.v (.int .i64 1), .v (.int .i64 2)]), (3, .cells [.v (.int .i64 3), .v (.int .i64 4)]), (4, .cells [.v (.int .i64 0), .v (.int .i64 1), .v (.int .i64 2)])], 5⟩
theorem k23_ok : k23.ok Tryd.prog := runP_ok tab_ok 200 60 k23.g k23.args k23.h k23.k k23.r k23.h' k23.k' (by kernel_rfl)
def k26 : Known := ⟨24, [.agg [.ref 0 0 3 1 (some 3)], .ref 4 0 2 1 (some 2)], [(0, .cells [.ref 1 0 2 1 (some 2), .ref 2 0 2 1 (some 2), .ref 3 0 2 1 (some 2)]), (1, .cells [.v (.int .i64 0), .v (.int .i64 5)]), (2, .cells [.v (.int .i64 1), .v (.int .i64 2)]), (3, .cells [.v (.int .i64 3), .v (.int .i64 4)]), (4, .cells [.v (.int .i64 0), .v (.int .i64 1)])], 5, .tup [.v (.bool false), .v (.int .i64 5)], [(0, .cells [.ref 1 0 2 1 (some 2), .ref 2 0 2 1 (some 2), .ref 3 0 2 1 (some 2)]), (1, .cells [.v (.int .i64 0), .v (.int .i64 5)]), (2, .cells [.v (.int .i64 1), .v (.int .i64 2)]), (3, .cells [.v (.int .i64 3), .v (.int .i64 4)]), (4, .cells [.v (.int .i64 0), .v (.int .i64 1)])], 5⟩
theorem k26_ok : k26.ok Tryd.prog := runP_ok tab_ok 200 60 k26.g k26.args k26.h k26.k k26.r k26.h' k26.k' (by kernel_rfl)
def k29 : Known := ⟨40, [.agg [.ref 0 0 1 1 (some 1)]], [(0, .cells [.ref 1 0 2 1 (some 2)]), (1, .cells [.v (.int .i64 0), .v (.int .i64 2)])], 2, .v (.int .i64 2), [(0, .cells [.ref 1 0 2 1 (some 2)]), (1, .cells [.v (.int .i64 0), .v (.int .i64 2)])], 2⟩
theorem k29_ok : k29.ok Tryd.prog := runP_ok tab_ok 200 60 k29.g k29.args k29.h k29.k k29.r k29.h' k29.k' (by kernel_rfl)

end Go.Sx.Ch
set_option maxRecDepth 1000000
namespace Go.Sx.Ch
open Go Go.Sx Go.Proofs

def k15 : Known := ⟨33, [.agg [.ref 0 0 1 1 (some 1)]], [(0, .cells [.ref 1 0 2 1 (some 2)]), (1, .cells [.v (.int .i64 0), .v (.int .i64 1)])], 2, .tup [.ref 2 0 2 1 none, .v (.int .i64 0)], [(0, .cells [.ref 1 0 2 1 (some 2)]), (1, .cells [.v (.int .i64 0), .v (.int .i64 1)]), (2, .cells [.ref 3 0 1 1 none, .ref 4 0 1 1 none]), (3, .cells [.v (.int .i64 0)]), (4, .cells [.v (.int .i64 1)])], 5⟩
theorem k15_ok : k15.ok Tryd.prog := runP_ok tab_ok 200 60 k15.g k15.args k15.h k15.k k15.r k15.h' k15.k' (by kernel_rfl)
def k18 : Known := ⟨17, [.agg [.ref 0 0 1 1 (some 1)]], [(0, .cells [.ref 1 0 2 1 (some 2)]), (1, .cells [.v (.int .i64 0), .v (.int .i64 1)])], 2, .tup [.agg [.ref 2 0 2 1 none], .v (.int .i64 0)], [(0, .cells [.ref 1 0 2 1 (some 2)]), (1, .cells [.v (.int .i64 0), .v (.int .i64 1)]), (2, .cells [.ref 3 0 1 1 none, .ref 4 0 1 1 none]), (3, .cells [.v (.int .i64 0)]), (4, .cells [.v (.int .i64 1)])], 5⟩
theorem k18_ok : k18.ok Tryd.prog := runP_ok tab_ok 200 60 k18.g k18.args k18.h k18.k k18.r k18.h' k18.k' (by kernel_rfl)
def k21 : Known := ⟨26, [.agg [.ref 0 0 2 1 (some 2)]], [(0, .cells [.ref 1 0 2 1 (some 2), .ref 2 0 2 1 (some 2)]), (1, .cells [.v (.int .i64 0), .v (.int .i64 2)]), (2, .cells [.v (.int .i64 1), .v (.int .i64 3)])], 3, .tup [.v (.int .i64 2), .v (.int .i64 0)], [(0, .cells [.ref 1 0 2 1 (some 2), .ref 2 0 2 1 (some 2)]), (1, .cells [.v (.int .i64 0), .v (.int .i64 2)]), (2, .cells [.v (.int .i64 1), .v (.int .i64 3)])], 3⟩
theorem k21_ok : k21.ok Tryd.prog := runP_ok tab_ok 200 60 k21.g k21.args k21.h k21.k k21.r k21.h' k21.k' (by kernel_rfl)
def k24 : Known := ⟨31, [.agg [.ref 0 0 1 1 (some 1)]], [(0, .cells [.ref 1 0 2 1 (some 2)]), (1, .cells [.v (.int .i64 0), .v (.int .i64 1)])], 2, .tup [.v (.slice none 0 0), .v (.int .i64 12)], [(0, .cells [.ref 1 0 2 1 (some 2)]), (1, .cells [.v (.int .i64 0), .v (.int .i64 1)])], 2⟩
theorem k24_ok : k24.ok Tryd.prog := runP_ok tab_ok 200 60 k24.g k24.args k24.h k24.k k24.r k24.h' k24.k' (by kernel_rfl)
def k27 : Known := ⟨40, [.agg [.ref 0 0 2 1 (some 2)]], [(0, .cells [.ref 1 0 1 1 (some 1), .ref 2 0 1 1 (some 1)]), (1, .cells [.v (.int .i64 0)]), (2, .cells [.v (.int .i64 0)])], 3, .v (.int .i64 6), [(0, .cells [.ref 1 0 1 1 (some 1), .ref 2 0 1 1 (some 1)]), (1, .cells [.v (.int .i64 0)]), (2, .cells [.v (.int .i64 0)])], 3⟩
theorem k27_ok : k27.ok Tryd.prog := runP_ok tab_ok 200 60 k27.g k27.args k27.h k27.k k27.r k27.h' k27.k' (by kernel_rfl)
def k30 : Known := ⟨40, [.agg [.ref 0 0 1 1 (some 1)]], [(0, .cells [.v (.slice none 0 0)])], 1, .v (.int .i64 4), [(0, .cells [.v (.slice none 0 0)])], 1⟩
theorem k30_ok : k30.ok Tryd.prog := runP_ok tab_ok 200 60 k30.g k30.args k30.h k30.k k30.r k30.h' k30.k' (by kernel_rfl)

end Go.Sx.Ch
