/- The table of the functions that the examples reach. No conditions. -/
import Derived.Test.YtfiebjbhiflfpaaDoorSxPCa
import Derived.Test.YtfiebjbhiflfpaaDoorSxO
import Derived.KernelRfl
set_option linter.unusedVariables false
set_option linter.unusedSimpArgs false
namespace Go.Sx.Ch
open Go Go.Sx Go.Proofs
section
noncomputable def tab : List (Nat × PEnt) := [
  (16, ⟨p16, [SRes.tmp 0], 198⟩),
  (17, ⟨p17, [SRes.cell 2 (some 1), SRes.tmp 3], 14⟩),
  (19, ⟨p19, [SRes.cell 2 (some 1), SRes.tmp 3], 33⟩),
  (21, ⟨p21, [SRes.cell 4 (some 1), SRes.tmp 5], 82⟩),
  (23, ⟨p23, [SRes.tmp 4], 27⟩),
  (24, ⟨p24, [SRes.tmp 4, SRes.tmp 5], 49⟩),
  (26, ⟨p26, [SRes.tmp 2, SRes.tmp 3], 15⟩),
  (28, ⟨p28, [SRes.tmp 2, SRes.tmp 3], 15⟩),
  (30, ⟨p30, [SRes.tmp 4], 26⟩),
  (31, ⟨p31, [SRes.tmp 2, SRes.tmp 3], 34⟩),
  (33, ⟨p33, [SRes.tmp 2, SRes.tmp 3], 18⟩),
  (34, ⟨p34, [SRes.cell 0 (some 1)], 7⟩),
  (35, ⟨p35, [SRes.cell 0 (some 1)], 5⟩),
  (36, ⟨p36, [SRes.cell 0 (some 1)], 5⟩),
  (37, ⟨p37, [SRes.tmp 2, SRes.tmp 3], 30⟩),
  (38, ⟨p38, [SRes.cell 0 (some 1)], 9⟩),
  (39, ⟨p39, [SRes.tmp 2], 4⟩),
  (40, ⟨p40, [SRes.tmp 2], 11⟩),
  (41, ⟨p41, [SRes.cell 2 (some 1)], 5⟩),
  (46, ⟨p46, [SRes.tmp 2, SRes.tmp 3], 16⟩),
  (67, ⟨p67, [SRes.cell 2 (some 34), SRes.tmp 3], 69⟩),
  (68, ⟨p68, [SRes.tmp 4], 37⟩),
  (69, ⟨p69, [SRes.tmp 3], 7⟩),
  (70, ⟨p70, [SRes.cell 2 (some 34)], 53⟩),
  (71, ⟨p71, [SRes.tmp 4], 9⟩),
  (73, ⟨p73, [SRes.tmp 4], 9⟩),
  (74, ⟨p74, [SRes.tmp 2], 5⟩),
  (76, ⟨p76, [SRes.tmp 2, SRes.tmp 3, SRes.tmp 4], 34⟩),
  (79, ⟨p79, [SRes.tmp 2], 19⟩),
  (80, ⟨p80, [SRes.tmp 2], 31⟩),
  (81, ⟨p81, [SRes.tmp 9], 74⟩),
  (82, ⟨p82, [SRes.tmp 2], 9⟩),
  (84, ⟨p84, [SRes.tmp 4], 11⟩),
  (85, ⟨p85, [SRes.tmp 2], 63⟩),
  (99, ⟨p99, [SRes.tmp 4], 19⟩),
  (100, ⟨p100, [SRes.tmp 4], 87⟩)]
theorem tab_ok : PTabOk Tryd.prog tab := ⟨P16, P17, P19, P21, P23, P24, P26, P28, P30, P31, P33, P34, P35, P36, P37, P38, P39, P40, P41, P46, P67, P68, P69, P70, P71, P73, P74, P76, P79, P80, P81, P82, P84, P85, P99, P100, trivial⟩
end
section
set_option maxRecDepth 1000000
def k0 : Known := ⟨33, [.agg [.ref 0 0 3 1 (some 3)]], [(0, .cells [.ref 1 0 2 1 (some 2), .ref 2 0 2 1 (some 2), .ref 3 0 2 1 (some 2)]), (1, .cells [.v (.int .i64 0), .v (.int .i64 5)]), (2, .cells [.v (.int .i64 1), .v (.int .i64 2)]), (3, .cells [.v (.int .i64 3), .v (.int .i64 4)])], 4, .tup [.ref 4 0 2 1 none, .v (.int .i64 0)], [(0, .cells [.ref 1 0 2 1 (some 2), .ref 2 0 2 1 (some 2), .ref 3 0 2 1 (some 2)]), (1, .cells [.v (.int .i64 0), .v (.int .i64 5)]), (2, .cells [.v (.int .i64 1), .v (.int .i64 2)]), (3, .cells [.v (.int .i64 3), .v (.int .i64 4)]), (4, .cells [.ref 5 0 3 1 none, .ref 6 0 3 1 none]), (5, .cells [.v (.int .i64 0), .v (.int .i64 2), .v (.int .i64 4)]), (6, .cells [.v (.int .i64 1), .v (.int .i64 5), .v (.int .i64 3)])], 7⟩
theorem k0_ok : k0.ok Tryd.prog := runP_ok tab_ok 200 60 k0.g k0.args k0.h k0.k k0.r k0.h' k0.k' (by kernel_rfl)
def k3 : Known := ⟨17, [.agg [.ref 0 0 3 1 (some 3)]], [(0, .cells [.ref 1 0 2 1 (some 2), .ref 2 0 2 1 (some 2), .ref 3 0 2 1 (some 2)]), (1, .cells [.v (.int .i64 0), .v (.int .i64 5)]), (2, .cells [.v (.int .i64 1), .v (.int .i64 2)]), (3, .cells [.v (.int .i64 3), .v (.int .i64 4)])], 4, .tup [.agg [.ref 4 0 2 1 none], .v (.int .i64 0)], [(0, .cells [.ref 1 0 2 1 (some 2), .ref 2 0 2 1 (some 2), .ref 3 0 2 1 (some 2)]), (1, .cells [.v (.int .i64 0), .v (.int .i64 5)]), (2, .cells [.v (.int .i64 1), .v (.int .i64 2)]), (3, .cells [.v (.int .i64 3), .v (.int .i64 4)]), (4, .cells [.ref 5 0 3 1 none, .ref 6 0 3 1 none]), (5, .cells [.v (.int .i64 0), .v (.int .i64 2), .v (.int .i64 4)]), (6, .cells [.v (.int .i64 1), .v (.int .i64 5), .v (.int .i64 3)])], 7⟩
theorem k3_ok : k3.ok Tryd.prog := runP_ok tab_ok 200 60 k3.g k3.args k3.h k3.k k3.r k3.h' k3.k' (by kernel_rfl)
def k6 : Known := ⟨46, [.agg [.ref 0 0 3 1 (some 3)]], [(0, .cells [.ref 1 0 2 1 (some 2), .ref 2 0 2 1 (some 2), .ref 3 0 2 1 (some 2)]), (1, .cells [.v (.int .i64 0), .v (.int .i64 5)]), (2, .cells [.v (.int .i64 1), .v (.int .i64 2)]), (3, .cells [.v (.int .i64 3), .v (.int .i64 4)])], 4, .tup [.v (.int .i64 1), .v (.int .i64 0)], [(0, .cells [.ref 1 0 2 1 (some 2), .ref 2 0 2 1 (some 2), .ref 3 0 2 1 (some 2)]), (1, .cells [.v (.int .i64 0), .v (.int .i64 5)]), (2, .cells [.v (.int .i64 1), .v (.int .i64 2)]), (3, .cells [.v (.int .i64 3), .v (.int .i64 4)])], 4⟩
theorem k6_ok : k6.ok Tryd.prog := runP_ok tab_ok 200 60 k6.g k6.args k6.h k6.k k6.r k6.h' k6.k' (by kernel_rfl)
def k9 : Known := ⟨31, [.agg [.ref 0 0 3 1 (some 3)]], [(0, .cells [.ref 1 0 2 1 (some 2), .ref 2 0 2 1 (some 2), .ref 3 0 2 1 (some 2)]), (1, .cells [.v (.int .i64 0), .v (.int .i64 5)]), (2, .cells [.v (.int .i64 1), .v (.int .i64 2)]), (3, .cells [.v (.int .i64 3), .v (.int .i64 4)])], 4, .tup [.ref 4 0 3 1 none, .v (.int .i64 0)], [(0, .cells [.ref 1 0 2 1 (some 2), .ref 2 0 2 1 (some 2), .ref 3 0 2 1 (some 2)]), (1, .cells [.v (.int .i64 0), .v (.int .i64 5)]), (2, .cells [.v (.int .i64 1), .v (.int .i64 2)]), (3, .cells [.v (.int .i64 3), .v (.int .i64 4)]), (4, .cells [.v (.int .i64 0), .v (.int .i64 1), .v (.int .i64 2)])], 5⟩
theorem k9_ok : k9.ok Tryd.prog := runP_ok tab_ok 200 60 k9.g k9.args k9.h k9.k k9.r k9.h' k9.k' (by kernel_rfl)
def k12 : Known := ⟨31, [.agg [.ref 0 0 2 1 (some 2)]], [(0, .cells [.ref 1 0 2 1 (some 2), .ref 2 0 2 1 (some 2)]), (1, .cells [.v (.int .i64 0), .v (.int .i64 2)]), (2, .cells [.v (.int .i64 1), .v (.int .i64 3)])], 3, .tup [.v (.slice none 0 0), .v (.int .i64 13)], [(0, .cells [.ref 1 0 2 1 (some 2), .ref 2 0 2 1 (some 2)]), (1, .cells [.v (.int .i64 0), .v (.int .i64 2)]), (2, .cells [.v (.int .i64 1), .v (.int .i64 3)])], 3⟩
theorem k12_ok : k12.ok Tryd.prog := runP_ok tab_ok 200 60 k12.g k12.args k12.h k12.k k12.r k12.h' k12.k' (by kernel_rfl)
end
section
set_option maxRecDepth 1000000
def k1 : Known := ⟨37, [.agg [.ref 0 0 3 1 (some 3)]], [(0, .cells [.ref 1 0 2 1 (some 2), .ref 2 0 2 1 (some 2), .ref 3 0 2 1 (some 2)]), (1, .cells [.v (.int .i64 0), .v (.int .i64 5)]), (2, .cells [.v (.int .i64 1), .v (.int .i64 2)]), (3, .cells [.v (.int .i64 3), .v (.int .i64 4)])], 4, .tup [.v (.int .i64 0), .v (.int .i64 0)], [(0, .cells [.ref 1 0 2 1 (some 2), .ref 2 0 2 1 (some 2), .ref 3 0 2 1 (some 2)]), (1, .cells [.v (.int .i64 0), .v (.int .i64 5)]), (2, .cells [.v (.int .i64 1), .v (.int .i64 2)]), (3, .cells [.v (.int .i64 3), .v (.int .i64 4)])], 4⟩
theorem k1_ok : k1.ok Tryd.prog := runP_ok tab_ok 200 60 k1.g k1.args k1.h k1.k k1.r k1.h' k1.k' (by kernel_rfl)
def k4 : Known := ⟨19, [.agg [.ref 0 0 1 1 (some 1)]], [(0, .cells [.ref 1 0 4 1 (some 4)]), (1, .cells [.v (.int .i64 0), .v (.int .i64 2), .v (.int .i64 1), .v (.int .i64 3)])], 2, .tup [.agg [.ref 2 0 1 1 none], .v (.int .i64 0)], [(0, .cells [.ref 1 0 4 1 (some 4)]), (1, .cells [.v (.int .i64 0), .v (.int .i64 2), .v (.int .i64 1), .v (.int .i64 3)]), (2, .cells [.ref 3 0 4 1 none]), (3, .cells [.v (.int .i64 0), .v (.int .i64 3), .v (.int .i64 1), .v (.int .i64 2)])], 4⟩
theorem k4_ok : k4.ok Tryd.prog := runP_ok tab_ok 200 60 k4.g k4.args k4.h k4.k k4.r k4.h' k4.k' (by kernel_rfl)
def k7 : Known := ⟨26, [.agg [.ref 0 0 3 1 (some 3)]], [(0, .cells [.ref 1 0 2 1 (some 2), .ref 2 0 2 1 (some 2), .ref 3 0 2 1 (some 2)]), (1, .cells [.v (.int .i64 0), .v (.int .i64 5)]), (2, .cells [.v (.int .i64 1), .v (.int .i64 2)]), (3, .cells [.v (.int .i64 3), .v (.int .i64 4)])], 4, .tup [.v (.int .i64 3), .v (.int .i64 0)], [(0, .cells [.ref 1 0 2 1 (some 2), .ref 2 0 2 1 (some 2), .ref 3 0 2 1 (some 2)]), (1, .cells [.v (.int .i64 0), .v (.int .i64 5)]), (2, .cells [.v (.int .i64 1), .v (.int .i64 2)]), (3, .cells [.v (.int .i64 3), .v (.int .i64 4)])], 4⟩
theorem k7_ok : k7.ok Tryd.prog := runP_ok tab_ok 200 60 k7.g k7.args k7.h k7.k k7.r k7.h' k7.k' (by kernel_rfl)
def k10 : Known := ⟨24, [.agg [.ref 0 0 3 1 (some 3)], .ref 4 0 3 1 (some 3)], [(0, .cells [.ref 1 0 2 1 (some 2), .ref 2 0 2 1 (some 2), .ref 3 0 2 1 (some 2)]), (1, .cells [.v (.int .i64 0), .v (.int .i64 5)]), (2, .cells [.v (.int .i64 1), .v (.int .i64 2)]), (3, .cells [.v (.int .i64 3), .v (.int .i64 4)]), (4, .cells [.v (.int .i64 0), .v (.int .i64 1), .v (.int .i64 0)])], 5, .tup [.v (.bool false), .v (.int .i64 0)], [(0, .cells [.ref 1 0 2 1 (some 2), .ref 2 0 2 1 (some 2), .ref 3 0 2 1 (some 2)]), (1, .cells [.v (.int .i64 0), .v (.int .i64 5)]), (2, .cells [.v (.int .i64 1), .v (.int .i64 2)]), (3, .cells [.v (.int .i64 3), .v (.int .i64 4)]), (4, .cells [.v (.int .i64 0), .v (.int .i64 1), .v (.int .i64 0)])], 5⟩
theorem k10_ok : k10.ok Tryd.prog := runP_ok tab_ok 200 60 k10.g k10.args k10.h k10.k k10.r k10.h' k10.k' (by kernel_rfl)
end
section
set_option maxRecDepth 1000000
def k2 : Known := ⟨37, [.agg [.ref 0 0 1 1 (some 1)]], [(0, .cells [.ref 1 0 4 1 (some 4)]), (1, .cells [.v (.int .i64 0), .v (.int .i64 2), .v (.int .i64 1), .v (.int .i64 3)])], 2, .tup [.v (.int .i64 1), .v (.int .i64 0)], [(0, .cells [.ref 1 0 4 1 (some 4)]), (1, .cells [.v (.int .i64 0), .v (.int .i64 2), .v (.int .i64 1), .v (.int .i64 3)])], 2⟩
theorem k2_ok : k2.ok Tryd.prog := runP_ok tab_ok 200 60 k2.g k2.args k2.h k2.k k2.r k2.h' k2.k' (by kernel_rfl)
def k5 : Known := ⟨21, [.agg [.ref 0 0 3 1 (some 3)], .v (.int .i64 0)], [(0, .cells [.ref 1 0 2 1 (some 2), .ref 2 0 2 1 (some 2), .ref 3 0 2 1 (some 2)]), (1, .cells [.v (.int .i64 0), .v (.int .i64 5)]), (2, .cells [.v (.int .i64 1), .v (.int .i64 2)]), (3, .cells [.v (.int .i64 3), .v (.int .i64 4)])], 4, .tup [.agg [.ref 4 0 3 1 none], .v (.int .i64 0)], [(0, .cells [.ref 1 0 2 1 (some 2), .ref 2 0 2 1 (some 2), .ref 3 0 2 1 (some 2)]), (1, .cells [.v (.int .i64 0), .v (.int .i64 5)]), (2, .cells [.v (.int .i64 1), .v (.int .i64 2)]), (3, .cells [.v (.int .i64 3), .v (.int .i64 4)]), (4, .cells [.ref 5 0 1 1 none, .ref 6 0 2 1 none, .ref 7 0 1 1 none]), (5, .cells [.v (.int .i64 0)]), (6, .cells [.v (.int .i64 1), .v (.int .i64 2)]), (7, .cells [.v (.int .i64 3)])], 8⟩
theorem k5_ok : k5.ok Tryd.prog := runP_ok tab_ok 200 60 k5.g k5.args k5.h k5.k k5.r k5.h' k5.k' (by kernel_rfl)
def k8 : Known := ⟨28, [.agg [.ref 0 0 2 1 (some 2)]], [(0, .cells [.ref 1 0 2 1 (some 2), .ref 2 0 2 1 (some 2)]), (1, .cells [.v (.int .i64 0), .v (.int .i64 2)]), (2, .cells [.v (.int .i64 1), .v (.int .i64 3)])], 3, .tup [.ref 3 0 2 1 (some 2), .v (.int .i64 0)], [(0, .cells [.ref 1 0 2 1 (some 2), .ref 2 0 2 1 (some 2)]), (1, .cells [.v (.int .i64 0), .v (.int .i64 2)]), (2, .cells [.v (.int .i64 1), .v (.int .i64 3)]), (3, .cells [.v (.int .i64 0), .v (.int .i64 1)])], 4⟩
theorem k8_ok : k8.ok Tryd.prog := runP_ok tab_ok 200 60 k8.g k8.args k8.h k8.k k8.r k8.h' k8.k' (by kernel_rfl)
def k11 : Known := ⟨26, [.agg [.ref 0 0 1 1 (some 1)]], [(0, .cells [.ref 1 0 2 1 (some 2)]), (1, .cells [.v (.int .i64 0), .v (.int .i64 1)])], 2, .tup [.v (.int .i64 0), .v (.int .i64 12)], [(0, .cells [.ref 1 0 2 1 (some 2)]), (1, .cells [.v (.int .i64 0), .v (.int .i64 1)])], 2⟩
theorem k11_ok : k11.ok Tryd.prog := runP_ok tab_ok 200 60 k11.g k11.args k11.h k11.k k11.r k11.h' k11.k' (by kernel_rfl)
end
section
set_option maxRecDepth 1000000
def k100 : Known := ⟨16, [], [], 0, .v (.bool true), [], 0⟩
theorem k100_ok : k100.ok Tryd.prog := runQ_ok (known_ok (ms := [k0, k1, k2, k3, k4, k5, k6, k7, k8, k9, k10, k11, k12]) ⟨k0_ok, k1_ok, k2_ok, k3_ok, k4_ok, k5_ok, k6_ok, k7_ok, k8_ok, k9_ok, k10_ok, k11_ok, k12_ok, trivial⟩) tab_ok 200 60 k100.g k100.args k100.h k100.k k100.r k100.h' k100.k' (by kernel_rfl)
end
end Go.Sx.Ch
