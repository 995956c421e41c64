/- The table of the functions that the examples reach. No conditions. -/
import Derived.Test.YtfiebjbhiflfpaaDoorSxPCa
import Derived.Test.YtfiebjbhiflfpaaDoorSxO
set_option linter.unusedVariables false
namespace Go.Sx.Ch
open Go Go.Sx Go.Proofs

noncomputable def tab : List (Nat × PEnt) := [
  (6, ⟨p6, [SRes.tmp 0], 242⟩),
  (16, ⟨p16, [SRes.tmp 0], 198⟩),
  (17, ⟨p17, [SRes.cell 2 (some 1), SRes.tmp 3], 14⟩),
  (19, ⟨p19, [SRes.cell 2 (some 1), SRes.tmp 3], 33⟩),
  (21, ⟨p21, [SRes.cell 4 (some 1), SRes.tmp 5], 82⟩),
  (23, ⟨p23, [SRes.tmp 4], 27⟩),
  (24, ⟨p24, [SRes.tmp 4, SRes.tmp 5], 49⟩),
  (26, ⟨p26, [SRes.tmp 2, SRes.tmp 3], 15⟩),
  (28, ⟨p28, [SRes.tmp 2, SRes.tmp 3], 15⟩),
  (30, ⟨p30, [SRes.tmp 4], 26⟩),
  (31, ⟨p31, [SRes.tmp 2, SRes.tmp 3], 34⟩),
  (33, ⟨p33, [SRes.tmp 2, SRes.tmp 3], 18⟩),
  (34, ⟨p34, [SRes.cell 0 (some 1)], 7⟩),
  (35, ⟨p35, [SRes.cell 0 (some 1)], 5⟩),
  (36, ⟨p36, [SRes.cell 0 (some 1)], 5⟩),
  (37, ⟨p37, [SRes.tmp 2, SRes.tmp 3], 30⟩),
  (38, ⟨p38, [SRes.cell 0 (some 1)], 9⟩),
  (39, ⟨p39, [SRes.tmp 2], 4⟩),
  (40, ⟨p40, [SRes.tmp 2], 11⟩),
  (41, ⟨p41, [SRes.cell 2 (some 1)], 5⟩),
  (46, ⟨p46, [SRes.tmp 2, SRes.tmp 3], 16⟩),
  (67, ⟨p67, [SRes.cell 2 (some 34), SRes.tmp 3], 69⟩),
  (68, ⟨p68, [SRes.tmp 4], 37⟩),
  (69, ⟨p69, [SRes.tmp 3], 7⟩),
  (70, ⟨p70, [SRes.cell 2 (some 34)], 53⟩),
  (71, ⟨p71, [SRes.tmp 4], 9⟩),
  (73, ⟨p73, [SRes.tmp 4], 9⟩),
  (74, ⟨p74, [SRes.tmp 2], 5⟩),
  (76, ⟨p76, [SRes.tmp 2, SRes.tmp 3, SRes.tmp 4], 34⟩),
  (79, ⟨p79, [SRes.tmp 2], 19⟩),
  (80, ⟨p80, [SRes.tmp 2], 31⟩),
  (81, ⟨p81, [SRes.tmp 9], 74⟩),
  (82, ⟨p82, [SRes.tmp 2], 9⟩),
  (84, ⟨p84, [SRes.tmp 4], 11⟩),
  (85, ⟨p85, [SRes.tmp 2], 63⟩),
  (99, ⟨p99, [SRes.tmp 4], 19⟩),
  (100, ⟨p100, [SRes.tmp 4], 87⟩)]

theorem tab_ok : PTabOk Tryd.prog tab := ⟨P6, P16, P17, P19, P21, P23, P24, P26, P28, P30, P31, P33, P34, P35, P36, P37, P38, P39, P40, P41, P46, P67, P68, P69, P70, P71, P73, P74, P76, P79, P80, P81, P82, P84, P85, P99, P100, trivial⟩

end Go.Sx.Ch
