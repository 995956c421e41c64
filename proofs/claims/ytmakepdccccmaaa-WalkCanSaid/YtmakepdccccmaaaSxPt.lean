/- The table of the functions that the examples reach. No conditions. -/
import Derived.Test.YtmakepdccccmaaaSxPa
import Derived.Test.YtmakepdccccmaaaSxPb
import Derived.Test.YtmakepdccccmaaaSxO
set_option linter.unusedVariables false
namespace Go.Sx.Wk
open Go Go.Sx Go.Proofs

def tab : List (Nat × PEnt) := [
  (8, ⟨p8, [SRes.tmp 0], 242⟩),
  (29, ⟨p29, [SRes.tmp 4], 26⟩),
  (60, ⟨p60, [SRes.tmp 6], 15⟩),
  (23, ⟨p23, [SRes.tmp 2], 14⟩),
  (59, ⟨p59, [SRes.tmp 2], 6⟩),
  (58, ⟨p58, [SRes.tmp 4], 9⟩),
  (80, ⟨p80, [SRes.tmp 4], 19⟩),
  (53, ⟨p53, [SRes.tmp 4], 12⟩),
  (17, ⟨p17, [SRes.tmp 2, SRes.tmp 3, SRes.tmp 4], 40⟩),
  (77, ⟨p77, [SRes.cell 6 (some 4), SRes.tmp 7], 43⟩),
  (55, ⟨p55, [SRes.tmp 4], 72⟩),
  (54, ⟨p54, [SRes.tmp 2], 16⟩),
  (19, ⟨p19, [SRes.tmp 2, SRes.tmp 3], 19⟩),
  (21, ⟨p21, [SRes.tmp 2, SRes.tmp 3], 28⟩),
  (62, ⟨p62, [SRes.tmp 4, SRes.cell 5 (some 4), SRes.tmp 6], 57⟩),
  (81, ⟨p81, [SRes.tmp 3], 10⟩),
  (68, ⟨p68, [SRes.tmp 4, SRes.cell 5 (some 4)], 34⟩),
  (25, ⟨p25, [SRes.tmp 4, SRes.tmp 5], 24⟩),
  (27, ⟨p27, [SRes.tmp 4, SRes.tmp 5], 24⟩),
  (32, ⟨p32, [SRes.tmp 4, SRes.tmp 5], 51⟩),
  (34, ⟨p34, [SRes.tmp 2, SRes.tmp 3, SRes.tmp 4], 69⟩),
  (36, ⟨p36, [SRes.tmp 2, SRes.tmp 3], 21⟩),
  (70, ⟨p70, [SRes.tmp 7], 74⟩),
  (48, ⟨p48, [SRes.tmp 2], 9⟩),
  (49, ⟨p49, [SRes.tmp 2], 25⟩),
  (30, ⟨p30, [SRes.tmp 4], 68⟩),
  (66, ⟨p66, [SRes.tmp 3], 10⟩),
  (67, ⟨p67, [SRes.tmp 4], 19⟩),
  (39, ⟨p39, [SRes.tmp 0], 3⟩),
  (40, ⟨p40, [SRes.tmp 2], 4⟩),
  (41, ⟨p41, [SRes.tmp 0], 3⟩),
  (16, ⟨p16, [SRes.tmp 0], 196⟩)]

theorem tab_ok : PTabOk Try.prog tab := ⟨P8, P29, P60, P23, P59, P58, P80, P53, P17, P77, P55, P54, P19, P21, P62, P81, P68, P25, P27, P32, P34, P36, P70, P48, P49, P30, P66, P67, P39, P40, P41, P16, trivial⟩

end Go.Sx.Wk
