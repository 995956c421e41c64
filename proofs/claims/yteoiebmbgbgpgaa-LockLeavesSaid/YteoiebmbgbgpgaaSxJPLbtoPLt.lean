/- The codes of the functions, written by a program (Gen.lean), and that they are the functions'. No conditions. -/
import Derived.Test.YteoiebmbgbgpgaaSxJNtoNq
import Derived.KernelRfl
import Derived.Test.YteoiebmbgbgpgaaProg
import Derived.Test.YteoiebmbgbgpgaaSxJLH0toPLa
import Derived.Test.YteoiebmbgbgpgaaSxO
set_option linter.unusedVariables false
set_option linter.unusedSimpArgs false
namespace Go.Sx.Lk
open Go Go.Sx Go.Proofs
section
set_option maxRecDepth 100000
noncomputable def p7 : PCode := pcOf Try.prog Try.f7 (Try.f7.body.getD .skip) [[], [1, 2], [1, 2, 3, 4], [1, 2, 3, 4, 5, 6], [1, 2, 3, 4, 5, 6, 7, 8], [1, 2, 3, 4, 5, 6, 7, 8, 9, 10], [1, 2, 3, 4, 5, 6, 7, 8, 9, 10, 11, 12], [108], [0], [110, 111, 112], [110, 111, 112, 113], [13, 14, 110, 111, 112], [14, 15, 16, 110, 111, 112], [110, 111, 112, 128], [0], [110, 111, 112], [2, 17], [2, 4, 17, 18], [2, 4, 6, 17, 18, 19], [2, 4, 6, 8, 17, 18, 19], [2, 4, 6, 8, 10, 17, 18, 19], [2, 4, 6, 8, 10, 12, 17, 18, 19], [2, 4, 6, 8, 10, 12, 17, 18, 19, 21], [2, 4, 6, 8, 10, 12, 17, 18, 19, 21, 25], [0]]
theorem P7 : PFn Try.prog 7 ⟨p7, [.tmp 0], 250⟩ := .mk3 Try.f7 (Try.f7.body.getD .skip) [[], [1, 2], [1, 2, 3, 4], [1, 2, 3, 4, 5, 6], [1, 2, 3, 4, 5, 6, 7, 8], [1, 2, 3, 4, 5, 6, 7, 8, 9, 10], [1, 2, 3, 4, 5, 6, 7, 8, 9, 10, 11, 12], [108], [0], [110, 111, 112], [110, 111, 112, 113], [13, 14, 110, 111, 112], [14, 15, 16, 110, 111, 112], [110, 111, 112, 128], [0], [110, 111, 112], [2, 17], [2, 4, 17, 18], [2, 4, 6, 17, 18, 19], [2, 4, 6, 8, 17, 18, 19], [2, 4, 6, 8, 10, 17, 18, 19], [2, 4, 6, 8, 10, 12, 17, 18, 19], [2, 4, 6, 8, 10, 12, 17, 18, 19, 21], [2, 4, 6, 8, 10, 12, 17, 18, 19, 21, 25], [0]] Try.func7 (by kernel_rfl) (by kernel_rfl) (by kernel_rfl) (by kernel_rfl) (by decide)
end
section
noncomputable def tab : List (Nat × PEnt) := [
  (15, ⟨p15, [SRes.tmp 0], 215⟩),
  (16, ⟨p16, [SRes.tmp 2, SRes.tmp 3], 12⟩),
  (18, ⟨p18, [SRes.tmp 2, SRes.tmp 3], 15⟩),
  (20, ⟨p20, [SRes.tmp 4, SRes.tmp 5], 58⟩),
  (22, ⟨p22, [SRes.tmp 4], 26⟩),
  (23, ⟨p23, [SRes.tmp 2], 33⟩),
  (25, ⟨p25, [SRes.tmp 2, SRes.tmp 3], 18⟩),
  (27, ⟨p27, [SRes.tmp 2, SRes.tmp 3, SRes.tmp 4, SRes.tmp 5], 50⟩),
  (29, ⟨p29, [SRes.tmp 2, SRes.tmp 3], 12⟩),
  (31, ⟨p31, [SRes.tmp 8], 66⟩),
  (33, ⟨p33, [SRes.tmp 4, SRes.tmp 5], 25⟩),
  (35, ⟨p35, [SRes.tmp 2, SRes.tmp 3], 46⟩),
  (37, ⟨p37, [SRes.tmp 2, SRes.tmp 3], 43⟩),
  (39, ⟨p39, [SRes.tmp 2, SRes.tmp 3], 49⟩),
  (41, ⟨p41, [SRes.tmp 4], 26⟩),
  (42, ⟨p42, [SRes.tmp 0], 3⟩),
  (43, ⟨p43, [SRes.tmp 0], 3⟩),
  (44, ⟨p44, [SRes.tmp 2], 4⟩),
  (52, ⟨p52, [SRes.tmp 2], 21⟩),
  (57, ⟨p57, [SRes.tmp 2], 25⟩),
  (61, ⟨p61, [SRes.tmp 2], 8⟩),
  (63, ⟨p63, [], 28⟩),
  (64, ⟨p64, [], 7⟩),
  (65, ⟨p65, [SRes.tmp 4], 17⟩),
  (66, ⟨p66, [SRes.tmp 2], 14⟩),
  (67, ⟨p67, [], 14⟩),
  (68, ⟨p68, [SRes.tmp 2, SRes.tmp 3], 23⟩),
  (69, ⟨p69, [], 16⟩),
  (70, ⟨p70, [SRes.tmp 4], 12⟩),
  (74, ⟨p74, [SRes.tmp 4], 19⟩),
  (75, ⟨p75, [SRes.tmp 3], 7⟩),
  (76, ⟨p76, [SRes.tmp 2], 12⟩),
  (79, ⟨p79, [], 41⟩),
  (82, ⟨p82, [SRes.tmp 2], 59⟩),
  (84, ⟨p84, [SRes.tmp 4], 48⟩),
  (85, ⟨p85, [], 46⟩),
  (91, ⟨p91, [SRes.tmp 4], 17⟩),
  (96, ⟨p96, [], 11⟩),
  (97, ⟨p97, [], 24⟩),
  (98, ⟨p98, [], 20⟩),
  (100, ⟨p100, [SRes.tmp 4, SRes.tmp 5], 30⟩),
  (101, ⟨p101, [SRes.tmp 2], 6⟩),
  (113, ⟨p113, [SRes.tmp 4, SRes.tmp 5], 17⟩),
  (114, ⟨p114, [SRes.tmp 4, SRes.tmp 5], 51⟩),
  (7, ⟨p7, [SRes.tmp 0], 250⟩)]
theorem tab_ok : PTabOk Try.prog tab := ⟨P15, P16, P18, P20, P22, P23, P25, P27, P29, P31, P33, P35, P37, P39, P41, P42, P43, P44, P52, P57, P61, P63, P64, P65, P66, P67, P68, P69, P70, P74, P75, P76, P79, P82, P84, P85, P91, P96, P97, P98, P100, P101, P113, P114, P7, trivial⟩
end
end Go.Sx.Lk
