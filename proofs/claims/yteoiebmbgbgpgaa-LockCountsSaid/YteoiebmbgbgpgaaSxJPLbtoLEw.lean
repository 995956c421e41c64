/- The codes of the functions, written by a program (Gen.lean), and that they are the functions'. No conditions. -/
import Derived.Test.YteoiebmbgbgpgaaSxJNtoNq
import Derived.KernelRfl
import Derived.Test.YteoiebmbgbgpgaaProg
import Derived.Test.YteoiebmbgbgpgaaSxJLG0toPLa
import Derived.Test.YteoiebmbgbgpgaaSxO
set_option linter.unusedVariables false
set_option linter.unusedSimpArgs false
namespace Go.Sx.Lk
open Go Go.Sx Go.Proofs
section
set_option maxRecDepth 100000
noncomputable def p7 : PCode := pcOf Try.prog Try.f7 (Try.f7.body.getD .skip) [[], [1, 2], [1, 2, 3, 4], [1, 2, 3, 4, 5, 6], [1, 2, 3, 4, 5, 6, 7, 8], [1, 2, 3, 4, 5, 6, 7, 8, 9, 10], [1, 2, 3, 4, 5, 6, 7, 8, 9, 10, 11, 12], [108], [0], [110, 111, 112], [110, 111, 112, 113], [13, 14, 110, 111, 112], [14, 15, 16, 110, 111, 112], [110, 111, 112, 128], [0], [110, 111, 112], [2, 17], [2, 4, 17, 18], [2, 4, 6, 17, 18, 19], [2, 4, 6, 8, 17, 18, 19], [2, 4, 6, 8, 10, 17, 18, 19], [2, 4, 6, 8, 10, 12, 17, 18, 19], [2, 4, 6, 8, 10, 12, 17, 18, 19, 21], [2, 4, 6, 8, 10, 12, 17, 18, 19, 21, 25], [0]]
theorem P7 : PFn Try.prog 7 ⟨p7, [.tmp 0], 250⟩ := .mk3 Try.f7 (Try.f7.body.getD .skip) [[], [1, 2], [1, 2, 3, 4], [1, 2, 3, 4, 5, 6], [1, 2, 3, 4, 5, 6, 7, 8], [1, 2, 3, 4, 5, 6, 7, 8, 9, 10], [1, 2, 3, 4, 5, 6, 7, 8, 9, 10, 11, 12], [108], [0], [110, 111, 112], [110, 111, 112, 113], [13, 14, 110, 111, 112], [14, 15, 16, 110, 111, 112], [110, 111, 112, 128], [0], [110, 111, 112], [2, 17], [2, 4, 17, 18], [2, 4, 6, 17, 18, 19], [2, 4, 6, 8, 17, 18, 19], [2, 4, 6, 8, 10, 17, 18, 19], [2, 4, 6, 8, 10, 12, 17, 18, 19], [2, 4, 6, 8, 10, 12, 17, 18, 19, 21], [2, 4, 6, 8, 10, 12, 17, 18, 19, 21, 25], [0]] Try.func7 (by kernel_rfl) (by kernel_rfl) (by kernel_rfl) (by kernel_rfl) (by decide)
end
section
noncomputable def tab : List (Nat × PEnt) := [
  (15, ⟨p15, [SRes.tmp 0], 215⟩),
  (16, ⟨p16, [SRes.tmp 2, SRes.tmp 3], 12⟩),
  (18, ⟨p18, [SRes.tmp 2, SRes.tmp 3], 15⟩),
  (20, ⟨p20, [SRes.tmp 4, SRes.tmp 5], 58⟩),
  (22, ⟨p22, [SRes.tmp 4], 26⟩),
  (23, ⟨p23, [SRes.tmp 2], 33⟩),
  (25, ⟨p25, [SRes.tmp 2, SRes.tmp 3], 18⟩),
  (27, ⟨p27, [SRes.tmp 2, SRes.tmp 3, SRes.tmp 4, SRes.tmp 5], 50⟩),
  (29, ⟨p29, [SRes.tmp 2, SRes.tmp 3], 12⟩),
  (31, ⟨p31, [SRes.tmp 8], 66⟩),
  (33, ⟨p33, [SRes.tmp 4, SRes.tmp 5], 25⟩),
  (35, ⟨p35, [SRes.tmp 2, SRes.tmp 3], 46⟩),
  (37, ⟨p37, [SRes.tmp 2, SRes.tmp 3], 43⟩),
  (39, ⟨p39, [SRes.tmp 2, SRes.tmp 3], 49⟩),
  (41, ⟨p41, [SRes.tmp 4], 26⟩),
  (42, ⟨p42, [SRes.tmp 0], 3⟩),
  (43, ⟨p43, [SRes.tmp 0], 3⟩),
  (44, ⟨p44, [SRes.tmp 2], 4⟩),
  (52, ⟨p52, [SRes.tmp 2], 21⟩),
  (57, ⟨p57, [SRes.tmp 2], 25⟩),
  (61, ⟨p61, [SRes.tmp 2], 8⟩),
  (63, ⟨p63, [], 28⟩),
  (64, ⟨p64, [], 7⟩),
  (65, ⟨p65, [SRes.tmp 4], 17⟩),
  (66, ⟨p66, [SRes.tmp 2], 14⟩),
  (67, ⟨p67, [], 14⟩),
  (68, ⟨p68, [SRes.tmp 2, SRes.tmp 3], 23⟩),
  (69, ⟨p69, [], 16⟩),
  (70, ⟨p70, [SRes.tmp 4], 12⟩),
  (74, ⟨p74, [SRes.tmp 4], 19⟩),
  (75, ⟨p75, [SRes.tmp 3], 7⟩),
  (76, ⟨p76, [SRes.tmp 2], 12⟩),
  (79, ⟨p79, [], 41⟩),
  (82, ⟨p82, [SRes.tmp 2], 59⟩),
  (84, ⟨p84, [SRes.tmp 4], 48⟩),
  (85, ⟨p85, [], 46⟩),
  (91, ⟨p91, [SRes.tmp 4], 17⟩),
  (96, ⟨p96, [], 11⟩),
  (97, ⟨p97, [], 24⟩),
  (98, ⟨p98, [], 20⟩),
  (100, ⟨p100, [SRes.tmp 4, SRes.tmp 5], 30⟩),
  (101, ⟨p101, [SRes.tmp 2], 6⟩),
  (113, ⟨p113, [SRes.tmp 4, SRes.tmp 5], 17⟩),
  (114, ⟨p114, [SRes.tmp 4, SRes.tmp 5], 51⟩),
  (7, ⟨p7, [SRes.tmp 0], 250⟩)]
theorem tab_ok : PTabOk Try.prog tab := ⟨P15, P16, P18, P20, P22, P23, P25, P27, P29, P31, P33, P35, P37, P39, P41, P42, P43, P44, P52, P57, P61, P63, P64, P65, P66, P67, P68, P69, P70, P74, P75, P76, P79, P82, P84, P85, P91, P96, P97, P98, P100, P101, P113, P114, P7, trivial⟩
end
section
set_option maxRecDepth 1000000
def k0 : Known := ⟨16, [.ref 0 0 3 1 (some 3)], [(0, .cells [.v (.int .i64 1), .v (.int .i64 2), .v (.int .i64 0)])], 1, .tup [.ref 1 0 3 1 none, .v (.int .i64 0)], [(0, .cells [.v (.int .i64 1), .v (.int .i64 2), .v (.int .i64 0)]), (1, .cells [.v (.int .i64 1), .v (.int .i64 0), .v (.int .i64 2)])], 2⟩
theorem k0_ok : k0.ok Try.prog := runP_ok tab_ok 200 60 k0.g k0.args k0.h k0.k k0.r k0.h' k0.k' (by kernel_rfl)
def k3 : Known := ⟨25, [.ref 0 0 3 1 (some 3)], [(0, .cells [.v (.int .i64 1), .v (.int .i64 2), .v (.int .i64 0)])], 1, .tup [.v (.bool false), .v (.int .i64 0)], [(0, .cells [.v (.int .i64 1), .v (.int .i64 2), .v (.int .i64 0)])], 1⟩
theorem k3_ok : k3.ok Try.prog := runP_ok tab_ok 200 60 k3.g k3.args k3.h k3.k k3.r k3.h' k3.k' (by kernel_rfl)
def k6 : Known := ⟨29, [.ref 0 0 4 1 (some 4)], [(0, .cells [.v (.int .i64 1), .v (.int .i64 2), .v (.int .i64 3), .v (.int .i64 0)])], 1, .tup [.v (.int .i64 3), .v (.int .i64 0)], [(0, .cells [.v (.int .i64 1), .v (.int .i64 2), .v (.int .i64 3), .v (.int .i64 0)])], 1⟩
theorem k6_ok : k6.ok Try.prog := runP_ok tab_ok 200 60 k6.g k6.args k6.h k6.k k6.r k6.h' k6.k' (by kernel_rfl)
def k9 : Known := ⟨37, [.ref 0 0 3 1 (some 3)], [(0, .cells [.v (.int .i64 1), .v (.int .i64 2), .v (.int .i64 0)])], 1, .tup [.ref 1 0 1 2 none, .v (.int .i64 0)], [(0, .cells [.v (.int .i64 1), .v (.int .i64 2), .v (.int .i64 0)]), (1, .cells [.v (.int .i64 1), .v (.int .i64 2)])], 2⟩
theorem k9_ok : k9.ok Try.prog := runP_ok tab_ok 200 60 k9.g k9.args k9.h k9.k k9.r k9.h' k9.k' (by kernel_rfl)
def k12 : Known := ⟨39, [.ref 0 0 4 1 (some 4)], [(0, .cells [.v (.int .i64 1), .v (.int .i64 2), .v (.int .i64 3), .v (.int .i64 0)])], 1, .tup [.v (.slice none 0 0), .v (.int .i64 12)], [(0, .cells [.v (.int .i64 1), .v (.int .i64 2), .v (.int .i64 3), .v (.int .i64 0)])], 1⟩
theorem k12_ok : k12.ok Try.prog := runP_ok tab_ok 200 60 k12.g k12.args k12.h k12.k k12.r k12.h' k12.k' (by kernel_rfl)
def k15 : Known := ⟨31, [.ref 0 0 3 1 (some 3), .v (.int .i64 0), .v (.int .i64 1), .v (.int .i64 2)], [(0, .cells [.v (.int .i64 2), .v (.int .i64 0), .v (.int .i64 1)])], 1, .v (.int .i64 14), [(0, .cells [.v (.int .i64 2), .v (.int .i64 0), .v (.int .i64 1)])], 1⟩
theorem k15_ok : k15.ok Try.prog := runP_ok tab_ok 200 60 k15.g k15.args k15.h k15.k k15.r k15.h' k15.k' (by kernel_rfl)
end
section
set_option maxRecDepth 1000000
def k200 : Known := ⟨76, [.ref 0 0 4 1 (some 4)], [(0, .cells [.v (.int .i64 0), .v (.int .i64 1), .v (.int .i64 2), .v (.int .i64 3)])], 1, .v (.int .i64 0), [(0, .cells [.v (.int .i64 0), .v (.int .i64 1), .v (.int .i64 2), .v (.int .i64 3)])], 1⟩
theorem k200_ok : k200.ok Try.prog := runP_ok tab_ok 200 60 k200.g k200.args k200.h k200.k k200.r k200.h' k200.k' (by kernel_rfl)
def k203 : Known := ⟨76, [.ref 0 0 4 1 (some 4)], [(0, .cells [.v (.int .i64 0), .v (.int .i64 2), .v (.int .i64 3), .v (.int .i64 1)])], 1, .v (.int .i64 2), [(0, .cells [.v (.int .i64 0), .v (.int .i64 2), .v (.int .i64 3), .v (.int .i64 1)])], 1⟩
theorem k203_ok : k203.ok Try.prog := runP_ok tab_ok 200 60 k203.g k203.args k203.h k203.k k203.r k203.h' k203.k' (by kernel_rfl)
def k206 : Known := ⟨76, [.ref 0 0 4 1 (some 4)], [(0, .cells [.v (.int .i64 1), .v (.int .i64 0), .v (.int .i64 2), .v (.int .i64 3)])], 1, .v (.int .i64 1), [(0, .cells [.v (.int .i64 1), .v (.int .i64 0), .v (.int .i64 2), .v (.int .i64 3)])], 1⟩
theorem k206_ok : k206.ok Try.prog := runP_ok tab_ok 200 60 k206.g k206.args k206.h k206.k k206.r k206.h' k206.k' (by kernel_rfl)
def k209 : Known := ⟨76, [.ref 0 0 4 1 (some 4)], [(0, .cells [.v (.int .i64 1), .v (.int .i64 2), .v (.int .i64 3), .v (.int .i64 0)])], 1, .v (.int .i64 3), [(0, .cells [.v (.int .i64 1), .v (.int .i64 2), .v (.int .i64 3), .v (.int .i64 0)])], 1⟩
theorem k209_ok : k209.ok Try.prog := runP_ok tab_ok 200 60 k209.g k209.args k209.h k209.k k209.r k209.h' k209.k' (by kernel_rfl)
def k212 : Known := ⟨76, [.ref 0 0 4 1 (some 4)], [(0, .cells [.v (.int .i64 2), .v (.int .i64 0), .v (.int .i64 1), .v (.int .i64 3)])], 1, .v (.int .i64 1), [(0, .cells [.v (.int .i64 2), .v (.int .i64 0), .v (.int .i64 1), .v (.int .i64 3)])], 1⟩
theorem k212_ok : k212.ok Try.prog := runP_ok tab_ok 200 60 k212.g k212.args k212.h k212.k k212.r k212.h' k212.k' (by kernel_rfl)
def k215 : Known := ⟨76, [.ref 0 0 4 1 (some 4)], [(0, .cells [.v (.int .i64 2), .v (.int .i64 1), .v (.int .i64 3), .v (.int .i64 0)])], 1, .v (.int .i64 3), [(0, .cells [.v (.int .i64 2), .v (.int .i64 1), .v (.int .i64 3), .v (.int .i64 0)])], 1⟩
theorem k215_ok : k215.ok Try.prog := runP_ok tab_ok 200 60 k215.g k215.args k215.h k215.k k215.r k215.h' k215.k' (by kernel_rfl)
def k218 : Known := ⟨76, [.ref 0 0 4 1 (some 4)], [(0, .cells [.v (.int .i64 3), .v (.int .i64 0), .v (.int .i64 1), .v (.int .i64 2)])], 1, .v (.int .i64 1), [(0, .cells [.v (.int .i64 3), .v (.int .i64 0), .v (.int .i64 1), .v (.int .i64 2)])], 1⟩
theorem k218_ok : k218.ok Try.prog := runP_ok tab_ok 200 60 k218.g k218.args k218.h k218.k k218.r k218.h' k218.k' (by kernel_rfl)
def k221 : Known := ⟨76, [.ref 0 0 4 1 (some 4)], [(0, .cells [.v (.int .i64 3), .v (.int .i64 1), .v (.int .i64 2), .v (.int .i64 0)])], 1, .v (.int .i64 2), [(0, .cells [.v (.int .i64 3), .v (.int .i64 1), .v (.int .i64 2), .v (.int .i64 0)])], 1⟩
theorem k221_ok : k221.ok Try.prog := runP_ok tab_ok 200 60 k221.g k221.args k221.h k221.k k221.r k221.h' k221.k' (by kernel_rfl)
end
section
set_option maxRecDepth 1000000
def k201 : Known := ⟨76, [.ref 0 0 4 1 (some 4)], [(0, .cells [.v (.int .i64 0), .v (.int .i64 1), .v (.int .i64 3), .v (.int .i64 2)])], 1, .v (.int .i64 1), [(0, .cells [.v (.int .i64 0), .v (.int .i64 1), .v (.int .i64 3), .v (.int .i64 2)])], 1⟩
theorem k201_ok : k201.ok Try.prog := runP_ok tab_ok 200 60 k201.g k201.args k201.h k201.k k201.r k201.h' k201.k' (by kernel_rfl)
def k204 : Known := ⟨76, [.ref 0 0 4 1 (some 4)], [(0, .cells [.v (.int .i64 0), .v (.int .i64 3), .v (.int .i64 1), .v (.int .i64 2)])], 1, .v (.int .i64 1), [(0, .cells [.v (.int .i64 0), .v (.int .i64 3), .v (.int .i64 1), .v (.int .i64 2)])], 1⟩
theorem k204_ok : k204.ok Try.prog := runP_ok tab_ok 200 60 k204.g k204.args k204.h k204.k k204.r k204.h' k204.k' (by kernel_rfl)
def k207 : Known := ⟨76, [.ref 0 0 4 1 (some 4)], [(0, .cells [.v (.int .i64 1), .v (.int .i64 0), .v (.int .i64 3), .v (.int .i64 2)])], 1, .v (.int .i64 1), [(0, .cells [.v (.int .i64 1), .v (.int .i64 0), .v (.int .i64 3), .v (.int .i64 2)])], 1⟩
theorem k207_ok : k207.ok Try.prog := runP_ok tab_ok 200 60 k207.g k207.args k207.h k207.k k207.r k207.h' k207.k' (by kernel_rfl)
def k210 : Known := ⟨76, [.ref 0 0 4 1 (some 4)], [(0, .cells [.v (.int .i64 1), .v (.int .i64 3), .v (.int .i64 0), .v (.int .i64 2)])], 1, .v (.int .i64 2), [(0, .cells [.v (.int .i64 1), .v (.int .i64 3), .v (.int .i64 0), .v (.int .i64 2)])], 1⟩
theorem k210_ok : k210.ok Try.prog := runP_ok tab_ok 200 60 k210.g k210.args k210.h k210.k k210.r k210.h' k210.k' (by kernel_rfl)
def k213 : Known := ⟨76, [.ref 0 0 4 1 (some 4)], [(0, .cells [.v (.int .i64 2), .v (.int .i64 0), .v (.int .i64 3), .v (.int .i64 1)])], 1, .v (.int .i64 2), [(0, .cells [.v (.int .i64 2), .v (.int .i64 0), .v (.int .i64 3), .v (.int .i64 1)])], 1⟩
theorem k213_ok : k213.ok Try.prog := runP_ok tab_ok 200 60 k213.g k213.args k213.h k213.k k213.r k213.h' k213.k' (by kernel_rfl)
def k216 : Known := ⟨76, [.ref 0 0 4 1 (some 4)], [(0, .cells [.v (.int .i64 2), .v (.int .i64 3), .v (.int .i64 0), .v (.int .i64 1)])], 1, .v (.int .i64 2), [(0, .cells [.v (.int .i64 2), .v (.int .i64 3), .v (.int .i64 0), .v (.int .i64 1)])], 1⟩
theorem k216_ok : k216.ok Try.prog := runP_ok tab_ok 200 60 k216.g k216.args k216.h k216.k k216.r k216.h' k216.k' (by kernel_rfl)
def k219 : Known := ⟨76, [.ref 0 0 4 1 (some 4)], [(0, .cells [.v (.int .i64 3), .v (.int .i64 0), .v (.int .i64 2), .v (.int .i64 1)])], 1, .v (.int .i64 1), [(0, .cells [.v (.int .i64 3), .v (.int .i64 0), .v (.int .i64 2), .v (.int .i64 1)])], 1⟩
theorem k219_ok : k219.ok Try.prog := runP_ok tab_ok 200 60 k219.g k219.args k219.h k219.k k219.r k219.h' k219.k' (by kernel_rfl)
def k222 : Known := ⟨76, [.ref 0 0 4 1 (some 4)], [(0, .cells [.v (.int .i64 3), .v (.int .i64 2), .v (.int .i64 0), .v (.int .i64 1)])], 1, .v (.int .i64 1), [(0, .cells [.v (.int .i64 3), .v (.int .i64 2), .v (.int .i64 0), .v (.int .i64 1)])], 1⟩
theorem k222_ok : k222.ok Try.prog := runP_ok tab_ok 200 60 k222.g k222.args k222.h k222.k k222.r k222.h' k222.k' (by kernel_rfl)
end
section
set_option maxRecDepth 1000000
def k202 : Known := ⟨76, [.ref 0 0 4 1 (some 4)], [(0, .cells [.v (.int .i64 0), .v (.int .i64 2), .v (.int .i64 1), .v (.int .i64 3)])], 1, .v (.int .i64 1), [(0, .cells [.v (.int .i64 0), .v (.int .i64 2), .v (.int .i64 1), .v (.int .i64 3)])], 1⟩
theorem k202_ok : k202.ok Try.prog := runP_ok tab_ok 200 60 k202.g k202.args k202.h k202.k k202.r k202.h' k202.k' (by kernel_rfl)
def k205 : Known := ⟨76, [.ref 0 0 4 1 (some 4)], [(0, .cells [.v (.int .i64 0), .v (.int .i64 3), .v (.int .i64 2), .v (.int .i64 1)])], 1, .v (.int .i64 1), [(0, .cells [.v (.int .i64 0), .v (.int .i64 3), .v (.int .i64 2), .v (.int .i64 1)])], 1⟩
theorem k205_ok : k205.ok Try.prog := runP_ok tab_ok 200 60 k205.g k205.args k205.h k205.k k205.r k205.h' k205.k' (by kernel_rfl)
def k208 : Known := ⟨76, [.ref 0 0 4 1 (some 4)], [(0, .cells [.v (.int .i64 1), .v (.int .i64 2), .v (.int .i64 0), .v (.int .i64 3)])], 1, .v (.int .i64 2), [(0, .cells [.v (.int .i64 1), .v (.int .i64 2), .v (.int .i64 0), .v (.int .i64 3)])], 1⟩
theorem k208_ok : k208.ok Try.prog := runP_ok tab_ok 200 60 k208.g k208.args k208.h k208.k k208.r k208.h' k208.k' (by kernel_rfl)
def k211 : Known := ⟨76, [.ref 0 0 4 1 (some 4)], [(0, .cells [.v (.int .i64 1), .v (.int .i64 3), .v (.int .i64 2), .v (.int .i64 0)])], 1, .v (.int .i64 2), [(0, .cells [.v (.int .i64 1), .v (.int .i64 3), .v (.int .i64 2), .v (.int .i64 0)])], 1⟩
theorem k211_ok : k211.ok Try.prog := runP_ok tab_ok 200 60 k211.g k211.args k211.h k211.k k211.r k211.h' k211.k' (by kernel_rfl)
def k214 : Known := ⟨76, [.ref 0 0 4 1 (some 4)], [(0, .cells [.v (.int .i64 2), .v (.int .i64 1), .v (.int .i64 0), .v (.int .i64 3)])], 1, .v (.int .i64 1), [(0, .cells [.v (.int .i64 2), .v (.int .i64 1), .v (.int .i64 0), .v (.int .i64 3)])], 1⟩
theorem k214_ok : k214.ok Try.prog := runP_ok tab_ok 200 60 k214.g k214.args k214.h k214.k k214.r k214.h' k214.k' (by kernel_rfl)
def k217 : Known := ⟨76, [.ref 0 0 4 1 (some 4)], [(0, .cells [.v (.int .i64 2), .v (.int .i64 3), .v (.int .i64 1), .v (.int .i64 0)])], 1, .v (.int .i64 2), [(0, .cells [.v (.int .i64 2), .v (.int .i64 3), .v (.int .i64 1), .v (.int .i64 0)])], 1⟩
theorem k217_ok : k217.ok Try.prog := runP_ok tab_ok 200 60 k217.g k217.args k217.h k217.k k217.r k217.h' k217.k' (by kernel_rfl)
def k220 : Known := ⟨76, [.ref 0 0 4 1 (some 4)], [(0, .cells [.v (.int .i64 3), .v (.int .i64 1), .v (.int .i64 0), .v (.int .i64 2)])], 1, .v (.int .i64 1), [(0, .cells [.v (.int .i64 3), .v (.int .i64 1), .v (.int .i64 0), .v (.int .i64 2)])], 1⟩
theorem k220_ok : k220.ok Try.prog := runP_ok tab_ok 200 60 k220.g k220.args k220.h k220.k k220.r k220.h' k220.k' (by kernel_rfl)
def k223 : Known := ⟨76, [.ref 0 0 4 1 (some 4)], [(0, .cells [.v (.int .i64 3), .v (.int .i64 2), .v (.int .i64 1), .v (.int .i64 0)])], 1, .v (.int .i64 1), [(0, .cells [.v (.int .i64 3), .v (.int .i64 2), .v (.int .i64 1), .v (.int .i64 0)])], 1⟩
theorem k223_ok : k223.ok Try.prog := runP_ok tab_ok 200 60 k223.g k223.args k223.h k223.k k223.r k223.h' k223.k' (by kernel_rfl)
end
section
set_option maxRecDepth 1000000
def k1 : Known := ⟨18, [.ref 0 0 3 1 (some 3)], [(0, .cells [.v (.int .i64 2), .v (.int .i64 0), .v (.int .i64 1)])], 1, .tup [.v (.string (⟨#[105, 105, 111, 105, 111, 111]⟩ : ByteArray)), .v (.int .i64 0)], [(0, .cells [.v (.int .i64 2), .v (.int .i64 0), .v (.int .i64 1)])], 1⟩
theorem k1_ok : k1.ok Try.prog := runP_ok tab_ok 200 60 k1.g k1.args k1.h k1.k k1.r k1.h' k1.k' (by kernel_rfl)
def k4 : Known := ⟨25, [.ref 0 0 3 1 (some 3)], [(0, .cells [.v (.int .i64 2), .v (.int .i64 0), .v (.int .i64 1)])], 1, .tup [.v (.bool true), .v (.int .i64 0)], [(0, .cells [.v (.int .i64 2), .v (.int .i64 0), .v (.int .i64 1)])], 1⟩
theorem k4_ok : k4.ok Try.prog := runP_ok tab_ok 200 60 k4.g k4.args k4.h k4.k k4.r k4.h' k4.k' (by kernel_rfl)
def k7 : Known := ⟨33, [.v (.int .i64 4), .v (.int .i64 2)], [], 0, .tup [.v (.int .i64 22), .v (.int .i64 0)], [], 0⟩
theorem k7_ok : k7.ok Try.prog := runQ_ok (known_ok (ms := [k200, k201, k202, k203, k204, k205, k206, k207, k208, k209, k210, k211, k212, k213, k214, k215, k216, k217, k218, k219, k220, k221, k222, k223]) ⟨k200_ok, k201_ok, k202_ok, k203_ok, k204_ok, k205_ok, k206_ok, k207_ok, k208_ok, k209_ok, k210_ok, k211_ok, k212_ok, k213_ok, k214_ok, k215_ok, k216_ok, k217_ok, k218_ok, k219_ok, k220_ok, k221_ok, k222_ok, k223_ok, trivial⟩) tab_ok 200 60 k7.g k7.args k7.h k7.k k7.r k7.h' k7.k' (by kernel_rfl)
def k10 : Known := ⟨39, [.ref 0 0 3 1 (some 3)], [(0, .cells [.v (.int .i64 1), .v (.int .i64 2), .v (.int .i64 0)])], 1, .tup [.ref 1 0 3 1 none, .v (.int .i64 0)], [(0, .cells [.v (.int .i64 1), .v (.int .i64 2), .v (.int .i64 0)]), (1, .cells [.v (.int .i64 0), .v (.int .i64 1), .v (.int .i64 0)])], 2⟩
theorem k10_ok : k10.ok Try.prog := runP_ok tab_ok 200 60 k10.g k10.args k10.h k10.k k10.r k10.h' k10.k' (by kernel_rfl)
def k13 : Known := ⟨20, [.ref 0 0 3 1 (some 3), .v (.string (⟨#[105, 105]⟩ : ByteArray))], [(0, .cells [.v (.int .i64 2), .v (.int .i64 0), .v (.int .i64 1)])], 1, .tup [.v (.slice none 0 0), .v (.int .i64 21)], [(0, .cells [.v (.int .i64 2), .v (.int .i64 0), .v (.int .i64 1)])], 1⟩
theorem k13_ok : k13.ok Try.prog := runP_ok tab_ok 200 60 k13.g k13.args k13.h k13.k k13.r k13.h' k13.k' (by kernel_rfl)
end
section
set_option maxRecDepth 1000000
def k2 : Known := ⟨20, [.ref 0 0 3 1 (some 3), .v (.string (⟨#[105, 105, 105, 111, 111, 111]⟩ : ByteArray))], [(0, .cells [.v (.int .i64 2), .v (.int .i64 0), .v (.int .i64 1)])], 1, .tup [.ref 1 0 3 1 none, .v (.int .i64 0)], [(0, .cells [.v (.int .i64 2), .v (.int .i64 0), .v (.int .i64 1)]), (1, .cells [.v (.int .i64 1), .v (.int .i64 0), .v (.int .i64 2)])], 2⟩
theorem k2_ok : k2.ok Try.prog := runP_ok tab_ok 200 60 k2.g k2.args k2.h k2.k k2.r k2.h' k2.k' (by kernel_rfl)
def k5 : Known := ⟨27, [.ref 0 0 3 1 (some 3)], [(0, .cells [.v (.int .i64 1), .v (.int .i64 2), .v (.int .i64 0)])], 1, .tup [.v (.int .i64 0), .v (.int .i64 1), .v (.int .i64 2), .v (.int .i64 0)], [(0, .cells [.v (.int .i64 1), .v (.int .i64 2), .v (.int .i64 0)])], 1⟩
theorem k5_ok : k5.ok Try.prog := runP_ok tab_ok 200 60 k5.g k5.args k5.h k5.k k5.r k5.h' k5.k' (by kernel_rfl)
def k8 : Known := ⟨35, [.ref 0 0 3 1 (some 3)], [(0, .cells [.v (.int .i64 1), .v (.int .i64 2), .v (.int .i64 0)])], 1, .tup [.v (.string (⟨#[105, 105, 111, 105, 111, 111]⟩ : ByteArray)), .v (.int .i64 0)], [(0, .cells [.v (.int .i64 1), .v (.int .i64 2), .v (.int .i64 0)])], 1⟩
theorem k8_ok : k8.ok Try.prog := runP_ok tab_ok 200 60 k8.g k8.args k8.h k8.k k8.r k8.h' k8.k' (by kernel_rfl)
def k11 : Known := ⟨35, [.ref 0 0 3 1 (some 3)], [(0, .cells [.v (.int .i64 2), .v (.int .i64 0), .v (.int .i64 1)])], 1, .tup [.v (.string (⟨#[]⟩ : ByteArray)), .v (.int .i64 12)], [(0, .cells [.v (.int .i64 2), .v (.int .i64 0), .v (.int .i64 1)])], 1⟩
theorem k11_ok : k11.ok Try.prog := runP_ok tab_ok 200 60 k11.g k11.args k11.h k11.k k11.r k11.h' k11.k' (by kernel_rfl)
def k14 : Known := ⟨31, [.ref 0 0 3 1 (some 3), .v (.int .i64 0), .v (.int .i64 1), .v (.int .i64 2)], [(0, .cells [.v (.int .i64 1), .v (.int .i64 2), .v (.int .i64 0)])], 1, .v (.int .i64 0), [(0, .cells [.v (.int .i64 1), .v (.int .i64 2), .v (.int .i64 0)])], 1⟩
theorem k14_ok : k14.ok Try.prog := runP_ok tab_ok 200 60 k14.g k14.args k14.h k14.k k14.r k14.h' k14.k' (by kernel_rfl)
end
section
set_option maxRecDepth 1000000
def k100 : Known := ⟨15, [], [], 0, .v (.bool true), [], 0⟩
theorem k100_ok : k100.ok Try.prog := runQ_ok (known_ok (ms := [k0, k1, k2, k3, k4, k5, k6, k7, k8, k9, k10, k11, k12, k13, k14, k15]) ⟨k0_ok, k1_ok, k2_ok, k3_ok, k4_ok, k5_ok, k6_ok, k7_ok, k8_ok, k9_ok, k10_ok, k11_ok, k12_ok, k13_ok, k14_ok, k15_ok, trivial⟩) tab_ok 200 60 k100.g k100.args k100.h k100.k k100.r k100.h' k100.k' (by kernel_rfl)
end
end Go.Sx.Lk
