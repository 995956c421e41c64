/- The codes of the functions, written by a program (Gen.lean), and that they are the functions'. No conditions. -/
import Derived.Test.YtfiebjbhiflfpaaDoorSxN
import Derived.KernelRfl
import Derived.Test.YtfiebjbhiflfpaaDoorProg
set_option linter.unusedVariables false
set_option maxRecDepth 100000
namespace Go.Sx.Ch
open Go Go.Sx Go.Proofs

def c8_r0 : List SIns := [
  { dst := some 1, op := SOp.box (Operand.tmp 0), guard := none },
  { dst := some 2, op := SOp.mv (Operand.const (Value.bool false)), guard := none }]
def c8_r1 : List SIns := [
  { dst := some 21, op := SOp.loadN 18 (Operand.tmp 1), guard := none },
  { dst := some 22, op := SOp.call 49 [Operand.tmp 21, Operand.const (Value.int (IntKind.i64) 6)], guard := none },
  { dst := some 3, op := SOp.alloc [Value.slice none 0 0], guard := none },
  { dst := none, op := SOp.store 1 (Operand.tmp 3) (Operand.tmp 22), guard := none }]
def c8_r2 : List SIns := [
  { dst := some 23, op := SOp.off 0 (Operand.tmp 3), guard := none },
  { dst := some 24, op := SOp.load1 (Operand.tmp 23), guard := none },
  { dst := some 25, op := SOp.lenSl (Operand.tmp 24), guard := none },
  { dst := some 26, op := SOp.ib (BinOp.gtr) (Operand.tmp 25) (Operand.const (Value.int (IntKind.i64) 6)), guard := none }]
def c8_r3 : List SIns := [
  { dst := some 27, op := SOp.off 0 (Operand.tmp 3), guard := none },
  { dst := some 28, op := SOp.load1 (Operand.tmp 27), guard := none },
  { dst := some 29, op := SOp.lenSl (Operand.tmp 28), guard := none },
  { dst := some 4, op := SOp.mv (Operand.tmp 29), guard := none }]
def c8_r4 : List SIns := [
  { dst := some 30, op := SOp.off 0 (Operand.tmp 3), guard := none },
  { dst := some 31, op := SOp.load1 (Operand.tmp 30), guard := none },
  { dst := some 32, op := SOp.mv (Operand.tmp 4), guard := none },
  { dst := some 33, op := SOp.ib (BinOp.sub) (Operand.tmp 32) (Operand.const (Value.int (IntKind.i64) 2)), guard := none },
  { dst := some 34, op := SOp.mv (Operand.tmp 4), guard := none },
  { dst := some 35, op := SOp.ib (BinOp.sub) (Operand.tmp 34) (Operand.const (Value.int (IntKind.i64) 2)), guard := none },
  { dst := some 36, op := SOp.slc 1 (Operand.tmp 31) none (some (Operand.tmp 33)) (some (Operand.tmp 35)), guard := none },
  { dst := some 37, op := SOp.off 0 (Operand.tmp 3), guard := none },
  { dst := some 38, op := SOp.load1 (Operand.tmp 37), guard := none },
  { dst := some 39, op := SOp.mv (Operand.tmp 4), guard := none },
  { dst := some 40, op := SOp.ib (BinOp.sub) (Operand.tmp 39) (Operand.const (Value.int (IntKind.i64) 2)), guard := none },
  { dst := some 41, op := SOp.idx 1 (Operand.tmp 38) (Operand.tmp 40), guard := none },
  { dst := some 42, op := SOp.load1 (Operand.tmp 41), guard := none },
  { dst := some 43, op := SOp.call 50 [Operand.tmp 42], guard := none },
  { dst := some 44, op := SOp.off 0 (Operand.tmp 3), guard := none },
  { dst := some 45, op := SOp.load1 (Operand.tmp 44), guard := none },
  { dst := some 46, op := SOp.mv (Operand.tmp 4), guard := none },
  { dst := some 47, op := SOp.ib (BinOp.sub) (Operand.tmp 46) (Operand.const (Value.int (IntKind.i64) 1)), guard := none },
  { dst := some 48, op := SOp.idx 1 (Operand.tmp 45) (Operand.tmp 47), guard := none },
  { dst := some 49, op := SOp.load1 (Operand.tmp 48), guard := none },
  { dst := some 50, op := SOp.app 1 8 (Operand.tmp 43) (Operand.tmp 49), guard := none },
  { dst := some 51, op := SOp.mks 1 1 [Value.slice none 0 0] [(0, 1, Operand.tmp 50)], guard := none },
  { dst := some 52, op := SOp.app 1 24 (Operand.tmp 36) (Operand.tmp 51), guard := none },
  { dst := some 53, op := SOp.off 0 (Operand.tmp 3), guard := none },
  { dst := none, op := SOp.store 1 (Operand.tmp 53) (Operand.tmp 52), guard := none }]
def c8_l0 : SCode := (.seq (.seq (.reg c8_r2 [3, 26]) (.cond (Operand.tmp 26) .skip (.exit 0))) (.block 1 (.seq (.reg c8_r3 [3, 4]) (.draw c8_r4 [[], [0], [], [2], [], [4], [1, 3, 5, 0, 2, 4], [], [7], [], [9], [8, 10, 7, 9], [11, 8, 10, 7, 9], [12, 11, 8, 10, 7, 9], [], [14], [], [16], [15, 17, 14, 16], [18, 15, 17, 14, 16], [19, 13, 18, 15, 17, 14, 16, 12, 11, 8, 10, 7, 9], [20, 19, 13, 18, 15, 17, 14, 16, 12, 11, 8, 10, 7, 9], [6, 21, 1, 3, 5, 0, 2, 4, 20, 19, 13, 18, 15, 17, 14, 16, 12, 11, 8, 10, 7, 9], [22, 6, 21, 1, 3, 5, 0, 2, 4, 20, 19, 13, 18, 15, 17, 14, 16, 12, 11, 8, 10, 7, 9], [23, 22, 6, 21, 1, 3, 5, 0, 2, 4, 20, 19, 13, 18, 15, 17, 14, 16, 12, 11, 8, 10, 7, 9]] [3]))))
def c8_r5 : List SIns := [
  { dst := some 54, op := SOp.off 0 (Operand.tmp 3), guard := none },
  { dst := some 55, op := SOp.load1 (Operand.tmp 54), guard := none },
  { dst := some 56, op := SOp.lenSl (Operand.tmp 55), guard := none },
  { dst := some 5, op := SOp.mv (Operand.tmp 56), guard := none }]
def c8_r6 : List SIns := [
  { dst := some 58, op := SOp.loadN 1 (Operand.tmp 3), guard := none },
  { dst := some 59, op := SOp.call 26 [Operand.tmp 58], guard := none },
  { dst := some 57, op := SOp.mv (Operand.tmp 59), guard := none },
  { dst := some 60, op := SOp.ext (Operand.tmp 57) 0, guard := none },
  { dst := some 61, op := SOp.ext (Operand.tmp 57) 1, guard := none },
  { dst := some 6, op := SOp.mv (Operand.tmp 60), guard := none },
  { dst := some 7, op := SOp.mv (Operand.tmp 61), guard := none }]
def c8_r7 : List SIns := [
  { dst := some 63, op := SOp.loadN 1 (Operand.tmp 3), guard := none },
  { dst := some 64, op := SOp.call 28 [Operand.tmp 63], guard := none },
  { dst := some 62, op := SOp.mv (Operand.tmp 64), guard := none },
  { dst := some 65, op := SOp.ext (Operand.tmp 62) 0, guard := none },
  { dst := some 66, op := SOp.ext (Operand.tmp 62) 1, guard := none },
  { dst := some 8, op := SOp.mv (Operand.tmp 65), guard := none },
  { dst := some 9, op := SOp.mv (Operand.tmp 66), guard := none }]
def c8_r8 : List SIns := [
  { dst := some 67, op := SOp.loadN 1 (Operand.tmp 3), guard := none },
  { dst := some 68, op := SOp.call 51 [Operand.tmp 67], guard := none }]
def c8_r9 : List SIns := [
  { dst := some 69, op := SOp.mv (Operand.tmp 7), guard := none },
  { dst := some 70, op := SOp.ib (BinOp.eql) (Operand.tmp 69) (Operand.const (Value.int (IntKind.i64) 12)), guard := none },
  { dst := some 71, op := SOp.mv (Operand.tmp 70), guard := none },
  { dst := some 72, op := SOp.mv (Operand.tmp 9), guard := some (71, true) },
  { dst := some 73, op := SOp.ib (BinOp.eql) (Operand.tmp 72) (Operand.const (Value.int (IntKind.i64) 12)), guard := some (71, true) },
  { dst := some 74, op := SOp.pick (Operand.tmp 71) (Operand.tmp 73) (Operand.const (Value.bool false)), guard := none },
  { dst := some 75, op := SOp.mv (Operand.tmp 74), guard := none },
  { dst := some 76, op := SOp.mv (Operand.tmp 6), guard := some (75, true) },
  { dst := some 77, op := SOp.ib (BinOp.eql) (Operand.tmp 76) (Operand.const (Value.int (IntKind.i64) 0)), guard := some (75, true) },
  { dst := some 78, op := SOp.pick (Operand.tmp 75) (Operand.tmp 77) (Operand.const (Value.bool false)), guard := none },
  { dst := some 79, op := SOp.mv (Operand.tmp 78), guard := none },
  { dst := some 80, op := SOp.mv (Operand.tmp 8), guard := some (79, true) },
  { dst := some 81, op := SOp.lenSl (Operand.tmp 80), guard := some (79, true) },
  { dst := some 82, op := SOp.ib (BinOp.eql) (Operand.tmp 81) (Operand.const (Value.int (IntKind.i64) 0)), guard := some (79, true) },
  { dst := some 83, op := SOp.pick (Operand.tmp 79) (Operand.tmp 82) (Operand.const (Value.bool false)), guard := none },
  { dst := some 84, op := SOp.mv (Operand.tmp 83), guard := none },
  { dst := some 85, op := SOp.call 16 [], guard := some (84, true) },
  { dst := some 86, op := SOp.pick (Operand.tmp 84) (Operand.tmp 85) (Operand.const (Value.bool false)), guard := none },
  { dst := some 2, op := SOp.mv (Operand.tmp 86), guard := none }]
def c8_r10 : List SIns := [
  { dst := some 87, op := SOp.loadN 1 (Operand.tmp 3), guard := none },
  { dst := some 88, op := SOp.call 52 [Operand.tmp 87], guard := none },
  { dst := some 10, op := SOp.mv (Operand.tmp 88), guard := none }]
def c8_r11 : List SIns := [
  { dst := some 11, op := SOp.mv (Operand.const (Value.int (IntKind.i64) 0)), guard := none }]
def c8_r12 : List SIns := [
  { dst := some 89, op := SOp.mv (Operand.tmp 11), guard := none },
  { dst := some 90, op := SOp.mv (Operand.tmp 5), guard := none },
  { dst := some 91, op := SOp.ib (BinOp.leq) (Operand.tmp 89) (Operand.tmp 90), guard := none }]
def c8_r13 : List SIns := [
  { dst := some 12, op := SOp.mv (Operand.const (Value.int (IntKind.i64) 1)), guard := none }]
def c8_r14 : List SIns := [
  { dst := some 94, op := SOp.mv (Operand.tmp 5), guard := none },
  { dst := some 95, op := SOp.mv (Operand.const (Value.int (IntKind.i64) 0)), guard := none }]
def c8_r15 : List SIns := [
  { dst := some 96, op := SOp.ib (BinOp.lss) (Operand.tmp 95) (Operand.tmp 94), guard := none }]
def c8_r16 : List SIns := [
  { dst := some 97, op := SOp.mv (Operand.tmp 12), guard := none },
  { dst := some 98, op := SOp.mv (Operand.tmp 11), guard := none },
  { dst := some 99, op := SOp.ib (BinOp.mul) (Operand.tmp 97) (Operand.tmp 98), guard := none },
  { dst := some 12, op := SOp.mv (Operand.tmp 99), guard := none }]
def c8_r17 : List SIns := [
  { dst := some 100, op := SOp.ib (BinOp.add) (Operand.tmp 95) (Operand.const (Value.int (IntKind.i64) 1)), guard := none },
  { dst := some 95, op := SOp.mv (Operand.tmp 100), guard := none }]
def c8_l1 : SCode := (.seq (.reg c8_r15 [3, 5, 6, 7, 8, 9, 10, 11, 12, 94, 95, 96]) (.seq (.cond (Operand.tmp 96) .skip (.exit 4)) (.seq (.block 5 (.reg c8_r16 [3, 5, 6, 7, 8, 9, 10, 11, 12, 94, 95])) (.reg c8_r17 [3, 5, 6, 7, 8, 9, 10, 11, 12, 94, 95]))))
def c8_r18 : List SIns := [
  { dst := some 101, op := SOp.mv (Operand.tmp 12), guard := none },
  { dst := some 102, op := SOp.mv (Operand.const (Value.int (IntKind.i64) 0)), guard := none }]
def c8_r19 : List SIns := [
  { dst := some 103, op := SOp.ib (BinOp.lss) (Operand.tmp 102) (Operand.tmp 101), guard := none }]
def c8_r20 : List SIns := [
  { dst := some 104, op := SOp.mv (Operand.tmp 102), guard := none },
  { dst := some 13, op := SOp.mv (Operand.tmp 104), guard := none }]
def c8_r21 : List SIns := [
  { dst := some 105, op := SOp.mv (Operand.tmp 5), guard := none },
  { dst := some 106, op := SOp.mk 8 (Value.int (IntKind.i64) 0) (Operand.tmp 105) (Operand.tmp 105), guard := none },
  { dst := some 14, op := SOp.mv (Operand.tmp 106), guard := none }]
def c8_r22 : List SIns := [
  { dst := some 107, op := SOp.mv (Operand.tmp 5), guard := none },
  { dst := some 108, op := SOp.ib (BinOp.sub) (Operand.tmp 107) (Operand.const (Value.int (IntKind.i64) 1)), guard := none },
  { dst := some 15, op := SOp.mv (Operand.tmp 108), guard := none }]
def c8_r23 : List SIns := [
  { dst := some 109, op := SOp.mv (Operand.tmp 15), guard := none },
  { dst := some 110, op := SOp.ib (BinOp.geq) (Operand.tmp 109) (Operand.const (Value.int (IntKind.i64) 0)), guard := none }]
def c8_r24 : List SIns := [
  { dst := some 113, op := SOp.mv (Operand.tmp 14), guard := none },
  { dst := some 114, op := SOp.mv (Operand.tmp 15), guard := none },
  { dst := some 115, op := SOp.mv (Operand.tmp 13), guard := none },
  { dst := some 116, op := SOp.mv (Operand.tmp 11), guard := none },
  { dst := some 117, op := SOp.ib (BinOp.rem) (Operand.tmp 115) (Operand.tmp 116), guard := none },
  { dst := some 118, op := SOp.idx 1 (Operand.tmp 113) (Operand.tmp 114), guard := none },
  { dst := none, op := SOp.store 1 (Operand.tmp 118) (Operand.tmp 117), guard := none }]
def c8_r25 : List SIns := [
  { dst := some 119, op := SOp.mv (Operand.tmp 13), guard := none },
  { dst := some 120, op := SOp.mv (Operand.tmp 11), guard := none },
  { dst := some 121, op := SOp.ib (BinOp.quo) (Operand.tmp 119) (Operand.tmp 120), guard := none },
  { dst := some 13, op := SOp.mv (Operand.tmp 121), guard := none }]
def c8_r26 : List SIns := [
  { dst := some 111, op := SOp.mv (Operand.tmp 15), guard := none },
  { dst := some 112, op := SOp.ib (BinOp.sub) (Operand.tmp 111) (Operand.const (Value.int (IntKind.i64) 1)), guard := none },
  { dst := some 15, op := SOp.mv (Operand.tmp 112), guard := none }]
def c8_l2 : SCode := (.seq (.seq (.reg c8_r23 [3, 5, 6, 7, 8, 9, 10, 11, 13, 14, 15, 101, 102, 110]) (.cond (Operand.tmp 110) .skip (.exit 8))) (.seq (.block 9 (.seq (.reg c8_r24 [3, 5, 6, 7, 8, 9, 10, 11, 13, 14, 15, 101, 102]) (.reg c8_r25 [3, 5, 6, 7, 8, 9, 10, 11, 13, 14, 15, 101, 102]))) (.reg c8_r26 [3, 5, 6, 7, 8, 9, 10, 11, 13, 14, 15, 101, 102])))
def c8_r27 : List SIns := [
  { dst := some 16, op := SOp.mv (Operand.const (Value.bool true)), guard := none }]
def c8_r28 : List SIns := [
  { dst := some 122, op := SOp.mv (Operand.tmp 5), guard := none },
  { dst := some 123, op := SOp.mv (Operand.const (Value.int (IntKind.i64) 0)), guard := none }]
def c8_r29 : List SIns := [
  { dst := some 124, op := SOp.ib (BinOp.lss) (Operand.tmp 123) (Operand.tmp 122), guard := none }]
def c8_r30 : List SIns := [
  { dst := some 125, op := SOp.mv (Operand.tmp 123), guard := none },
  { dst := some 17, op := SOp.mv (Operand.tmp 125), guard := none }]
def c8_r31 : List SIns := [
  { dst := some 126, op := SOp.mv (Operand.tmp 17), guard := none },
  { dst := some 127, op := SOp.mv (Operand.const (Value.int (IntKind.i64) 0)), guard := none }]
def c8_r32 : List SIns := [
  { dst := some 128, op := SOp.ib (BinOp.lss) (Operand.tmp 127) (Operand.tmp 126), guard := none }]
def c8_r33 : List SIns := [
  { dst := some 129, op := SOp.mv (Operand.tmp 127), guard := none },
  { dst := some 18, op := SOp.mv (Operand.tmp 129), guard := none }]
def c8_r34 : List SIns := [
  { dst := some 130, op := SOp.mv (Operand.tmp 16), guard := none },
  { dst := some 131, op := SOp.mv (Operand.tmp 130), guard := none },
  { dst := some 132, op := SOp.mv (Operand.tmp 14), guard := some (131, true) },
  { dst := some 133, op := SOp.mv (Operand.tmp 17), guard := some (131, true) },
  { dst := some 134, op := SOp.idx 1 (Operand.tmp 132) (Operand.tmp 133), guard := some (131, true) },
  { dst := some 135, op := SOp.load1 (Operand.tmp 134), guard := some (131, true) },
  { dst := some 136, op := SOp.mv (Operand.tmp 14), guard := some (131, true) },
  { dst := some 137, op := SOp.mv (Operand.tmp 18), guard := some (131, true) },
  { dst := some 138, op := SOp.idx 1 (Operand.tmp 136) (Operand.tmp 137), guard := some (131, true) },
  { dst := some 139, op := SOp.load1 (Operand.tmp 138), guard := some (131, true) },
  { dst := some 140, op := SOp.ib (BinOp.eql) (Operand.tmp 135) (Operand.tmp 139), guard := some (131, true) },
  { dst := some 141, op := SOp.mv (Operand.tmp 140), guard := some (131, true) },
  { dst := some 142, op := SOp.mv (Operand.tmp 10), guard := some (141, true) },
  { dst := some 143, op := SOp.mv (Operand.tmp 17), guard := some (141, true) },
  { dst := some 144, op := SOp.idx 1 (Operand.tmp 142) (Operand.tmp 143), guard := some (141, true) },
  { dst := some 145, op := SOp.load1 (Operand.tmp 144), guard := some (141, true) },
  { dst := some 146, op := SOp.mv (Operand.tmp 18), guard := some (141, true) },
  { dst := some 147, op := SOp.bin (BinOp.shr) 65 (Operand.tmp 145) (Operand.tmp 146), guard := some (141, true) },
  { dst := some 148, op := SOp.bin (BinOp.and) 65 (Operand.tmp 147) (Operand.const (Value.int (IntKind.u32) 1)), guard := some (141, true) },
  { dst := some 149, op := SOp.ib (BinOp.eql) (Operand.tmp 148) (Operand.const (Value.int (IntKind.u32) 1)), guard := some (141, true) },
  { dst := some 150, op := SOp.pick (Operand.tmp 141) (Operand.tmp 149) (Operand.const (Value.bool false)), guard := some (131, true) },
  { dst := some 151, op := SOp.nt (Operand.tmp 150), guard := some (131, true) },
  { dst := some 152, op := SOp.pick (Operand.tmp 131) (Operand.tmp 151) (Operand.const (Value.bool false)), guard := none },
  { dst := some 16, op := SOp.mv (Operand.tmp 152), guard := none }]
def c8_r35 : List SIns := [
  { dst := some 153, op := SOp.ib (BinOp.add) (Operand.tmp 127) (Operand.const (Value.int (IntKind.i64) 1)), guard := none },
  { dst := some 127, op := SOp.mv (Operand.tmp 153), guard := none }]
def c8_l3 : SCode := (.seq (.reg c8_r32 [3, 5, 6, 7, 8, 9, 10, 11, 14, 16, 17, 101, 102, 122, 123, 126, 127, 128]) (.seq (.cond (Operand.tmp 128) .skip (.exit 12)) (.seq (.block 13 (.seq (.reg c8_r33 [3, 5, 6, 7, 8, 9, 10, 11, 14, 16, 17, 18, 101, 102, 122, 123, 126, 127]) (.draw c8_r34 [[], [0], [1, 0], [1, 0], [2, 3, 1, 0], [4, 2, 3, 1, 0], [1, 0], [1, 0], [6, 7, 1, 0], [8, 6, 7, 1, 0], [5, 9, 4, 2, 3, 8, 6, 7, 1, 0], [10, 5, 9, 4, 2, 3, 8, 6, 7, 1, 0], [11, 10, 5, 9, 4, 2, 3, 8, 6, 7, 1, 0], [11, 10, 5, 9, 4, 2, 3, 8, 6, 7, 1, 0], [12, 13, 11, 10, 5, 9, 4, 2, 3, 8, 6, 7, 1, 0], [14, 12, 13, 11, 10, 5, 9, 4, 2, 3, 8, 6, 7, 1, 0], [11, 10, 5, 9, 4, 2, 3, 8, 6, 7, 1, 0], [15, 16, 14, 12, 13, 11, 10, 5, 9, 4, 2, 3, 8, 6, 7, 1, 0], [17, 15, 16, 14, 12, 13, 11, 10, 5, 9, 4, 2, 3, 8, 6, 7, 1, 0], [18, 17, 15, 16, 14, 12, 13, 11, 10, 5, 9, 4, 2, 3, 8, 6, 7, 1, 0], [19, 18, 17, 15, 16, 14, 12, 13, 11, 10, 5, 9, 4, 2, 3, 8, 6, 7, 1, 0], [20, 19, 18, 17, 15, 16, 14, 12, 13, 11, 10, 5, 9, 4, 2, 3, 8, 6, 7, 1, 0], [21, 20, 19, 18, 17, 15, 16, 14, 12, 13, 11, 10, 5, 9, 4, 2, 3, 8, 6, 7, 1, 0], [22, 21, 20, 19, 18, 17, 15, 16, 14, 12, 13, 11, 10, 5, 9, 4, 2, 3, 8, 6, 7, 1, 0]] [3, 5, 6, 7, 8, 9, 10, 11, 14, 16, 17, 101, 102, 122, 123, 126, 127]))) (.reg c8_r35 [3, 5, 6, 7, 8, 9, 10, 11, 14, 16, 17, 101, 102, 122, 123, 126, 127]))))
def c8_r36 : List SIns := [
  { dst := some 154, op := SOp.ib (BinOp.add) (Operand.tmp 123) (Operand.const (Value.int (IntKind.i64) 1)), guard := none },
  { dst := some 123, op := SOp.mv (Operand.tmp 154), guard := none }]
def c8_l4 : SCode := (.seq (.reg c8_r29 [3, 5, 6, 7, 8, 9, 10, 11, 14, 16, 101, 102, 122, 123, 124]) (.seq (.cond (Operand.tmp 124) .skip (.exit 10)) (.seq (.block 11 (.seq (.reg c8_r30 [3, 5, 6, 7, 8, 9, 10, 11, 14, 16, 17, 101, 102, 122, 123]) (.seq (.reg c8_r31 [3, 5, 6, 7, 8, 9, 10, 11, 14, 16, 17, 101, 102, 122, 123, 126, 127]) (.block 12 (.loop c8_l3))))) (.reg c8_r36 [3, 5, 6, 7, 8, 9, 10, 11, 14, 16, 101, 102, 122, 123]))))
def c8_r37 : List SIns := [
  { dst := some 155, op := SOp.mv (Operand.tmp 16), guard := none },
  { dst := some 156, op := SOp.nt (Operand.tmp 155), guard := none }]
def c8_r38 : List SIns := [
  { dst := some 158, op := SOp.loadN 1 (Operand.tmp 3), guard := none },
  { dst := some 159, op := SOp.mv (Operand.tmp 14), guard := none },
  { dst := some 160, op := SOp.call 24 [Operand.tmp 158, Operand.tmp 159], guard := none },
  { dst := some 157, op := SOp.mv (Operand.tmp 160), guard := none },
  { dst := some 161, op := SOp.ext (Operand.tmp 157) 0, guard := none },
  { dst := some 162, op := SOp.ext (Operand.tmp 157) 1, guard := none },
  { dst := some 19, op := SOp.mv (Operand.tmp 161), guard := none },
  { dst := some 20, op := SOp.mv (Operand.tmp 162), guard := none }]
def c8_r39 : List SIns := [
  { dst := some 163, op := SOp.mv (Operand.tmp 7), guard := none },
  { dst := some 164, op := SOp.ib (BinOp.eql) (Operand.tmp 163) (Operand.const (Value.int (IntKind.i64) 0)), guard := none },
  { dst := some 165, op := SOp.mv (Operand.tmp 164), guard := none },
  { dst := some 166, op := SOp.mv (Operand.tmp 9), guard := some (165, true) },
  { dst := some 167, op := SOp.ib (BinOp.eql) (Operand.tmp 166) (Operand.const (Value.int (IntKind.i64) 0)), guard := some (165, true) },
  { dst := some 168, op := SOp.pick (Operand.tmp 165) (Operand.tmp 167) (Operand.const (Value.bool false)), guard := none },
  { dst := some 169, op := SOp.mv (Operand.tmp 168), guard := none },
  { dst := some 170, op := SOp.mv (Operand.tmp 20), guard := some (169, true) },
  { dst := some 171, op := SOp.ib (BinOp.eql) (Operand.tmp 170) (Operand.const (Value.int (IntKind.i64) 0)), guard := some (169, true) },
  { dst := some 172, op := SOp.pick (Operand.tmp 169) (Operand.tmp 171) (Operand.const (Value.bool false)), guard := none },
  { dst := some 173, op := SOp.mv (Operand.tmp 172), guard := none },
  { dst := some 174, op := SOp.mv (Operand.tmp 19), guard := some (173, true) },
  { dst := some 175, op := SOp.pick (Operand.tmp 173) (Operand.tmp 174) (Operand.const (Value.bool false)), guard := none },
  { dst := some 176, op := SOp.mv (Operand.tmp 175), guard := none },
  { dst := some 177, op := SOp.mv (Operand.tmp 6), guard := some (176, true) },
  { dst := some 178, op := SOp.mv (Operand.tmp 11), guard := some (176, true) },
  { dst := some 179, op := SOp.ib (BinOp.eql) (Operand.tmp 177) (Operand.tmp 178), guard := some (176, true) },
  { dst := some 180, op := SOp.pick (Operand.tmp 176) (Operand.tmp 179) (Operand.const (Value.bool false)), guard := none },
  { dst := some 181, op := SOp.mv (Operand.tmp 180), guard := none },
  { dst := some 182, op := SOp.mv (Operand.tmp 8), guard := some (181, true) },
  { dst := some 183, op := SOp.mv (Operand.tmp 14), guard := some (181, true) },
  { dst := some 184, op := SOp.call 30 [Operand.tmp 182, Operand.tmp 183], guard := some (181, true) },
  { dst := some 185, op := SOp.pick (Operand.tmp 181) (Operand.tmp 184) (Operand.const (Value.bool false)), guard := none },
  { dst := some 186, op := SOp.mv (Operand.tmp 185), guard := none },
  { dst := some 187, op := SOp.mv (Operand.tmp 11), guard := some (186, true) },
  { dst := some 188, op := SOp.ib (BinOp.leq) (Operand.tmp 187) (Operand.const (Value.int (IntKind.i64) 4)), guard := some (186, true) },
  { dst := some 189, op := SOp.mv (Operand.tmp 188), guard := some (186, true) },
  { dst := some 190, op := SOp.loadN 1 (Operand.tmp 3), guard := some (189, false) },
  { dst := some 191, op := SOp.call 53 [Operand.tmp 190], guard := some (189, false) },
  { dst := some 192, op := SOp.ib (BinOp.gtr) (Operand.tmp 191) (Operand.const (Value.int (IntKind.i64) 0)), guard := some (189, false) },
  { dst := some 193, op := SOp.pick (Operand.tmp 189) (Operand.const (Value.bool true)) (Operand.tmp 192), guard := some (186, true) },
  { dst := some 194, op := SOp.pick (Operand.tmp 186) (Operand.tmp 193) (Operand.const (Value.bool false)), guard := none },
  { dst := some 195, op := SOp.mv (Operand.tmp 194), guard := none },
  { dst := some 196, op := SOp.call 16 [], guard := some (195, true) },
  { dst := some 197, op := SOp.pick (Operand.tmp 195) (Operand.tmp 196) (Operand.const (Value.bool false)), guard := none },
  { dst := some 2, op := SOp.mv (Operand.tmp 197), guard := none }]
def c8_r40 : List SIns := [
  { dst := some 198, op := SOp.ib (BinOp.add) (Operand.tmp 102) (Operand.const (Value.int (IntKind.i64) 1)), guard := none },
  { dst := some 102, op := SOp.mv (Operand.tmp 198), guard := none }]
def c8_l5 : SCode := (.seq (.reg c8_r19 [3, 5, 6, 7, 8, 9, 10, 11, 101, 102, 103]) (.seq (.cond (Operand.tmp 103) .skip (.exit 6)) (.seq (.block 7 (.seq (.reg c8_r20 [3, 5, 6, 7, 8, 9, 10, 11, 13, 101, 102]) (.seq (.reg c8_r21 [3, 5, 6, 7, 8, 9, 10, 11, 13, 14, 101, 102]) (.seq (.seq (.reg c8_r22 [3, 5, 6, 7, 8, 9, 10, 11, 13, 14, 15, 101, 102]) (.block 8 (.loop c8_l2))) (.seq (.reg c8_r27 [3, 5, 6, 7, 8, 9, 10, 11, 14, 16, 101, 102]) (.seq (.seq (.reg c8_r28 [3, 5, 6, 7, 8, 9, 10, 11, 14, 16, 101, 102, 122, 123]) (.block 10 (.loop c8_l4))) (.seq (.seq (.reg c8_r37 [3, 5, 6, 7, 8, 9, 10, 11, 14, 101, 102, 156]) (.cond (Operand.tmp 156) (.exit 7) .skip)) (.seq (.reg c8_r38 [3, 6, 7, 8, 9, 11, 14, 19, 20]) (.seq (.reg c8_r39 [2]) .ret))))))))) (.reg c8_r40 [3, 5, 6, 7, 8, 9, 10, 11, 101, 102]))))
def c8_r41 : List SIns := [
  { dst := some 92, op := SOp.mv (Operand.tmp 11), guard := none },
  { dst := some 93, op := SOp.ib (BinOp.add) (Operand.tmp 92) (Operand.const (Value.int (IntKind.i64) 1)), guard := none },
  { dst := some 11, op := SOp.mv (Operand.tmp 93), guard := none }]
def c8_l6 : SCode := (.seq (.seq (.reg c8_r12 [3, 5, 6, 7, 8, 9, 10, 11, 91]) (.cond (Operand.tmp 91) .skip (.exit 2))) (.seq (.block 3 (.seq (.reg c8_r13 [3, 5, 6, 7, 8, 9, 10, 11, 12]) (.seq (.seq (.reg c8_r14 [3, 5, 6, 7, 8, 9, 10, 11, 12, 94, 95]) (.block 4 (.loop c8_l1))) (.seq (.reg c8_r18 [3, 5, 6, 7, 8, 9, 10, 11, 101, 102]) (.block 6 (.loop c8_l5)))))) (.reg c8_r41 [3, 5, 6, 7, 8, 9, 10, 11])))
def c8_r42 : List SIns := [
  { dst := some 2, op := SOp.mv (Operand.const (Value.bool false)), guard := none }]
def c8 : SCode := (.seq (.reg c8_r0 [1]) (.seq (.reg c8_r1 [3]) (.seq (.block 0 (.loop c8_l0)) (.seq (.reg c8_r5 [3, 5]) (.seq (.reg c8_r6 [3, 5, 6, 7]) (.seq (.reg c8_r7 [3, 5, 6, 7, 8, 9]) (.seq (.seq (.reg c8_r8 [3, 5, 6, 7, 8, 9, 68]) (.cond (Operand.tmp 68) (.seq (.reg c8_r9 [2]) .ret) .skip)) (.seq (.reg c8_r10 [3, 5, 6, 7, 8, 9, 10]) (.seq (.seq (.reg c8_r11 [3, 5, 6, 7, 8, 9, 10, 11]) (.block 2 (.loop c8_l6))) (.seq (.reg c8_r42 [2]) .ret))))))))))
theorem F8 : Fn Tryd.prog 8 c8 [SRes.tmp 2] 199 := ⟨Tryd.f8, Tryd.f8.body.getD .skip, [[1], [3], [3, 26], [3, 4], [3], [3, 5], [3, 5, 6, 7], [3, 5, 6, 7, 8, 9], [3, 5, 6, 7, 8, 9, 68], [2], [3, 5, 6, 7, 8, 9, 10], [3, 5, 6, 7, 8, 9, 10, 11], [3, 5, 6, 7, 8, 9, 10, 11, 91], [3, 5, 6, 7, 8, 9, 10, 11, 12], [3, 5, 6, 7, 8, 9, 10, 11, 12, 94, 95], [3, 5, 6, 7, 8, 9, 10, 11, 12, 94, 95, 96], [3, 5, 6, 7, 8, 9, 10, 11, 12, 94, 95], [3, 5, 6, 7, 8, 9, 10, 11, 12, 94, 95], [3, 5, 6, 7, 8, 9, 10, 11, 101, 102], [3, 5, 6, 7, 8, 9, 10, 11, 101, 102, 103], [3, 5, 6, 7, 8, 9, 10, 11, 13, 101, 102], [3, 5, 6, 7, 8, 9, 10, 11, 13, 14, 101, 102], [3, 5, 6, 7, 8, 9, 10, 11, 13, 14, 15, 101, 102], [3, 5, 6, 7, 8, 9, 10, 11, 13, 14, 15, 101, 102, 110], [3, 5, 6, 7, 8, 9, 10, 11, 13, 14, 15, 101, 102], [3, 5, 6, 7, 8, 9, 10, 11, 13, 14, 15, 101, 102], [3, 5, 6, 7, 8, 9, 10, 11, 13, 14, 15, 101, 102], [3, 5, 6, 7, 8, 9, 10, 11, 14, 16, 101, 102], [3, 5, 6, 7, 8, 9, 10, 11, 14, 16, 101, 102, 122, 123], [3, 5, 6, 7, 8, 9, 10, 11, 14, 16, 101, 102, 122, 123, 124], [3, 5, 6, 7, 8, 9, 10, 11, 14, 16, 17, 101, 102, 122, 123], [3, 5, 6, 7, 8, 9, 10, 11, 14, 16, 17, 101, 102, 122, 123, 126, 127], [3, 5, 6, 7, 8, 9, 10, 11, 14, 16, 17, 101, 102, 122, 123, 126, 127, 128], [3, 5, 6, 7, 8, 9, 10, 11, 14, 16, 17, 18, 101, 102, 122, 123, 126, 127], [3, 5, 6, 7, 8, 9, 10, 11, 14, 16, 17, 101, 102, 122, 123, 126, 127], [3, 5, 6, 7, 8, 9, 10, 11, 14, 16, 17, 101, 102, 122, 123, 126, 127], [3, 5, 6, 7, 8, 9, 10, 11, 14, 16, 101, 102, 122, 123], [3, 5, 6, 7, 8, 9, 10, 11, 14, 101, 102, 156], [3, 6, 7, 8, 9, 11, 14, 19, 20], [2], [3, 5, 6, 7, 8, 9, 10, 11, 101, 102], [3, 5, 6, 7, 8, 9, 10, 11], [2]], Tryd.func8, by kernel_rfl, by kernel_rfl, by kernel_rfl, by kernel_rfl, by decide⟩

def c49_r0 : List SIns := [
  { dst := some 2, op := SOp.box (Operand.tmp 0), guard := none },
  { dst := some 4, op := SOp.alloc [Value.slice none 0 0], guard := none }]
def c49_r1 : List SIns := [
  { dst := some 12, op := SOp.off 0 (Operand.tmp 2), guard := none },
  { dst := some 13, op := SOp.load1 (Operand.tmp 12), guard := none },
  { dst := some 14, op := SOp.ci (IntKind.i64) (Operand.tmp 13), guard := none },
  { dst := some 15, op := SOp.mv (Operand.tmp 1), guard := none },
  { dst := some 16, op := SOp.ib (BinOp.add) (Operand.tmp 15) (Operand.const (Value.int (IntKind.i64) 1)), guard := none },
  { dst := some 17, op := SOp.ib (BinOp.rem) (Operand.tmp 14) (Operand.tmp 16), guard := none },
  { dst := some 18, op := SOp.ib (BinOp.mul) (Operand.const (Value.int (IntKind.i64) 2)) (Operand.tmp 17), guard := none },
  { dst := some 5, op := SOp.mv (Operand.tmp 18), guard := none }]
def c49_r2 : List SIns := [
  { dst := some 6, op := SOp.mv (Operand.const (Value.slice none 0 0)), guard := none }]
def c49_r3 : List SIns := [
  { dst := some 19, op := SOp.mv (Operand.tmp 5), guard := none },
  { dst := some 20, op := SOp.mv (Operand.const (Value.int (IntKind.i64) 0)), guard := none }]
def c49_r4 : List SIns := [
  { dst := some 21, op := SOp.ib (BinOp.lss) (Operand.tmp 20) (Operand.tmp 19), guard := none }]
def c49_r5 : List SIns := [
  { dst := some 22, op := SOp.mv (Operand.tmp 20), guard := none },
  { dst := some 7, op := SOp.mv (Operand.tmp 22), guard := none }]
def c49_r6 : List SIns := [
  { dst := some 23, op := SOp.mv (Operand.tmp 6), guard := none },
  { dst := some 24, op := SOp.mv (Operand.tmp 7), guard := none },
  { dst := some 25, op := SOp.mks 1 1 [Value.int (IntKind.i64) 0] [(0, 1, Operand.tmp 24)], guard := none },
  { dst := some 26, op := SOp.app 1 8 (Operand.tmp 23) (Operand.tmp 25), guard := none },
  { dst := some 6, op := SOp.mv (Operand.tmp 26), guard := none }]
def c49_r7 : List SIns := [
  { dst := some 27, op := SOp.ib (BinOp.add) (Operand.tmp 20) (Operand.const (Value.int (IntKind.i64) 1)), guard := none },
  { dst := some 20, op := SOp.mv (Operand.tmp 27), guard := none }]
def c49_l0 : SCode := (.seq (.reg c49_r4 [2, 4, 5, 6, 19, 20, 21]) (.seq (.cond (Operand.tmp 21) .skip (.exit 0)) (.seq (.block 1 (.seq (.reg c49_r5 [2, 4, 5, 6, 7, 19, 20]) (.reg c49_r6 [2, 4, 5, 6, 19, 20]))) (.reg c49_r7 [2, 4, 5, 6, 19, 20]))))
def c49_r8 : List SIns := [
  { dst := some 8, op := SOp.alloc [Value.slice none 0 0], guard := none }]
def c49_r9 : List SIns := [
  { dst := some 28, op := SOp.mv (Operand.tmp 5), guard := none },
  { dst := some 29, op := SOp.mv (Operand.const (Value.int (IntKind.i64) 0)), guard := none }]
def c49_r10 : List SIns := [
  { dst := some 30, op := SOp.ib (BinOp.lss) (Operand.tmp 29) (Operand.tmp 28), guard := none }]
def c49_r11 : List SIns := [
  { dst := some 31, op := SOp.mv (Operand.tmp 29), guard := none },
  { dst := some 9, op := SOp.mv (Operand.tmp 31), guard := none }]
def c49_r12 : List SIns := [
  { dst := some 32, op := SOp.mv (Operand.tmp 9), guard := none },
  { dst := some 33, op := SOp.off 1 (Operand.tmp 2), guard := none },
  { dst := some 34, op := SOp.idxA 16 1 (Operand.tmp 33) (Operand.tmp 32), guard := none },
  { dst := some 35, op := SOp.load1 (Operand.tmp 34), guard := none },
  { dst := some 36, op := SOp.ci (IntKind.i64) (Operand.tmp 35), guard := none },
  { dst := some 37, op := SOp.mv (Operand.tmp 6), guard := none },
  { dst := some 38, op := SOp.lenSl (Operand.tmp 37), guard := none },
  { dst := some 39, op := SOp.ib (BinOp.rem) (Operand.tmp 36) (Operand.tmp 38), guard := none },
  { dst := some 10, op := SOp.mv (Operand.tmp 39), guard := none }]
def c49_r13 : List SIns := [
  { dst := some 40, op := SOp.mv (Operand.tmp 9), guard := none },
  { dst := some 41, op := SOp.ib (BinOp.eql) (Operand.tmp 40) (Operand.const (Value.int (IntKind.i64) 0)), guard := none },
  { dst := some 42, op := SOp.mv (Operand.tmp 41), guard := none },
  { dst := some 43, op := SOp.off 17 (Operand.tmp 2), guard := some (42, false) },
  { dst := some 44, op := SOp.load1 (Operand.tmp 43), guard := some (42, false) },
  { dst := some 45, op := SOp.mv (Operand.tmp 9), guard := some (42, false) },
  { dst := some 46, op := SOp.bin (BinOp.shr) 58 (Operand.tmp 44) (Operand.tmp 45), guard := some (42, false) },
  { dst := some 47, op := SOp.bin (BinOp.and) 58 (Operand.tmp 46) (Operand.const (Value.int (IntKind.u16) 1)), guard := some (42, false) },
  { dst := some 48, op := SOp.ib (BinOp.eql) (Operand.tmp 47) (Operand.const (Value.int (IntKind.u16) 1)), guard := some (42, false) },
  { dst := some 49, op := SOp.pick (Operand.tmp 42) (Operand.const (Value.bool true)) (Operand.tmp 48), guard := none }]
def c49_r14 : List SIns := [
  { dst := some 50, op := SOp.off 0 (Operand.tmp 8), guard := none },
  { dst := some 51, op := SOp.load1 (Operand.tmp 50), guard := none },
  { dst := some 52, op := SOp.mks 1 1 [Value.slice none 0 0] [(0, 1, Operand.const (Value.slice none 0 0))], guard := none },
  { dst := some 53, op := SOp.app 1 24 (Operand.tmp 51) (Operand.tmp 52), guard := none },
  { dst := some 54, op := SOp.off 0 (Operand.tmp 8), guard := none },
  { dst := none, op := SOp.store 1 (Operand.tmp 54) (Operand.tmp 53), guard := none }]
def c49_r15 : List SIns := [
  { dst := some 55, op := SOp.off 0 (Operand.tmp 8), guard := none },
  { dst := some 56, op := SOp.load1 (Operand.tmp 55), guard := none },
  { dst := some 57, op := SOp.lenSl (Operand.tmp 56), guard := none },
  { dst := some 58, op := SOp.ib (BinOp.sub) (Operand.tmp 57) (Operand.const (Value.int (IntKind.i64) 1)), guard := none },
  { dst := some 11, op := SOp.mv (Operand.tmp 58), guard := none }]
def c49_r16 : List SIns := [
  { dst := some 59, op := SOp.off 0 (Operand.tmp 8), guard := none },
  { dst := some 60, op := SOp.load1 (Operand.tmp 59), guard := none },
  { dst := some 61, op := SOp.mv (Operand.tmp 11), guard := none },
  { dst := some 62, op := SOp.off 0 (Operand.tmp 8), guard := none },
  { dst := some 63, op := SOp.load1 (Operand.tmp 62), guard := none },
  { dst := some 64, op := SOp.mv (Operand.tmp 11), guard := none },
  { dst := some 65, op := SOp.idx 1 (Operand.tmp 63) (Operand.tmp 64), guard := none },
  { dst := some 66, op := SOp.load1 (Operand.tmp 65), guard := none },
  { dst := some 67, op := SOp.mv (Operand.tmp 6), guard := none },
  { dst := some 68, op := SOp.mv (Operand.tmp 10), guard := none },
  { dst := some 69, op := SOp.idx 1 (Operand.tmp 67) (Operand.tmp 68), guard := none },
  { dst := some 70, op := SOp.load1 (Operand.tmp 69), guard := none },
  { dst := some 71, op := SOp.mks 1 1 [Value.int (IntKind.i64) 0] [(0, 1, Operand.tmp 70)], guard := none },
  { dst := some 72, op := SOp.app 1 8 (Operand.tmp 66) (Operand.tmp 71), guard := none },
  { dst := some 73, op := SOp.idx 1 (Operand.tmp 60) (Operand.tmp 61), guard := none },
  { dst := none, op := SOp.store 1 (Operand.tmp 73) (Operand.tmp 72), guard := none }]
def c49_r17 : List SIns := [
  { dst := some 74, op := SOp.mv (Operand.tmp 6), guard := none },
  { dst := some 75, op := SOp.mv (Operand.tmp 10), guard := none },
  { dst := some 76, op := SOp.mv (Operand.tmp 10), guard := none },
  { dst := some 77, op := SOp.ib (BinOp.add) (Operand.tmp 76) (Operand.const (Value.int (IntKind.i64) 1)), guard := none },
  { dst := some 78, op := SOp.call 89 [Operand.tmp 74, Operand.tmp 75, Operand.tmp 77], guard := none },
  { dst := some 6, op := SOp.mv (Operand.tmp 78), guard := none }]
def c49_r18 : List SIns := [
  { dst := some 79, op := SOp.ib (BinOp.add) (Operand.tmp 29) (Operand.const (Value.int (IntKind.i64) 1)), guard := none },
  { dst := some 29, op := SOp.mv (Operand.tmp 79), guard := none }]
def c49_l1 : SCode := (.seq (.reg c49_r10 [2, 4, 6, 8, 28, 29, 30]) (.seq (.cond (Operand.tmp 30) .skip (.exit 2)) (.seq (.block 3 (.seq (.reg c49_r11 [2, 4, 6, 8, 9, 28, 29]) (.seq (.reg c49_r12 [2, 4, 6, 8, 9, 10, 28, 29]) (.seq (.seq (.reg c49_r13 [2, 4, 6, 8, 10, 28, 29, 49]) (.cond (Operand.tmp 49) (.reg c49_r14 [2, 4, 6, 8, 10, 28, 29]) .skip)) (.seq (.reg c49_r15 [2, 4, 6, 8, 10, 11, 28, 29]) (.seq (.draw c49_r16 [[], [0], [], [], [3], [], [4, 5, 3], [6, 4, 5, 3], [], [], [8, 9], [10, 8, 9], [11, 10, 8, 9], [7, 12, 6, 4, 5, 3, 11, 10, 8, 9], [1, 2, 13, 0, 7, 12, 6, 4, 5, 3, 11, 10, 8, 9], [14, 1, 2, 13, 0, 7, 12, 6, 4, 5, 3, 11, 10, 8, 9]] [2, 4, 6, 8, 10, 28, 29]) (.reg c49_r17 [2, 4, 6, 8, 28, 29]))))))) (.reg c49_r18 [2, 4, 6, 8, 28, 29]))))
def c49_r19 : List SIns := [
  { dst := some 80, op := SOp.loadN 1 (Operand.tmp 8), guard := none },
  { dst := none, op := SOp.store 1 (Operand.tmp 4) (Operand.tmp 80), guard := none }]
def c49 : SCode := (.seq (.reg c49_r0 [1, 2, 4]) (.seq (.reg c49_r1 [2, 4, 5]) (.seq (.reg c49_r2 [2, 4, 5, 6]) (.seq (.seq (.reg c49_r3 [2, 4, 5, 6, 19, 20]) (.block 0 (.loop c49_l0))) (.seq (.reg c49_r8 [2, 4, 5, 6, 8]) (.seq (.seq (.reg c49_r9 [2, 4, 6, 8, 28, 29]) (.block 2 (.loop c49_l1))) (.seq (.reg c49_r19 [4]) .ret)))))))
theorem F49 : Fn Tryd.prog 49 c49 [SRes.cell 4 (some 1)] 81 := ⟨Tryd.f49, Tryd.f49.body.getD .skip, [[1, 2, 4], [2, 4, 5], [2, 4, 5, 6], [2, 4, 5, 6, 19, 20], [2, 4, 5, 6, 19, 20, 21], [2, 4, 5, 6, 7, 19, 20], [2, 4, 5, 6, 19, 20], [2, 4, 5, 6, 19, 20], [2, 4, 5, 6, 8], [2, 4, 6, 8, 28, 29], [2, 4, 6, 8, 28, 29, 30], [2, 4, 6, 8, 9, 28, 29], [2, 4, 6, 8, 9, 10, 28, 29], [2, 4, 6, 8, 10, 28, 29, 49], [2, 4, 6, 8, 10, 28, 29], [2, 4, 6, 8, 10, 11, 28, 29], [2, 4, 6, 8, 10, 28, 29], [2, 4, 6, 8, 28, 29], [2, 4, 6, 8, 28, 29], [4]], Tryd.func49, by kernel_rfl, by kernel_rfl, by kernel_rfl, by kernel_rfl, by decide⟩

def c50_r0 : List SIns := [
  { dst := some 2, op := SOp.mv (Operand.const (Value.slice none 0 0)), guard := none }]
def c50_r1 : List SIns := [
  { dst := some 3, op := SOp.mv (Operand.tmp 0), guard := none },
  { dst := some 4, op := SOp.eqn false (TypeDesc.slice 3) (Operand.tmp 3), guard := none }]
def c50_r2 : List SIns := [
  { dst := some 2, op := SOp.mv (Operand.const (Value.slice none 0 0)), guard := none }]
def c50_r3 : List SIns := [
  { dst := some 5, op := SOp.mks0 1, guard := none },
  { dst := some 6, op := SOp.mv (Operand.tmp 0), guard := none },
  { dst := some 7, op := SOp.app 1 8 (Operand.tmp 5) (Operand.tmp 6), guard := none },
  { dst := some 2, op := SOp.mv (Operand.tmp 7), guard := none }]
def c50 : SCode := (.seq (.reg c50_r0 [0]) (.seq (.seq (.reg c50_r1 [0, 4]) (.cond (Operand.tmp 4) (.seq (.reg c50_r2 [2]) .ret) .skip)) (.seq (.reg c50_r3 [2]) .ret)))
theorem F50 : Fn Tryd.prog 50 c50 [SRes.tmp 2] 8 := ⟨Tryd.f50, Tryd.f50.body.getD .skip, [[0], [0, 4], [2], [2]], Tryd.func50, by kernel_rfl, by kernel_rfl, by kernel_rfl, by kernel_rfl, by decide⟩

def c51_r0 : List SIns := [
  { dst := some 1, op := SOp.box (Operand.tmp 0), guard := none },
  { dst := some 2, op := SOp.mv (Operand.const (Value.bool false)), guard := none }]
def c51_r1 : List SIns := [
  { dst := some 5, op := SOp.loadN 1 (Operand.tmp 1), guard := none },
  { dst := some 6, op := SOp.call 52 [Operand.tmp 5], guard := none },
  { dst := some 7, op := SOp.lenSl (Operand.tmp 6), guard := none },
  { dst := some 8, op := SOp.mv (Operand.const (Value.int (IntKind.i64) 0)), guard := none }]
def c51_r2 : List SIns := [
  { dst := some 9, op := SOp.ib (BinOp.lss) (Operand.tmp 8) (Operand.tmp 7), guard := none }]
def c51_r3 : List SIns := [
  { dst := some 10, op := SOp.mv (Operand.tmp 8), guard := none },
  { dst := some 11, op := SOp.idx 1 (Operand.tmp 6) (Operand.tmp 8), guard := none },
  { dst := some 12, op := SOp.load1 (Operand.tmp 11), guard := none },
  { dst := some 3, op := SOp.mv (Operand.tmp 10), guard := none },
  { dst := some 4, op := SOp.mv (Operand.tmp 12), guard := none }]
def c51_r4 : List SIns := [
  { dst := some 13, op := SOp.mv (Operand.tmp 4), guard := none },
  { dst := some 14, op := SOp.mv (Operand.tmp 3), guard := none },
  { dst := some 15, op := SOp.bin (BinOp.shr) 65 (Operand.tmp 13) (Operand.tmp 14), guard := none },
  { dst := some 16, op := SOp.bin (BinOp.and) 65 (Operand.tmp 15) (Operand.const (Value.int (IntKind.u32) 1)), guard := none },
  { dst := some 17, op := SOp.ib (BinOp.eql) (Operand.tmp 16) (Operand.const (Value.int (IntKind.u32) 1)), guard := none }]
def c51_r5 : List SIns := [
  { dst := some 2, op := SOp.mv (Operand.const (Value.bool true)), guard := none }]
def c51_r6 : List SIns := [
  { dst := some 18, op := SOp.ib (BinOp.add) (Operand.tmp 8) (Operand.const (Value.int (IntKind.i64) 1)), guard := none },
  { dst := some 8, op := SOp.mv (Operand.tmp 18), guard := none }]
def c51_l0 : SCode := (.seq (.reg c51_r2 [6, 7, 8, 9]) (.seq (.cond (Operand.tmp 9) .skip (.exit 0)) (.seq (.block 1 (.seq (.reg c51_r3 [3, 4, 6, 7, 8]) (.seq (.reg c51_r4 [6, 7, 8, 17]) (.cond (Operand.tmp 17) (.seq (.reg c51_r5 [2]) .ret) .skip)))) (.reg c51_r6 [6, 7, 8]))))
def c51_r7 : List SIns := [
  { dst := some 2, op := SOp.mv (Operand.const (Value.bool false)), guard := none }]
def c51 : SCode := (.seq (.reg c51_r0 [1]) (.seq (.seq (.reg c51_r1 [6, 7, 8]) (.block 0 (.loop c51_l0))) (.seq (.reg c51_r7 [2]) .ret)))
theorem F51 : Fn Tryd.prog 51 c51 [SRes.tmp 2] 19 := ⟨Tryd.f51, Tryd.f51.body.getD .skip, [[1], [6, 7, 8], [6, 7, 8, 9], [3, 4, 6, 7, 8], [6, 7, 8, 17], [2], [6, 7, 8], [2]], Tryd.func51, by kernel_rfl, by kernel_rfl, by kernel_rfl, by kernel_rfl, by decide⟩

def c52_r0 : List SIns := [
  { dst := some 1, op := SOp.box (Operand.tmp 0), guard := none },
  { dst := some 2, op := SOp.mv (Operand.const (Value.slice none 0 0)), guard := none }]
def c52_r1 : List SIns := [
  { dst := some 9, op := SOp.loadN 1 (Operand.tmp 1), guard := none },
  { dst := some 10, op := SOp.call 90 [Operand.tmp 9], guard := none },
  { dst := some 8, op := SOp.mv (Operand.tmp 10), guard := none },
  { dst := some 11, op := SOp.ext (Operand.tmp 8) 0, guard := none },
  { dst := some 12, op := SOp.ext (Operand.tmp 8) 1, guard := none },
  { dst := some 3, op := SOp.mv (Operand.tmp 11), guard := none },
  { dst := some 4, op := SOp.mv (Operand.tmp 12), guard := none }]
def c52_r2 : List SIns := [
  { dst := some 13, op := SOp.off 0 (Operand.tmp 1), guard := none },
  { dst := some 14, op := SOp.load1 (Operand.tmp 13), guard := none },
  { dst := some 15, op := SOp.lenSl (Operand.tmp 14), guard := none },
  { dst := some 16, op := SOp.mk 4 (Value.int (IntKind.u32) 0) (Operand.tmp 15) (Operand.tmp 15), guard := none },
  { dst := some 5, op := SOp.mv (Operand.tmp 16), guard := none }]
def c52_r3 : List SIns := [
  { dst := some 17, op := SOp.mv (Operand.tmp 4), guard := none },
  { dst := some 18, op := SOp.lenSl (Operand.tmp 17), guard := none },
  { dst := some 19, op := SOp.mv (Operand.const (Value.int (IntKind.i64) 0)), guard := none }]
def c52_r4 : List SIns := [
  { dst := some 20, op := SOp.ib (BinOp.lss) (Operand.tmp 19) (Operand.tmp 18), guard := none }]
def c52_r5 : List SIns := [
  { dst := some 21, op := SOp.mv (Operand.tmp 19), guard := none },
  { dst := some 22, op := SOp.idx 1 (Operand.tmp 17) (Operand.tmp 19), guard := none },
  { dst := some 23, op := SOp.load1 (Operand.tmp 22), guard := none },
  { dst := some 6, op := SOp.mv (Operand.tmp 21), guard := none },
  { dst := some 7, op := SOp.mv (Operand.tmp 23), guard := none }]
def c52_r6 : List SIns := [
  { dst := some 24, op := SOp.mv (Operand.tmp 5), guard := none },
  { dst := some 25, op := SOp.mv (Operand.tmp 7), guard := none },
  { dst := some 26, op := SOp.idx 1 (Operand.tmp 24) (Operand.tmp 25), guard := none },
  { dst := some 27, op := SOp.load1 (Operand.tmp 26), guard := none },
  { dst := some 28, op := SOp.mv (Operand.tmp 4), guard := none },
  { dst := some 29, op := SOp.mv (Operand.tmp 6), guard := none },
  { dst := some 30, op := SOp.bin (BinOp.xor) 3 (Operand.tmp 29) (Operand.const (Value.int (IntKind.i64) 1)), guard := none },
  { dst := some 31, op := SOp.idx 1 (Operand.tmp 28) (Operand.tmp 30), guard := none },
  { dst := some 32, op := SOp.load1 (Operand.tmp 31), guard := none },
  { dst := some 33, op := SOp.bin (BinOp.shl) 65 (Operand.const (Value.int (IntKind.u32) 1)) (Operand.tmp 32), guard := none },
  { dst := some 34, op := SOp.bin (BinOp.or) 65 (Operand.tmp 27) (Operand.tmp 33), guard := none },
  { dst := some 35, op := SOp.idx 1 (Operand.tmp 24) (Operand.tmp 25), guard := none },
  { dst := none, op := SOp.store 1 (Operand.tmp 35) (Operand.tmp 34), guard := none }]
def c52_r7 : List SIns := [
  { dst := some 36, op := SOp.ib (BinOp.add) (Operand.tmp 19) (Operand.const (Value.int (IntKind.i64) 1)), guard := none },
  { dst := some 19, op := SOp.mv (Operand.tmp 36), guard := none }]
def c52_l0 : SCode := (.seq (.reg c52_r4 [4, 5, 17, 18, 19, 20]) (.seq (.cond (Operand.tmp 20) .skip (.exit 0)) (.seq (.block 1 (.seq (.reg c52_r5 [4, 5, 6, 7, 17, 18, 19]) (.draw c52_r6 [[], [], [0, 1], [2, 0, 1], [], [], [5], [4, 6, 5], [7, 4, 6, 5], [8, 7, 4, 6, 5], [3, 9, 2, 0, 1, 8, 7, 4, 6, 5], [10, 3, 9, 2, 0, 1, 8, 7, 4, 6, 5], [11, 10, 3, 9, 2, 0, 1, 8, 7, 4, 6, 5]] [4, 5, 17, 18, 19]))) (.reg c52_r7 [4, 5, 17, 18, 19]))))
def c52_r8 : List SIns := [
  { dst := some 37, op := SOp.mv (Operand.tmp 5), guard := none },
  { dst := some 2, op := SOp.mv (Operand.tmp 37), guard := none }]
def c52 : SCode := (.seq (.reg c52_r0 [1]) (.seq (.reg c52_r1 [1, 4]) (.seq (.reg c52_r2 [4, 5]) (.seq (.seq (.reg c52_r3 [4, 5, 17, 18, 19]) (.block 0 (.loop c52_l0))) (.seq (.reg c52_r8 [2]) .ret)))))
theorem F52 : Fn Tryd.prog 52 c52 [SRes.tmp 2] 38 := ⟨Tryd.f52, Tryd.f52.body.getD .skip, [[1], [1, 4], [4, 5], [4, 5, 17, 18, 19], [4, 5, 17, 18, 19, 20], [4, 5, 6, 7, 17, 18, 19], [4, 5, 17, 18, 19], [4, 5, 17, 18, 19], [2]], Tryd.func52, by kernel_rfl, by kernel_rfl, by kernel_rfl, by kernel_rfl, by decide⟩

def c59_r0 : List SIns := [
  { dst := some 1, op := SOp.box (Operand.tmp 0), guard := none },
  { dst := some 2, op := SOp.mv (Operand.const (Value.int (IntKind.i64) 0)), guard := none }]
def c59_r1 : List SIns := [
  { dst := some 3, op := SOp.mv (Operand.const (Value.int (IntKind.i64) 0)), guard := none }]
def c59_r2 : List SIns := [
  { dst := some 6, op := SOp.off 0 (Operand.tmp 1), guard := none },
  { dst := some 7, op := SOp.load1 (Operand.tmp 6), guard := none },
  { dst := some 8, op := SOp.lenSl (Operand.tmp 7), guard := none },
  { dst := some 9, op := SOp.mv (Operand.const (Value.int (IntKind.i64) 0)), guard := none }]
def c59_r3 : List SIns := [
  { dst := some 10, op := SOp.ib (BinOp.lss) (Operand.tmp 9) (Operand.tmp 8), guard := none }]
def c59_r4 : List SIns := [
  { dst := some 11, op := SOp.idx 1 (Operand.tmp 7) (Operand.tmp 9), guard := none },
  { dst := some 12, op := SOp.load1 (Operand.tmp 11), guard := none },
  { dst := some 5, op := SOp.mv (Operand.tmp 12), guard := none }]
def c59_r5 : List SIns := [
  { dst := some 13, op := SOp.mv (Operand.tmp 3), guard := none },
  { dst := some 14, op := SOp.mv (Operand.tmp 5), guard := none },
  { dst := some 15, op := SOp.lenSl (Operand.tmp 14), guard := none },
  { dst := some 16, op := SOp.ib (BinOp.add) (Operand.tmp 13) (Operand.tmp 15), guard := none },
  { dst := some 3, op := SOp.mv (Operand.tmp 16), guard := none }]
def c59_r6 : List SIns := [
  { dst := some 17, op := SOp.ib (BinOp.add) (Operand.tmp 9) (Operand.const (Value.int (IntKind.i64) 1)), guard := none },
  { dst := some 9, op := SOp.mv (Operand.tmp 17), guard := none }]
def c59_l0 : SCode := (.seq (.reg c59_r3 [3, 7, 8, 9, 10]) (.seq (.cond (Operand.tmp 10) .skip (.exit 0)) (.seq (.block 1 (.seq (.reg c59_r4 [3, 5, 7, 8, 9]) (.reg c59_r5 [3, 7, 8, 9]))) (.reg c59_r6 [3, 7, 8, 9]))))
def c59_r7 : List SIns := [
  { dst := some 18, op := SOp.mv (Operand.tmp 3), guard := none },
  { dst := some 2, op := SOp.mv (Operand.tmp 18), guard := none }]
def c59 : SCode := (.seq (.reg c59_r0 [1]) (.seq (.reg c59_r1 [1, 3]) (.seq (.seq (.reg c59_r2 [3, 7, 8, 9]) (.block 0 (.loop c59_l0))) (.seq (.reg c59_r7 [2]) .ret))))
theorem F59 : Fn Tryd.prog 59 c59 [SRes.tmp 2] 19 := ⟨Tryd.f59, Tryd.f59.body.getD .skip, [[1], [1, 3], [3, 7, 8, 9], [3, 7, 8, 9, 10], [3, 5, 7, 8, 9], [3, 7, 8, 9], [3, 7, 8, 9], [2]], Tryd.func59, by kernel_rfl, by kernel_rfl, by kernel_rfl, by kernel_rfl, by decide⟩

def c89_r0 : List SIns := [
  { dst := some 6, op := SOp.mv (Operand.const (Value.slice none 0 0)), guard := none }]
def c89_r1 : List SIns := [
  { dst := some 8, op := SOp.mv (Operand.tmp 0), guard := none },
  { dst := some 9, op := SOp.mv (Operand.tmp 1), guard := none },
  { dst := some 10, op := SOp.mv (Operand.tmp 2), guard := none },
  { dst := some 11, op := SOp.mv (Operand.tmp 0), guard := none },
  { dst := some 12, op := SOp.lenSl (Operand.tmp 11), guard := none },
  { dst := some 13, op := SOp.slc 1 (Operand.tmp 8) (some (Operand.tmp 9)) (some (Operand.tmp 10)) (some (Operand.tmp 12)), guard := none }]
def c89_r2 : List SIns := [
  { dst := some 14, op := SOp.mv (Operand.tmp 1), guard := none },
  { dst := some 15, op := SOp.mv (Operand.tmp 2), guard := none },
  { dst := some 16, op := SOp.ib (BinOp.eql) (Operand.tmp 14) (Operand.tmp 15), guard := none }]
def c89_r3 : List SIns := [
  { dst := some 17, op := SOp.mv (Operand.tmp 0), guard := none },
  { dst := some 6, op := SOp.mv (Operand.tmp 17), guard := none }]
def c89_r4 : List SIns := [
  { dst := some 18, op := SOp.mv (Operand.tmp 0), guard := none },
  { dst := some 19, op := SOp.lenSl (Operand.tmp 18), guard := none },
  { dst := some 7, op := SOp.mv (Operand.tmp 19), guard := none }]
def c89_r5 : List SIns := [
  { dst := some 20, op := SOp.mv (Operand.tmp 0), guard := none },
  { dst := some 21, op := SOp.mv (Operand.tmp 1), guard := none },
  { dst := some 22, op := SOp.slc 1 (Operand.tmp 20) none (some (Operand.tmp 21)) none, guard := none },
  { dst := some 23, op := SOp.mv (Operand.tmp 0), guard := none },
  { dst := some 24, op := SOp.mv (Operand.tmp 2), guard := none },
  { dst := some 25, op := SOp.slc 1 (Operand.tmp 23) (some (Operand.tmp 24)) none none, guard := none },
  { dst := some 26, op := SOp.app 1 8 (Operand.tmp 22) (Operand.tmp 25), guard := none },
  { dst := some 0, op := SOp.mv (Operand.tmp 26), guard := none }]
def c89_r6 : List SIns := [
  { dst := some 27, op := SOp.mv (Operand.tmp 0), guard := none },
  { dst := some 28, op := SOp.mv (Operand.tmp 0), guard := none },
  { dst := some 29, op := SOp.lenSl (Operand.tmp 28), guard := none },
  { dst := some 30, op := SOp.mv (Operand.tmp 7), guard := none },
  { dst := some 31, op := SOp.slc 1 (Operand.tmp 27) (some (Operand.tmp 29)) (some (Operand.tmp 30)) none, guard := none },
  { dst := none, op := SOp.clear (Value.int (IntKind.i64) 0) (Operand.tmp 31), guard := none }]
def c89_r7 : List SIns := [
  { dst := some 32, op := SOp.mv (Operand.tmp 0), guard := none },
  { dst := some 6, op := SOp.mv (Operand.tmp 32), guard := none }]
def c89 : SCode := (.seq (.reg c89_r0 [0, 1, 2]) (.seq (.reg c89_r1 [0, 1, 2]) (.seq (.seq (.reg c89_r2 [0, 1, 2, 16]) (.cond (Operand.tmp 16) (.seq (.reg c89_r3 [6]) .ret) .skip)) (.seq (.reg c89_r4 [0, 1, 2, 7]) (.seq (.draw c89_r5 [[], [], [0, 1], [], [], [3, 4], [2, 5, 0, 1, 3, 4], [6, 2, 5, 0, 1, 3, 4]] [0, 7]) (.seq (.reg c89_r6 [0]) (.seq (.reg c89_r7 [6]) .ret)))))))
theorem F89 : Fn Tryd.prog 89 c89 [SRes.tmp 6] 33 := ⟨Tryd.f89, Tryd.f89.body.getD .skip, [[0, 1, 2], [0, 1, 2], [0, 1, 2, 16], [6], [0, 1, 2, 7], [0, 7], [0], [6]], Tryd.func89, by kernel_rfl, by kernel_rfl, by kernel_rfl, by kernel_rfl, by decide⟩

def c90_r0 : List SIns := [
  { dst := some 1, op := SOp.box (Operand.tmp 0), guard := none },
  { dst := some 2, op := SOp.mv (Operand.const (Value.slice none 0 0)), guard := none },
  { dst := some 3, op := SOp.mv (Operand.const (Value.slice none 0 0)), guard := none }]
def c90_r1 : List SIns := [
  { dst := some 9, op := SOp.loadN 1 (Operand.tmp 1), guard := none },
  { dst := some 10, op := SOp.call 59 [Operand.tmp 9], guard := none },
  { dst := some 4, op := SOp.mv (Operand.tmp 10), guard := none }]
def c90_r2 : List SIns := [
  { dst := some 11, op := SOp.mv (Operand.tmp 4), guard := none },
  { dst := some 12, op := SOp.mk 8 (Value.int (IntKind.i64) 0) (Operand.tmp 11) (Operand.tmp 11), guard := none },
  { dst := some 13, op := SOp.mv (Operand.tmp 4), guard := none },
  { dst := some 14, op := SOp.mk 8 (Value.int (IntKind.i64) 0) (Operand.tmp 13) (Operand.tmp 13), guard := none },
  { dst := some 2, op := SOp.mv (Operand.tmp 12), guard := none },
  { dst := some 3, op := SOp.mv (Operand.tmp 14), guard := none }]
def c90_r3 : List SIns := [
  { dst := some 15, op := SOp.off 0 (Operand.tmp 1), guard := none },
  { dst := some 16, op := SOp.load1 (Operand.tmp 15), guard := none },
  { dst := some 17, op := SOp.lenSl (Operand.tmp 16), guard := none },
  { dst := some 18, op := SOp.mv (Operand.const (Value.int (IntKind.i64) 0)), guard := none }]
def c90_r4 : List SIns := [
  { dst := some 19, op := SOp.ib (BinOp.lss) (Operand.tmp 18) (Operand.tmp 17), guard := none }]
def c90_r5 : List SIns := [
  { dst := some 20, op := SOp.mv (Operand.tmp 18), guard := none },
  { dst := some 21, op := SOp.idx 1 (Operand.tmp 16) (Operand.tmp 18), guard := none },
  { dst := some 22, op := SOp.load1 (Operand.tmp 21), guard := none },
  { dst := some 5, op := SOp.mv (Operand.tmp 20), guard := none },
  { dst := some 6, op := SOp.mv (Operand.tmp 22), guard := none }]
def c90_r6 : List SIns := [
  { dst := some 23, op := SOp.mv (Operand.tmp 6), guard := none },
  { dst := some 24, op := SOp.lenSl (Operand.tmp 23), guard := none },
  { dst := some 25, op := SOp.mv (Operand.const (Value.int (IntKind.i64) 0)), guard := none }]
def c90_r7 : List SIns := [
  { dst := some 26, op := SOp.ib (BinOp.lss) (Operand.tmp 25) (Operand.tmp 24), guard := none }]
def c90_r8 : List SIns := [
  { dst := some 27, op := SOp.mv (Operand.tmp 25), guard := none },
  { dst := some 28, op := SOp.idx 1 (Operand.tmp 23) (Operand.tmp 25), guard := none },
  { dst := some 29, op := SOp.load1 (Operand.tmp 28), guard := none },
  { dst := some 7, op := SOp.mv (Operand.tmp 27), guard := none },
  { dst := some 8, op := SOp.mv (Operand.tmp 29), guard := none }]
def c90_r9 : List SIns := [
  { dst := some 30, op := SOp.mv (Operand.tmp 2), guard := none },
  { dst := some 31, op := SOp.mv (Operand.tmp 8), guard := none },
  { dst := some 32, op := SOp.mv (Operand.tmp 3), guard := none },
  { dst := some 33, op := SOp.mv (Operand.tmp 8), guard := none },
  { dst := some 34, op := SOp.mv (Operand.tmp 6), guard := none },
  { dst := some 35, op := SOp.mv (Operand.tmp 7), guard := none },
  { dst := some 36, op := SOp.ib (BinOp.add) (Operand.tmp 35) (Operand.const (Value.int (IntKind.i64) 1)), guard := none },
  { dst := some 37, op := SOp.mv (Operand.tmp 6), guard := none },
  { dst := some 38, op := SOp.lenSl (Operand.tmp 37), guard := none },
  { dst := some 39, op := SOp.ib (BinOp.rem) (Operand.tmp 36) (Operand.tmp 38), guard := none },
  { dst := some 40, op := SOp.idx 1 (Operand.tmp 34) (Operand.tmp 39), guard := none },
  { dst := some 41, op := SOp.load1 (Operand.tmp 40), guard := none },
  { dst := some 42, op := SOp.mv (Operand.tmp 5), guard := none },
  { dst := some 43, op := SOp.idx 1 (Operand.tmp 30) (Operand.tmp 31), guard := none },
  { dst := none, op := SOp.store 1 (Operand.tmp 43) (Operand.tmp 41), guard := none },
  { dst := some 44, op := SOp.idx 1 (Operand.tmp 32) (Operand.tmp 33), guard := none },
  { dst := none, op := SOp.store 1 (Operand.tmp 44) (Operand.tmp 42), guard := none }]
def c90_r10 : List SIns := [
  { dst := some 45, op := SOp.ib (BinOp.add) (Operand.tmp 25) (Operand.const (Value.int (IntKind.i64) 1)), guard := none },
  { dst := some 25, op := SOp.mv (Operand.tmp 45), guard := none }]
def c90_l0 : SCode := (.seq (.reg c90_r7 [2, 3, 5, 6, 16, 17, 18, 23, 24, 25, 26]) (.seq (.cond (Operand.tmp 26) .skip (.exit 2)) (.seq (.block 3 (.seq (.reg c90_r8 [2, 3, 5, 6, 7, 8, 16, 17, 18, 23, 24, 25]) (.reg c90_r9 [2, 3, 5, 6, 16, 17, 18, 23, 24, 25]))) (.reg c90_r10 [2, 3, 5, 6, 16, 17, 18, 23, 24, 25]))))
def c90_r11 : List SIns := [
  { dst := some 46, op := SOp.ib (BinOp.add) (Operand.tmp 18) (Operand.const (Value.int (IntKind.i64) 1)), guard := none },
  { dst := some 18, op := SOp.mv (Operand.tmp 46), guard := none }]
def c90_l1 : SCode := (.seq (.reg c90_r4 [2, 3, 16, 17, 18, 19]) (.seq (.cond (Operand.tmp 19) .skip (.exit 0)) (.seq (.block 1 (.seq (.reg c90_r5 [2, 3, 5, 6, 16, 17, 18]) (.seq (.reg c90_r6 [2, 3, 5, 6, 16, 17, 18, 23, 24, 25]) (.block 2 (.loop c90_l0))))) (.reg c90_r11 [2, 3, 16, 17, 18]))))
def c90_r12 : List SIns := [
  { dst := some 47, op := SOp.mv (Operand.tmp 2), guard := none },
  { dst := some 48, op := SOp.mv (Operand.tmp 3), guard := none },
  { dst := some 2, op := SOp.mv (Operand.tmp 47), guard := none },
  { dst := some 3, op := SOp.mv (Operand.tmp 48), guard := none }]
def c90 : SCode := (.seq (.reg c90_r0 [1]) (.seq (.reg c90_r1 [1, 4]) (.seq (.draw c90_r2 [[], [0], [], [2], [1, 0], [3, 4, 2, 1, 0]] [1, 2, 3]) (.seq (.seq (.reg c90_r3 [2, 3, 16, 17, 18]) (.block 0 (.loop c90_l1))) (.seq (.reg c90_r12 [2, 3]) .ret)))))
theorem F90 : Fn Tryd.prog 90 c90 [SRes.tmp 2, SRes.tmp 3] 49 := ⟨Tryd.f90, Tryd.f90.body.getD .skip, [[1], [1, 4], [1, 2, 3], [2, 3, 16, 17, 18], [2, 3, 16, 17, 18, 19], [2, 3, 5, 6, 16, 17, 18], [2, 3, 5, 6, 16, 17, 18, 23, 24, 25], [2, 3, 5, 6, 16, 17, 18, 23, 24, 25, 26], [2, 3, 5, 6, 7, 8, 16, 17, 18, 23, 24, 25], [2, 3, 5, 6, 16, 17, 18, 23, 24, 25], [2, 3, 5, 6, 16, 17, 18, 23, 24, 25], [2, 3, 16, 17, 18], [2, 3]], Tryd.func90, by kernel_rfl, by kernel_rfl, by kernel_rfl, by kernel_rfl, by decide⟩

end Go.Sx.Ch
