/- The codes of the functions, written by a program (Gen.lean), and that they are the functions'. No conditions. -/
import Derived.Test.YtmakepdccccmaaaSxN
import Derived.KernelRfl
import Derived.Test.YtmakepdccccmaaaProg
set_option linter.unusedVariables false
set_option maxRecDepth 100000
namespace Go.Sx.Wk
open Go Go.Sx Go.Proofs

def c14_r0 : List SIns := [
  { dst := some 1, op := SOp.box (Operand.tmp 0), guard := none },
  { dst := some 2, op := SOp.mv (Operand.const (Value.bool false)), guard := none }]
def c14_r1 : List SIns := [
  { dst := some 21, op := SOp.loadN 5 (Operand.tmp 1), guard := none },
  { dst := some 22, op := SOp.call 42 [Operand.tmp 21, Operand.const (Value.int (IntKind.i64) 4), Operand.const (Value.int (IntKind.i64) 8)], guard := none },
  { dst := some 3, op := SOp.mv (Operand.tmp 22), guard := none }]
def c14_r2 : List SIns := [
  { dst := some 24, op := SOp.mv (Operand.tmp 3), guard := none },
  { dst := some 25, op := SOp.call 17 [Operand.tmp 24], guard := none },
  { dst := some 23, op := SOp.mv (Operand.tmp 25), guard := none },
  { dst := some 26, op := SOp.ext (Operand.tmp 23) 0, guard := none },
  { dst := some 27, op := SOp.ext (Operand.tmp 23) 1, guard := none },
  { dst := some 28, op := SOp.ext (Operand.tmp 23) 2, guard := none },
  { dst := some 4, op := SOp.mv (Operand.tmp 26), guard := none },
  { dst := some 5, op := SOp.mv (Operand.tmp 27), guard := none },
  { dst := some 6, op := SOp.mv (Operand.tmp 28), guard := none }]
def c14_r3 : List SIns := [
  { dst := some 30, op := SOp.mv (Operand.tmp 3), guard := none },
  { dst := some 31, op := SOp.call 19 [Operand.tmp 30], guard := none },
  { dst := some 29, op := SOp.mv (Operand.tmp 31), guard := none },
  { dst := some 32, op := SOp.ext (Operand.tmp 29) 0, guard := none },
  { dst := some 33, op := SOp.ext (Operand.tmp 29) 1, guard := none },
  { dst := some 7, op := SOp.mv (Operand.tmp 32), guard := none },
  { dst := some 8, op := SOp.mv (Operand.tmp 33), guard := none }]
def c14_r4 : List SIns := [
  { dst := some 35, op := SOp.mv (Operand.tmp 3), guard := none },
  { dst := some 36, op := SOp.call 21 [Operand.tmp 35], guard := none },
  { dst := some 34, op := SOp.mv (Operand.tmp 36), guard := none },
  { dst := some 37, op := SOp.ext (Operand.tmp 34) 0, guard := none },
  { dst := some 38, op := SOp.ext (Operand.tmp 34) 1, guard := none },
  { dst := some 9, op := SOp.mv (Operand.tmp 37), guard := none },
  { dst := some 10, op := SOp.mv (Operand.tmp 38), guard := none }]
def c14_r5 : List SIns := [
  { dst := some 39, op := SOp.mv (Operand.tmp 6), guard := none },
  { dst := some 40, op := SOp.ib (BinOp.neq) (Operand.tmp 39) (Operand.const (Value.int (IntKind.i64) 0)), guard := none },
  { dst := some 41, op := SOp.mv (Operand.tmp 40), guard := none },
  { dst := some 42, op := SOp.mv (Operand.tmp 8), guard := some (41, false) },
  { dst := some 43, op := SOp.ib (BinOp.neq) (Operand.tmp 42) (Operand.const (Value.int (IntKind.i64) 0)), guard := some (41, false) },
  { dst := some 44, op := SOp.pick (Operand.tmp 41) (Operand.const (Value.bool true)) (Operand.tmp 43), guard := none },
  { dst := some 45, op := SOp.mv (Operand.tmp 44), guard := none },
  { dst := some 46, op := SOp.mv (Operand.tmp 4), guard := some (45, false) },
  { dst := some 47, op := SOp.ib (BinOp.lss) (Operand.tmp 46) (Operand.const (Value.int (IntKind.i64) 1)), guard := some (45, false) },
  { dst := some 48, op := SOp.pick (Operand.tmp 45) (Operand.const (Value.bool true)) (Operand.tmp 47), guard := none },
  { dst := some 49, op := SOp.mv (Operand.tmp 48), guard := none },
  { dst := some 50, op := SOp.mv (Operand.tmp 5), guard := some (49, false) },
  { dst := some 51, op := SOp.ib (BinOp.lss) (Operand.tmp 50) (Operand.const (Value.int (IntKind.i64) 1)), guard := some (49, false) },
  { dst := some 52, op := SOp.pick (Operand.tmp 49) (Operand.const (Value.bool true)) (Operand.tmp 51), guard := none },
  { dst := some 53, op := SOp.mv (Operand.tmp 52), guard := none },
  { dst := some 54, op := SOp.mv (Operand.tmp 4), guard := some (53, false) },
  { dst := some 55, op := SOp.mv (Operand.tmp 5), guard := some (53, false) },
  { dst := some 56, op := SOp.ib (BinOp.mul) (Operand.const (Value.int (IntKind.i64) 4)) (Operand.tmp 55), guard := some (53, false) },
  { dst := some 57, op := SOp.ib (BinOp.gtr) (Operand.tmp 54) (Operand.tmp 56), guard := some (53, false) },
  { dst := some 58, op := SOp.pick (Operand.tmp 53) (Operand.const (Value.bool true)) (Operand.tmp 57), guard := none },
  { dst := some 59, op := SOp.mv (Operand.tmp 58), guard := none },
  { dst := some 60, op := SOp.mv (Operand.tmp 5), guard := some (59, false) },
  { dst := some 61, op := SOp.ib (BinOp.gtr) (Operand.tmp 60) (Operand.const (Value.int (IntKind.i64) 840)), guard := some (59, false) },
  { dst := some 62, op := SOp.pick (Operand.tmp 59) (Operand.const (Value.bool true)) (Operand.tmp 61), guard := none },
  { dst := some 63, op := SOp.mv (Operand.tmp 62), guard := none },
  { dst := some 64, op := SOp.mv (Operand.tmp 5), guard := some (63, false) },
  { dst := some 65, op := SOp.ib (BinOp.rem) (Operand.const (Value.int (IntKind.i64) 840)) (Operand.tmp 64), guard := some (63, false) },
  { dst := some 66, op := SOp.ib (BinOp.neq) (Operand.tmp 65) (Operand.const (Value.int (IntKind.i64) 0)), guard := some (63, false) },
  { dst := some 67, op := SOp.pick (Operand.tmp 63) (Operand.const (Value.bool true)) (Operand.tmp 66), guard := none },
  { dst := some 68, op := SOp.mv (Operand.tmp 67), guard := none },
  { dst := some 69, op := SOp.mv (Operand.tmp 3), guard := some (68, false) },
  { dst := some 70, op := SOp.mv (Operand.tmp 4), guard := some (68, false) },
  { dst := some 71, op := SOp.mv (Operand.tmp 5), guard := some (68, false) },
  { dst := some 72, op := SOp.call 38 [Operand.tmp 69, Operand.tmp 70, Operand.tmp 71], guard := some (68, false) },
  { dst := some 73, op := SOp.ib (BinOp.neq) (Operand.tmp 72) (Operand.const (Value.int (IntKind.i64) 0)), guard := some (68, false) },
  { dst := some 74, op := SOp.pick (Operand.tmp 68) (Operand.const (Value.bool true)) (Operand.tmp 73), guard := none }]
def c14_r6 : List SIns := [
  { dst := some 2, op := SOp.mv (Operand.const (Value.bool false)), guard := none }]
def c14_r7 : List SIns := [
  { dst := some 11, op := SOp.mv (Operand.const (Value.int (IntKind.i64) 2)), guard := none }]
def c14_r8 : List SIns := [
  { dst := some 75, op := SOp.mv (Operand.tmp 11), guard := none },
  { dst := some 76, op := SOp.mv (Operand.tmp 5), guard := none },
  { dst := some 77, op := SOp.ib (BinOp.leq) (Operand.tmp 75) (Operand.tmp 76), guard := none }]
def c14_r9 : List SIns := [
  { dst := some 80, op := SOp.mv (Operand.tmp 4), guard := none },
  { dst := some 81, op := SOp.mv (Operand.tmp 11), guard := none },
  { dst := some 82, op := SOp.ib (BinOp.rem) (Operand.tmp 80) (Operand.tmp 81), guard := none },
  { dst := some 83, op := SOp.ib (BinOp.eql) (Operand.tmp 82) (Operand.const (Value.int (IntKind.i64) 0)), guard := none },
  { dst := some 84, op := SOp.mv (Operand.tmp 83), guard := none },
  { dst := some 85, op := SOp.mv (Operand.tmp 5), guard := some (84, true) },
  { dst := some 86, op := SOp.mv (Operand.tmp 11), guard := some (84, true) },
  { dst := some 87, op := SOp.ib (BinOp.rem) (Operand.tmp 85) (Operand.tmp 86), guard := some (84, true) },
  { dst := some 88, op := SOp.ib (BinOp.eql) (Operand.tmp 87) (Operand.const (Value.int (IntKind.i64) 0)), guard := some (84, true) },
  { dst := some 89, op := SOp.pick (Operand.tmp 84) (Operand.tmp 88) (Operand.const (Value.bool false)), guard := none }]
def c14_r10 : List SIns := [
  { dst := some 2, op := SOp.mv (Operand.const (Value.bool false)), guard := none }]
def c14_r11 : List SIns := [
  { dst := some 78, op := SOp.mv (Operand.tmp 11), guard := none },
  { dst := some 79, op := SOp.ib (BinOp.add) (Operand.tmp 78) (Operand.const (Value.int (IntKind.i64) 1)), guard := none },
  { dst := some 11, op := SOp.mv (Operand.tmp 79), guard := none }]
def c14_l0 : SCode := (.seq (.seq (.reg c14_r8 [3, 4, 5, 7, 9, 10, 11, 77]) (.cond (Operand.tmp 77) .skip (.exit 0))) (.seq (.block 1 (.seq (.reg c14_r9 [3, 4, 5, 7, 9, 10, 11, 89]) (.cond (Operand.tmp 89) (.seq (.reg c14_r10 [2]) .ret) .skip))) (.reg c14_r11 [3, 4, 5, 7, 9, 10, 11])))
def c14_r12 : List SIns := [
  { dst := some 90, op := SOp.mv (Operand.tmp 3), guard := none },
  { dst := some 91, op := SOp.call 38 [Operand.tmp 90, Operand.const (Value.int (IntKind.i64) 1), Operand.const (Value.int (IntKind.i64) 1)], guard := none },
  { dst := some 92, op := SOp.ib (BinOp.gtr) (Operand.tmp 91) (Operand.const (Value.int (IntKind.i64) 0)), guard := none },
  { dst := some 93, op := SOp.mv (Operand.tmp 92), guard := none },
  { dst := some 94, op := SOp.mv (Operand.tmp 7), guard := some (93, true) },
  { dst := some 95, op := SOp.pick (Operand.tmp 93) (Operand.tmp 94) (Operand.const (Value.bool false)), guard := none },
  { dst := some 96, op := SOp.mv (Operand.tmp 95), guard := none },
  { dst := some 97, op := SOp.mv (Operand.tmp 3), guard := some (96, false) },
  { dst := some 98, op := SOp.call 38 [Operand.tmp 97, Operand.const (Value.int (IntKind.i64) 5), Operand.const (Value.int (IntKind.i64) 6)], guard := some (96, false) },
  { dst := some 99, op := SOp.ib (BinOp.leq) (Operand.tmp 98) (Operand.const (Value.int (IntKind.i64) 0)), guard := some (96, false) },
  { dst := some 100, op := SOp.mv (Operand.tmp 99), guard := some (96, false) },
  { dst := some 101, op := SOp.mv (Operand.tmp 7), guard := some (100, true) },
  { dst := some 102, op := SOp.nt (Operand.tmp 101), guard := some (100, true) },
  { dst := some 103, op := SOp.pick (Operand.tmp 100) (Operand.tmp 102) (Operand.const (Value.bool false)), guard := some (96, false) },
  { dst := some 104, op := SOp.pick (Operand.tmp 96) (Operand.const (Value.bool true)) (Operand.tmp 103), guard := none }]
def c14_r13 : List SIns := [
  { dst := some 2, op := SOp.mv (Operand.const (Value.bool false)), guard := none }]
def c14_r14 : List SIns := [
  { dst := some 106, op := SOp.mv (Operand.tmp 3), guard := none },
  { dst := some 107, op := SOp.call 32 [Operand.tmp 106, Operand.const (Value.int (IntKind.i64) 60)], guard := none },
  { dst := some 105, op := SOp.mv (Operand.tmp 107), guard := none },
  { dst := some 108, op := SOp.ext (Operand.tmp 105) 0, guard := none },
  { dst := some 109, op := SOp.ext (Operand.tmp 105) 1, guard := none },
  { dst := some 12, op := SOp.mv (Operand.tmp 108), guard := none },
  { dst := some 13, op := SOp.mv (Operand.tmp 109), guard := none }]
def c14_r15 : List SIns := [
  { dst := some 111, op := SOp.mv (Operand.tmp 3), guard := none },
  { dst := some 112, op := SOp.call 34 [Operand.tmp 111], guard := none },
  { dst := some 110, op := SOp.mv (Operand.tmp 112), guard := none },
  { dst := some 113, op := SOp.ext (Operand.tmp 110) 0, guard := none },
  { dst := some 114, op := SOp.ext (Operand.tmp 110) 1, guard := none },
  { dst := some 115, op := SOp.ext (Operand.tmp 110) 2, guard := none },
  { dst := some 14, op := SOp.mv (Operand.tmp 113), guard := none },
  { dst := some 15, op := SOp.mv (Operand.tmp 114), guard := none },
  { dst := some 16, op := SOp.mv (Operand.tmp 115), guard := none }]
def c14_r16 : List SIns := [
  { dst := some 116, op := SOp.mv (Operand.tmp 7), guard := none },
  { dst := some 117, op := SOp.nt (Operand.tmp 116), guard := none }]
def c14_r17 : List SIns := [
  { dst := some 118, op := SOp.mv (Operand.tmp 10), guard := none },
  { dst := some 119, op := SOp.ib (BinOp.eql) (Operand.tmp 118) (Operand.const (Value.int (IntKind.i64) 0)), guard := none },
  { dst := some 120, op := SOp.mv (Operand.tmp 119), guard := none },
  { dst := some 121, op := SOp.mv (Operand.tmp 9), guard := some (120, true) },
  { dst := some 122, op := SOp.ib (BinOp.geq) (Operand.tmp 121) (Operand.const (Value.int (IntKind.i64) 0)), guard := some (120, true) },
  { dst := some 123, op := SOp.pick (Operand.tmp 120) (Operand.tmp 122) (Operand.const (Value.bool false)), guard := none },
  { dst := some 124, op := SOp.mv (Operand.tmp 123), guard := none },
  { dst := some 125, op := SOp.mv (Operand.tmp 13), guard := some (124, true) },
  { dst := some 126, op := SOp.ib (BinOp.eql) (Operand.tmp 125) (Operand.const (Value.int (IntKind.i64) 12)), guard := some (124, true) },
  { dst := some 127, op := SOp.pick (Operand.tmp 124) (Operand.tmp 126) (Operand.const (Value.bool false)), guard := none },
  { dst := some 128, op := SOp.mv (Operand.tmp 127), guard := none },
  { dst := some 129, op := SOp.mv (Operand.tmp 16), guard := some (128, true) },
  { dst := some 130, op := SOp.ib (BinOp.eql) (Operand.tmp 129) (Operand.const (Value.int (IntKind.i64) 12)), guard := some (128, true) },
  { dst := some 131, op := SOp.pick (Operand.tmp 128) (Operand.tmp 130) (Operand.const (Value.bool false)), guard := none },
  { dst := some 132, op := SOp.mv (Operand.tmp 131), guard := none },
  { dst := some 133, op := SOp.mv (Operand.tmp 12), guard := some (132, true) },
  { dst := some 134, op := SOp.lenSl (Operand.tmp 133), guard := some (132, true) },
  { dst := some 135, op := SOp.mv (Operand.tmp 14), guard := some (132, true) },
  { dst := some 136, op := SOp.lenSl (Operand.tmp 135), guard := some (132, true) },
  { dst := some 137, op := SOp.ib (BinOp.add) (Operand.tmp 134) (Operand.tmp 136), guard := some (132, true) },
  { dst := some 138, op := SOp.mv (Operand.tmp 15), guard := some (132, true) },
  { dst := some 139, op := SOp.lenSl (Operand.tmp 138), guard := some (132, true) },
  { dst := some 140, op := SOp.ib (BinOp.add) (Operand.tmp 137) (Operand.tmp 139), guard := some (132, true) },
  { dst := some 141, op := SOp.ib (BinOp.eql) (Operand.tmp 140) (Operand.const (Value.int (IntKind.i64) 0)), guard := some (132, true) },
  { dst := some 142, op := SOp.pick (Operand.tmp 132) (Operand.tmp 141) (Operand.const (Value.bool false)), guard := none },
  { dst := some 143, op := SOp.mv (Operand.tmp 142), guard := none },
  { dst := some 144, op := SOp.call 16 [], guard := some (143, true) },
  { dst := some 145, op := SOp.pick (Operand.tmp 143) (Operand.tmp 144) (Operand.const (Value.bool false)), guard := none },
  { dst := some 2, op := SOp.mv (Operand.tmp 145), guard := none }]
def c14_r18 : List SIns := [
  { dst := some 146, op := SOp.mv (Operand.tmp 10), guard := none },
  { dst := some 147, op := SOp.ib (BinOp.neq) (Operand.tmp 146) (Operand.const (Value.int (IntKind.i64) 13)), guard := none },
  { dst := some 148, op := SOp.mv (Operand.tmp 147), guard := none },
  { dst := some 149, op := SOp.mv (Operand.tmp 9), guard := some (148, false) },
  { dst := some 150, op := SOp.ib (BinOp.neq) (Operand.tmp 149) (Operand.const (Value.int (IntKind.i64) 0)), guard := some (148, false) },
  { dst := some 151, op := SOp.pick (Operand.tmp 148) (Operand.const (Value.bool true)) (Operand.tmp 150), guard := none },
  { dst := some 152, op := SOp.mv (Operand.tmp 151), guard := none },
  { dst := some 153, op := SOp.mv (Operand.tmp 13), guard := some (152, false) },
  { dst := some 154, op := SOp.ib (BinOp.neq) (Operand.tmp 153) (Operand.const (Value.int (IntKind.i64) 0)), guard := some (152, false) },
  { dst := some 155, op := SOp.pick (Operand.tmp 152) (Operand.const (Value.bool true)) (Operand.tmp 154), guard := none },
  { dst := some 156, op := SOp.mv (Operand.tmp 155), guard := none },
  { dst := some 157, op := SOp.mv (Operand.tmp 16), guard := some (156, false) },
  { dst := some 158, op := SOp.ib (BinOp.neq) (Operand.tmp 157) (Operand.const (Value.int (IntKind.i64) 0)), guard := some (156, false) },
  { dst := some 159, op := SOp.pick (Operand.tmp 156) (Operand.const (Value.bool true)) (Operand.tmp 158), guard := none },
  { dst := some 160, op := SOp.mv (Operand.tmp 159), guard := none },
  { dst := some 161, op := SOp.mv (Operand.tmp 12), guard := some (160, false) },
  { dst := some 162, op := SOp.lenSl (Operand.tmp 161), guard := some (160, false) },
  { dst := some 163, op := SOp.ib (BinOp.neq) (Operand.tmp 162) (Operand.const (Value.int (IntKind.i64) 60)), guard := some (160, false) },
  { dst := some 164, op := SOp.pick (Operand.tmp 160) (Operand.const (Value.bool true)) (Operand.tmp 163), guard := none },
  { dst := some 165, op := SOp.mv (Operand.tmp 164), guard := none },
  { dst := some 166, op := SOp.mv (Operand.tmp 3), guard := some (165, false) },
  { dst := some 167, op := SOp.mv (Operand.tmp 12), guard := some (165, false) },
  { dst := some 168, op := SOp.call 43 [Operand.tmp 166, Operand.tmp 167], guard := some (165, false) },
  { dst := some 169, op := SOp.nt (Operand.tmp 168), guard := some (165, false) },
  { dst := some 170, op := SOp.pick (Operand.tmp 165) (Operand.const (Value.bool true)) (Operand.tmp 169), guard := none },
  { dst := some 171, op := SOp.mv (Operand.tmp 170), guard := none },
  { dst := some 172, op := SOp.mv (Operand.tmp 15), guard := some (171, false) },
  { dst := some 173, op := SOp.lenSl (Operand.tmp 172), guard := some (171, false) },
  { dst := some 174, op := SOp.ib (BinOp.eql) (Operand.tmp 173) (Operand.const (Value.int (IntKind.i64) 0)), guard := some (171, false) },
  { dst := some 175, op := SOp.pick (Operand.tmp 171) (Operand.const (Value.bool true)) (Operand.tmp 174), guard := none }]
def c14_r19 : List SIns := [
  { dst := some 2, op := SOp.mv (Operand.const (Value.bool false)), guard := none }]
def c14_r20 : List SIns := [
  { dst := some 176, op := SOp.mv (Operand.tmp 12), guard := none },
  { dst := some 177, op := SOp.lenSl (Operand.tmp 176), guard := none },
  { dst := some 178, op := SOp.mv (Operand.const (Value.int (IntKind.i64) 0)), guard := none }]
def c14_r21 : List SIns := [
  { dst := some 179, op := SOp.ib (BinOp.lss) (Operand.tmp 178) (Operand.tmp 177), guard := none }]
def c14_r22 : List SIns := [
  { dst := some 180, op := SOp.mv (Operand.tmp 178), guard := none },
  { dst := some 181, op := SOp.idx 1 (Operand.tmp 176) (Operand.tmp 178), guard := none },
  { dst := some 182, op := SOp.load1 (Operand.tmp 181), guard := none },
  { dst := some 17, op := SOp.mv (Operand.tmp 180), guard := none },
  { dst := some 18, op := SOp.mv (Operand.tmp 182), guard := none }]
def c14_r23 : List SIns := [
  { dst := some 183, op := SOp.mv (Operand.tmp 17), guard := none },
  { dst := some 19, op := SOp.mv (Operand.tmp 183), guard := none }]
def c14_r24 : List SIns := [
  { dst := some 184, op := SOp.mv (Operand.tmp 17), guard := none },
  { dst := some 185, op := SOp.mv (Operand.tmp 14), guard := none },
  { dst := some 186, op := SOp.lenSl (Operand.tmp 185), guard := none },
  { dst := some 187, op := SOp.ib (BinOp.geq) (Operand.tmp 184) (Operand.tmp 186), guard := none }]
def c14_r25 : List SIns := [
  { dst := some 188, op := SOp.mv (Operand.tmp 17), guard := none },
  { dst := some 189, op := SOp.mv (Operand.tmp 14), guard := none },
  { dst := some 190, op := SOp.lenSl (Operand.tmp 189), guard := none },
  { dst := some 191, op := SOp.ib (BinOp.sub) (Operand.tmp 188) (Operand.tmp 190), guard := none },
  { dst := some 192, op := SOp.mv (Operand.tmp 15), guard := none },
  { dst := some 193, op := SOp.lenSl (Operand.tmp 192), guard := none },
  { dst := some 194, op := SOp.ib (BinOp.rem) (Operand.tmp 191) (Operand.tmp 193), guard := none },
  { dst := some 19, op := SOp.mv (Operand.tmp 194), guard := none }]
def c14_r26 : List SIns := [
  { dst := some 195, op := SOp.mv (Operand.tmp 18), guard := none },
  { dst := some 196, op := SOp.mv (Operand.tmp 15), guard := none },
  { dst := some 197, op := SOp.mv (Operand.tmp 19), guard := none },
  { dst := some 198, op := SOp.idx 1 (Operand.tmp 196) (Operand.tmp 197), guard := none },
  { dst := some 199, op := SOp.load1 (Operand.tmp 198), guard := none },
  { dst := some 200, op := SOp.ib (BinOp.neq) (Operand.tmp 195) (Operand.tmp 199), guard := none }]
def c14_r27 : List SIns := [
  { dst := some 2, op := SOp.mv (Operand.const (Value.bool false)), guard := none }]
def c14_r28 : List SIns := [
  { dst := some 201, op := SOp.mv (Operand.tmp 18), guard := none },
  { dst := some 202, op := SOp.mv (Operand.tmp 14), guard := none },
  { dst := some 203, op := SOp.mv (Operand.tmp 19), guard := none },
  { dst := some 204, op := SOp.idx 1 (Operand.tmp 202) (Operand.tmp 203), guard := none },
  { dst := some 205, op := SOp.load1 (Operand.tmp 204), guard := none },
  { dst := some 206, op := SOp.ib (BinOp.neq) (Operand.tmp 201) (Operand.tmp 205), guard := none }]
def c14_r29 : List SIns := [
  { dst := some 2, op := SOp.mv (Operand.const (Value.bool false)), guard := none }]
def c14_r30 : List SIns := [
  { dst := some 207, op := SOp.ib (BinOp.add) (Operand.tmp 178) (Operand.const (Value.int (IntKind.i64) 1)), guard := none },
  { dst := some 178, op := SOp.mv (Operand.tmp 207), guard := none }]
def c14_l1 : SCode := (.seq (.reg c14_r21 [3, 14, 15, 176, 177, 178, 179]) (.seq (.cond (Operand.tmp 179) .skip (.exit 2)) (.seq (.block 3 (.seq (.reg c14_r22 [3, 14, 15, 17, 18, 176, 177, 178]) (.seq (.reg c14_r23 [3, 14, 15, 17, 18, 19, 176, 177, 178]) (.seq (.reg c14_r24 [3, 14, 15, 17, 18, 19, 176, 177, 178, 187]) (.cond (Operand.tmp 187) (.seq (.reg c14_r25 [3, 14, 15, 18, 19, 176, 177, 178]) (.seq (.reg c14_r26 [3, 14, 15, 176, 177, 178, 200]) (.cond (Operand.tmp 200) (.seq (.reg c14_r27 [2]) .ret) .skip))) (.seq (.reg c14_r28 [3, 14, 15, 176, 177, 178, 206]) (.cond (Operand.tmp 206) (.seq (.reg c14_r29 [2]) .ret) .skip))))))) (.reg c14_r30 [3, 14, 15, 176, 177, 178]))))
def c14_r31 : List SIns := [
  { dst := some 208, op := SOp.mv (Operand.tmp 14), guard := none },
  { dst := some 209, op := SOp.mv (Operand.tmp 15), guard := none },
  { dst := some 210, op := SOp.mv (Operand.tmp 15), guard := none },
  { dst := some 211, op := SOp.mv (Operand.tmp 15), guard := none },
  { dst := some 212, op := SOp.mv (Operand.tmp 15), guard := none },
  { dst := some 213, op := SOp.mv (Operand.tmp 15), guard := none },
  { dst := some 214, op := SOp.mv (Operand.tmp 15), guard := none },
  { dst := some 215, op := SOp.mv (Operand.tmp 15), guard := none },
  { dst := some 216, op := SOp.mv (Operand.tmp 15), guard := none },
  { dst := some 217, op := SOp.mv (Operand.tmp 15), guard := none },
  { dst := some 218, op := SOp.mks 10 1 [Value.slice none 0 0, Value.slice none 0 0, Value.slice none 0 0, Value.slice none 0 0, Value.slice none 0 0, Value.slice none 0 0, Value.slice none 0 0, Value.slice none 0 0, Value.slice none 0 0, Value.slice none 0 0] [(0, 1, Operand.tmp 208), (1, 1, Operand.tmp 209), (2, 1, Operand.tmp 210), (3, 1, Operand.tmp 211), (4, 1, Operand.tmp 212), (5, 1, Operand.tmp 213), (6, 1, Operand.tmp 214), (7, 1, Operand.tmp 215), (8, 1, Operand.tmp 216), (9, 1, Operand.tmp 217)], guard := none },
  { dst := some 219, op := SOp.call 51 [Operand.tmp 218], guard := none },
  { dst := some 20, op := SOp.mv (Operand.tmp 219), guard := none }]
def c14_r32 : List SIns := [
  { dst := some 220, op := SOp.mv (Operand.tmp 3), guard := none },
  { dst := some 221, op := SOp.mv (Operand.tmp 20), guard := none },
  { dst := some 222, op := SOp.call 43 [Operand.tmp 220, Operand.tmp 221], guard := none },
  { dst := some 223, op := SOp.mv (Operand.tmp 222), guard := none },
  { dst := some 224, op := SOp.mv (Operand.tmp 15), guard := some (223, true) },
  { dst := some 225, op := SOp.lenSl (Operand.tmp 224), guard := some (223, true) },
  { dst := some 226, op := SOp.ib (BinOp.gtr) (Operand.tmp 225) (Operand.const (Value.int (IntKind.i64) 60)), guard := some (223, true) },
  { dst := some 227, op := SOp.mv (Operand.tmp 226), guard := some (223, true) },
  { dst := some 228, op := SOp.mv (Operand.tmp 3), guard := some (227, false) },
  { dst := some 229, op := SOp.mv (Operand.tmp 15), guard := some (227, false) },
  { dst := some 230, op := SOp.call 30 [Operand.tmp 228, Operand.tmp 229], guard := some (227, false) },
  { dst := some 231, op := SOp.ib (BinOp.eql) (Operand.tmp 230) (Operand.const (Value.int (IntKind.i64) 0)), guard := some (227, false) },
  { dst := some 232, op := SOp.pick (Operand.tmp 227) (Operand.const (Value.bool true)) (Operand.tmp 231), guard := some (223, true) },
  { dst := some 233, op := SOp.pick (Operand.tmp 223) (Operand.tmp 232) (Operand.const (Value.bool false)), guard := none },
  { dst := some 234, op := SOp.mv (Operand.tmp 233), guard := none },
  { dst := some 235, op := SOp.call 16 [], guard := some (234, true) },
  { dst := some 236, op := SOp.pick (Operand.tmp 234) (Operand.tmp 235) (Operand.const (Value.bool false)), guard := none },
  { dst := some 2, op := SOp.mv (Operand.tmp 236), guard := none }]
def c14 : SCode := (.seq (.reg c14_r0 [1]) (.seq (.reg c14_r1 [3]) (.seq (.reg c14_r2 [3, 4, 5, 6]) (.seq (.reg c14_r3 [3, 4, 5, 6, 7, 8]) (.seq (.reg c14_r4 [3, 4, 5, 6, 7, 8, 9, 10]) (.seq (.seq (.reg c14_r5 [3, 4, 5, 7, 9, 10, 74]) (.cond (Operand.tmp 74) (.seq (.reg c14_r6 [2]) .ret) .skip)) (.seq (.seq (.reg c14_r7 [3, 4, 5, 7, 9, 10, 11]) (.block 0 (.loop c14_l0))) (.seq (.seq (.reg c14_r12 [3, 7, 9, 10, 104]) (.cond (Operand.tmp 104) (.seq (.reg c14_r13 [2]) .ret) .skip)) (.seq (.reg c14_r14 [3, 7, 9, 10, 12, 13]) (.seq (.reg c14_r15 [3, 7, 9, 10, 12, 13, 14, 15, 16]) (.seq (.seq (.reg c14_r16 [3, 9, 10, 12, 13, 14, 15, 16, 117]) (.cond (Operand.tmp 117) (.seq (.reg c14_r17 [2]) .ret) .skip)) (.seq (.seq (.reg c14_r18 [3, 12, 14, 15, 175]) (.cond (Operand.tmp 175) (.seq (.reg c14_r19 [2]) .ret) .skip)) (.seq (.seq (.reg c14_r20 [3, 14, 15, 176, 177, 178]) (.block 2 (.loop c14_l1))) (.seq (.reg c14_r31 [3, 15, 20]) (.seq (.reg c14_r32 [2]) .ret)))))))))))))))
theorem F14 : Fn Try.prog 14 c14 [SRes.tmp 2] 237 := ⟨Try.f14, Try.f14.body.getD .skip, [[1], [3], [3, 4, 5, 6], [3, 4, 5, 6, 7, 8], [3, 4, 5, 6, 7, 8, 9, 10], [3, 4, 5, 7, 9, 10, 74], [2], [3, 4, 5, 7, 9, 10, 11], [3, 4, 5, 7, 9, 10, 11, 77], [3, 4, 5, 7, 9, 10, 11, 89], [2], [3, 4, 5, 7, 9, 10, 11], [3, 7, 9, 10, 104], [2], [3, 7, 9, 10, 12, 13], [3, 7, 9, 10, 12, 13, 14, 15, 16], [3, 9, 10, 12, 13, 14, 15, 16, 117], [2], [3, 12, 14, 15, 175], [2], [3, 14, 15, 176, 177, 178], [3, 14, 15, 176, 177, 178, 179], [3, 14, 15, 17, 18, 176, 177, 178], [3, 14, 15, 17, 18, 19, 176, 177, 178], [3, 14, 15, 17, 18, 19, 176, 177, 178, 187], [3, 14, 15, 18, 19, 176, 177, 178], [3, 14, 15, 176, 177, 178, 200], [2], [3, 14, 15, 176, 177, 178, 206], [2], [3, 14, 15, 176, 177, 178], [3, 15, 20], [2]], Try.func14, by kernel_rfl, by kernel_rfl, by kernel_rfl, by kernel_rfl, by decide⟩
end Go.Sx.Wk
set_option maxRecDepth 100000
namespace Go.Sx.Wk
open Go Go.Sx Go.Proofs

def c38_r0 : List SIns := [
  { dst := some 6, op := SOp.mv (Operand.const (Value.int (IntKind.i64) 0)), guard := none }]
def c38_r1 : List SIns := [
  { dst := some 7, op := SOp.mv (Operand.const (Value.int (IntKind.i64) 0)), guard := none }]
def c38_r2 : List SIns := [
  { dst := some 10, op := SOp.mv (Operand.tmp 0), guard := none },
  { dst := some 11, op := SOp.lenSl (Operand.tmp 10), guard := none },
  { dst := some 12, op := SOp.mv (Operand.const (Value.int (IntKind.i64) 0)), guard := none }]
def c38_r3 : List SIns := [
  { dst := some 13, op := SOp.ib (BinOp.lss) (Operand.tmp 12) (Operand.tmp 11), guard := none }]
def c38_r4 : List SIns := [
  { dst := some 14, op := SOp.idx 1 (Operand.tmp 10) (Operand.tmp 12), guard := none },
  { dst := some 15, op := SOp.load1 (Operand.tmp 14), guard := none },
  { dst := some 9, op := SOp.mv (Operand.tmp 15), guard := none }]
def c38_r5 : List SIns := [
  { dst := some 16, op := SOp.mv (Operand.tmp 7), guard := none },
  { dst := some 17, op := SOp.mv (Operand.tmp 9), guard := none },
  { dst := some 18, op := SOp.ib (BinOp.quo) (Operand.const (Value.int (IntKind.i64) 840)) (Operand.tmp 17), guard := none },
  { dst := some 19, op := SOp.mv (Operand.tmp 2), guard := none },
  { dst := some 20, op := SOp.ib (BinOp.mul) (Operand.tmp 18) (Operand.tmp 19), guard := none },
  { dst := some 21, op := SOp.ib (BinOp.add) (Operand.tmp 16) (Operand.tmp 20), guard := none },
  { dst := some 7, op := SOp.mv (Operand.tmp 21), guard := none }]
def c38_r6 : List SIns := [
  { dst := some 22, op := SOp.ib (BinOp.add) (Operand.tmp 12) (Operand.const (Value.int (IntKind.i64) 1)), guard := none },
  { dst := some 12, op := SOp.mv (Operand.tmp 22), guard := none }]
def c38_l0 : SCode := (.seq (.reg c38_r3 [1, 2, 7, 10, 11, 12, 13]) (.seq (.cond (Operand.tmp 13) .skip (.exit 0)) (.seq (.block 1 (.seq (.reg c38_r4 [1, 2, 7, 9, 10, 11, 12]) (.reg c38_r5 [1, 2, 7, 10, 11, 12]))) (.reg c38_r6 [1, 2, 7, 10, 11, 12]))))
def c38_r7 : List SIns := [
  { dst := some 23, op := SOp.mv (Operand.tmp 7), guard := none },
  { dst := some 24, op := SOp.mv (Operand.tmp 1), guard := none },
  { dst := some 25, op := SOp.ib (BinOp.mul) (Operand.const (Value.int (IntKind.i64) 840)) (Operand.tmp 24), guard := none },
  { dst := some 26, op := SOp.ib (BinOp.sub) (Operand.tmp 23) (Operand.tmp 25), guard := none },
  { dst := some 27, op := SOp.big true [Operand.const (Value.int (IntKind.i64) (-1)), Operand.tmp 26], guard := none },
  { dst := some 28, op := SOp.big false [Operand.const (Value.int (IntKind.i64) 1), Operand.tmp 27], guard := none },
  { dst := some 6, op := SOp.mv (Operand.tmp 28), guard := none }]
def c38 : SCode := (.seq (.reg c38_r0 [0, 1, 2]) (.seq (.reg c38_r1 [0, 1, 2, 7]) (.seq (.seq (.reg c38_r2 [1, 2, 7, 10, 11, 12]) (.block 0 (.loop c38_l0))) (.seq (.reg c38_r7 [6]) .ret))))
theorem F38 : Fn Try.prog 38 c38 [SRes.tmp 6] 29 := ⟨Try.f38, Try.f38.body.getD .skip, [[0, 1, 2], [0, 1, 2, 7], [1, 2, 7, 10, 11, 12], [1, 2, 7, 10, 11, 12, 13], [1, 2, 7, 9, 10, 11, 12], [1, 2, 7, 10, 11, 12], [1, 2, 7, 10, 11, 12], [6]], Try.func38, by kernel_rfl, by kernel_rfl, by kernel_rfl, by kernel_rfl, by decide⟩
end Go.Sx.Wk
set_option maxRecDepth 100000
namespace Go.Sx.Wk
open Go Go.Sx Go.Proofs

def c42_r0 : List SIns := [
  { dst := some 3, op := SOp.box (Operand.tmp 0), guard := none },
  { dst := some 6, op := SOp.mv (Operand.const (Value.slice none 0 0)), guard := none }]
def c42_r1 : List SIns := [
  { dst := some 7, op := SOp.mv (Operand.const (Value.slice none 0 0)), guard := none }]
def c42_r2 : List SIns := [
  { dst := some 10, op := SOp.off 1 (Operand.tmp 3), guard := none },
  { dst := some 11, op := SOp.off 0 (Operand.tmp 3), guard := none },
  { dst := some 12, op := SOp.load1 (Operand.tmp 11), guard := none },
  { dst := some 13, op := SOp.ci (IntKind.i64) (Operand.tmp 12), guard := none },
  { dst := some 14, op := SOp.mv (Operand.tmp 1), guard := none },
  { dst := some 15, op := SOp.ib (BinOp.rem) (Operand.tmp 13) (Operand.tmp 14), guard := none },
  { dst := some 16, op := SOp.ib (BinOp.add) (Operand.const (Value.int (IntKind.i64) 1)) (Operand.tmp 15), guard := none },
  { dst := some 17, op := SOp.slcA 4 1 (Operand.tmp 10) none (some (Operand.tmp 16)) none, guard := none },
  { dst := some 18, op := SOp.lenSl (Operand.tmp 17), guard := none },
  { dst := some 19, op := SOp.mv (Operand.const (Value.int (IntKind.i64) 0)), guard := none }]
def c42_r3 : List SIns := [
  { dst := some 20, op := SOp.ib (BinOp.lss) (Operand.tmp 19) (Operand.tmp 18), guard := none }]
def c42_r4 : List SIns := [
  { dst := some 21, op := SOp.idx 1 (Operand.tmp 17) (Operand.tmp 19), guard := none },
  { dst := some 22, op := SOp.load1 (Operand.tmp 21), guard := none },
  { dst := some 9, op := SOp.mv (Operand.tmp 22), guard := none }]
def c42_r5 : List SIns := [
  { dst := some 23, op := SOp.mv (Operand.tmp 7), guard := none },
  { dst := some 24, op := SOp.mv (Operand.tmp 9), guard := none },
  { dst := some 25, op := SOp.ci (IntKind.i64) (Operand.tmp 24), guard := none },
  { dst := some 26, op := SOp.mv (Operand.tmp 2), guard := none },
  { dst := some 27, op := SOp.ib (BinOp.rem) (Operand.tmp 25) (Operand.tmp 26), guard := none },
  { dst := some 28, op := SOp.ib (BinOp.add) (Operand.const (Value.int (IntKind.i64) 1)) (Operand.tmp 27), guard := none },
  { dst := some 29, op := SOp.mks 1 1 [Value.int (IntKind.i64) 0] [(0, 1, Operand.tmp 28)], guard := none },
  { dst := some 30, op := SOp.app 1 8 (Operand.tmp 23) (Operand.tmp 29), guard := none },
  { dst := some 7, op := SOp.mv (Operand.tmp 30), guard := none }]
def c42_r6 : List SIns := [
  { dst := some 31, op := SOp.ib (BinOp.add) (Operand.tmp 19) (Operand.const (Value.int (IntKind.i64) 1)), guard := none },
  { dst := some 19, op := SOp.mv (Operand.tmp 31), guard := none }]
def c42_l0 : SCode := (.seq (.reg c42_r3 [2, 7, 17, 18, 19, 20]) (.seq (.cond (Operand.tmp 20) .skip (.exit 0)) (.seq (.block 1 (.seq (.reg c42_r4 [2, 7, 9, 17, 18, 19]) (.reg c42_r5 [2, 7, 17, 18, 19]))) (.reg c42_r6 [2, 7, 17, 18, 19]))))
def c42_r7 : List SIns := [
  { dst := some 32, op := SOp.mv (Operand.tmp 7), guard := none },
  { dst := some 6, op := SOp.mv (Operand.tmp 32), guard := none }]
def c42 : SCode := (.seq (.reg c42_r0 [1, 2, 3]) (.seq (.reg c42_r1 [1, 2, 3, 7]) (.seq (.seq (.reg c42_r2 [2, 7, 17, 18, 19]) (.block 0 (.loop c42_l0))) (.seq (.reg c42_r7 [6]) .ret))))
theorem F42 : Fn Try.prog 42 c42 [SRes.tmp 6] 33 := ⟨Try.f42, Try.f42.body.getD .skip, [[1, 2, 3], [1, 2, 3, 7], [2, 7, 17, 18, 19], [2, 7, 17, 18, 19, 20], [2, 7, 9, 17, 18, 19], [2, 7, 17, 18, 19], [2, 7, 17, 18, 19], [6]], Try.func42, by kernel_rfl, by kernel_rfl, by kernel_rfl, by kernel_rfl, by decide⟩
end Go.Sx.Wk
set_option maxRecDepth 100000
namespace Go.Sx.Wk
open Go Go.Sx Go.Proofs

def c43_r0 : List SIns := [
  { dst := some 4, op := SOp.mv (Operand.const (Value.bool false)), guard := none }]
def c43_r1 : List SIns := [
  { dst := some 8, op := SOp.mv (Operand.tmp 0), guard := none },
  { dst := some 9, op := SOp.lenSl (Operand.tmp 8), guard := none },
  { dst := some 10, op := SOp.mv (Operand.const (Value.int (IntKind.i64) 0)), guard := none }]
def c43_r2 : List SIns := [
  { dst := some 11, op := SOp.ib (BinOp.lss) (Operand.tmp 10) (Operand.tmp 9), guard := none }]
def c43_r3 : List SIns := [
  { dst := some 12, op := SOp.mv (Operand.tmp 10), guard := none },
  { dst := some 13, op := SOp.idx 1 (Operand.tmp 8) (Operand.tmp 10), guard := none },
  { dst := some 14, op := SOp.load1 (Operand.tmp 13), guard := none },
  { dst := some 5, op := SOp.mv (Operand.tmp 12), guard := none },
  { dst := some 6, op := SOp.mv (Operand.tmp 14), guard := none }]
def c43_r4 : List SIns := [
  { dst := some 7, op := SOp.mv (Operand.const (Value.int (IntKind.i64) 0)), guard := none }]
def c43_r5 : List SIns := [
  { dst := some 15, op := SOp.mv (Operand.tmp 7), guard := none },
  { dst := some 16, op := SOp.mv (Operand.tmp 6), guard := none },
  { dst := some 17, op := SOp.ib (BinOp.add) (Operand.tmp 15) (Operand.tmp 16), guard := none },
  { dst := some 18, op := SOp.mv (Operand.tmp 1), guard := none },
  { dst := some 19, op := SOp.lenSl (Operand.tmp 18), guard := none },
  { dst := some 20, op := SOp.ib (BinOp.leq) (Operand.tmp 17) (Operand.tmp 19), guard := none }]
def c43_r6 : List SIns := [
  { dst := some 23, op := SOp.mv (Operand.tmp 1), guard := none },
  { dst := some 24, op := SOp.mv (Operand.tmp 7), guard := none },
  { dst := some 25, op := SOp.mv (Operand.tmp 7), guard := none },
  { dst := some 26, op := SOp.mv (Operand.tmp 6), guard := none },
  { dst := some 27, op := SOp.ib (BinOp.add) (Operand.tmp 25) (Operand.tmp 26), guard := none },
  { dst := some 28, op := SOp.slc 1 (Operand.tmp 23) (some (Operand.tmp 24)) (some (Operand.tmp 27)) none, guard := none },
  { dst := some 29, op := SOp.mv (Operand.tmp 5), guard := none },
  { dst := some 30, op := SOp.call 72 [Operand.tmp 28, Operand.tmp 29], guard := none },
  { dst := some 31, op := SOp.nt (Operand.tmp 30), guard := none }]
def c43_r7 : List SIns := [
  { dst := some 4, op := SOp.mv (Operand.const (Value.bool false)), guard := none }]
def c43_r8 : List SIns := [
  { dst := some 21, op := SOp.mv (Operand.tmp 7), guard := none },
  { dst := some 22, op := SOp.ib (BinOp.add) (Operand.tmp 21) (Operand.const (Value.int (IntKind.i64) 1)), guard := none },
  { dst := some 7, op := SOp.mv (Operand.tmp 22), guard := none }]
def c43_l0 : SCode := (.seq (.seq (.reg c43_r5 [1, 5, 6, 7, 8, 9, 10, 20]) (.cond (Operand.tmp 20) .skip (.exit 2))) (.seq (.block 3 (.seq (.reg c43_r6 [1, 5, 6, 7, 8, 9, 10, 31]) (.cond (Operand.tmp 31) (.seq (.reg c43_r7 [4]) .ret) .skip))) (.reg c43_r8 [1, 5, 6, 7, 8, 9, 10])))
def c43_r9 : List SIns := [
  { dst := some 32, op := SOp.ib (BinOp.add) (Operand.tmp 10) (Operand.const (Value.int (IntKind.i64) 1)), guard := none },
  { dst := some 10, op := SOp.mv (Operand.tmp 32), guard := none }]
def c43_l1 : SCode := (.seq (.reg c43_r2 [1, 8, 9, 10, 11]) (.seq (.cond (Operand.tmp 11) .skip (.exit 0)) (.seq (.block 1 (.seq (.reg c43_r3 [1, 5, 6, 8, 9, 10]) (.seq (.reg c43_r4 [1, 5, 6, 7, 8, 9, 10]) (.block 2 (.loop c43_l0))))) (.reg c43_r9 [1, 8, 9, 10]))))
def c43_r10 : List SIns := [
  { dst := some 4, op := SOp.mv (Operand.const (Value.bool true)), guard := none }]
def c43 : SCode := (.seq (.reg c43_r0 [0, 1]) (.seq (.seq (.reg c43_r1 [1, 8, 9, 10]) (.block 0 (.loop c43_l1))) (.seq (.reg c43_r10 [4]) .ret)))
theorem F43 : Fn Try.prog 43 c43 [SRes.tmp 4] 33 := ⟨Try.f43, Try.f43.body.getD .skip, [[0, 1], [1, 8, 9, 10], [1, 8, 9, 10, 11], [1, 5, 6, 8, 9, 10], [1, 5, 6, 7, 8, 9, 10], [1, 5, 6, 7, 8, 9, 10, 20], [1, 5, 6, 7, 8, 9, 10, 31], [4], [1, 5, 6, 7, 8, 9, 10], [1, 8, 9, 10], [4]], Try.func43, by kernel_rfl, by kernel_rfl, by kernel_rfl, by kernel_rfl, by decide⟩
end Go.Sx.Wk
set_option maxRecDepth 100000
namespace Go.Sx.Wk
open Go Go.Sx Go.Proofs

def c51_r0 : List SIns := [
  { dst := some 2, op := SOp.mv (Operand.const (Value.slice none 0 0)), guard := none }]
def c51_r1 : List SIns := [
  { dst := some 3, op := SOp.mv (Operand.const (Value.int (IntKind.i64) 0)), guard := none }]
def c51_r2 : List SIns := [
  { dst := some 9, op := SOp.mv (Operand.tmp 0), guard := none },
  { dst := some 10, op := SOp.lenSl (Operand.tmp 9), guard := none },
  { dst := some 11, op := SOp.mv (Operand.const (Value.int (IntKind.i64) 0)), guard := none }]
def c51_r3 : List SIns := [
  { dst := some 12, op := SOp.ib (BinOp.lss) (Operand.tmp 11) (Operand.tmp 10), guard := none }]
def c51_r4 : List SIns := [
  { dst := some 13, op := SOp.idx 1 (Operand.tmp 9) (Operand.tmp 11), guard := none },
  { dst := some 14, op := SOp.load1 (Operand.tmp 13), guard := none },
  { dst := some 5, op := SOp.mv (Operand.tmp 14), guard := none }]
def c51_r5 : List SIns := [
  { dst := some 15, op := SOp.mv (Operand.tmp 3), guard := none },
  { dst := some 16, op := SOp.mv (Operand.tmp 5), guard := none },
  { dst := some 17, op := SOp.lenSl (Operand.tmp 16), guard := none },
  { dst := some 18, op := SOp.ib (BinOp.add) (Operand.tmp 15) (Operand.tmp 17), guard := none },
  { dst := some 3, op := SOp.mv (Operand.tmp 18), guard := none }]
def c51_r6 : List SIns := [
  { dst := some 19, op := SOp.mv (Operand.tmp 3), guard := none },
  { dst := some 20, op := SOp.ib (BinOp.lss) (Operand.tmp 19) (Operand.const (Value.int (IntKind.i64) 0)), guard := none }]
def c51_r7 : List SIns := [
  { dst := some 21, op := SOp.mkifc 9 (Operand.const (Value.string (⟨#[108, 101, 110, 32, 111, 117, 116, 32, 111, 102, 32, 114, 97, 110, 103, 101]⟩ : ByteArray))), guard := none },
  { dst := none, op := SOp.fail, guard := none }]
def c51_r8 : List SIns := [
  { dst := some 22, op := SOp.ib (BinOp.add) (Operand.tmp 11) (Operand.const (Value.int (IntKind.i64) 1)), guard := none },
  { dst := some 11, op := SOp.mv (Operand.tmp 22), guard := none }]
def c51_l0 : SCode := (.seq (.reg c51_r3 [0, 3, 9, 10, 11, 12]) (.seq (.cond (Operand.tmp 12) .skip (.exit 0)) (.seq (.block 1 (.seq (.reg c51_r4 [0, 3, 5, 9, 10, 11]) (.seq (.reg c51_r5 [0, 3, 9, 10, 11]) (.seq (.reg c51_r6 [0, 3, 9, 10, 11, 20]) (.cond (Operand.tmp 20) (.reg c51_r7 [0, 3, 9, 10, 11]) .skip))))) (.reg c51_r8 [0, 3, 9, 10, 11]))))
def c51_r9 : List SIns := [
  { dst := some 23, op := SOp.mv (Operand.tmp 3), guard := none },
  { dst := some 24, op := SOp.call 76 [Operand.const (Value.slice none 0 0), Operand.tmp 23], guard := none },
  { dst := some 6, op := SOp.mv (Operand.tmp 24), guard := none }]
def c51_r10 : List SIns := [
  { dst := some 25, op := SOp.mv (Operand.tmp 0), guard := none },
  { dst := some 26, op := SOp.lenSl (Operand.tmp 25), guard := none },
  { dst := some 27, op := SOp.mv (Operand.const (Value.int (IntKind.i64) 0)), guard := none }]
def c51_r11 : List SIns := [
  { dst := some 28, op := SOp.ib (BinOp.lss) (Operand.tmp 27) (Operand.tmp 26), guard := none }]
def c51_r12 : List SIns := [
  { dst := some 29, op := SOp.idx 1 (Operand.tmp 25) (Operand.tmp 27), guard := none },
  { dst := some 30, op := SOp.load1 (Operand.tmp 29), guard := none },
  { dst := some 8, op := SOp.mv (Operand.tmp 30), guard := none }]
def c51_r13 : List SIns := [
  { dst := some 31, op := SOp.mv (Operand.tmp 6), guard := none },
  { dst := some 32, op := SOp.mv (Operand.tmp 8), guard := none },
  { dst := some 33, op := SOp.app 1 8 (Operand.tmp 31) (Operand.tmp 32), guard := none },
  { dst := some 6, op := SOp.mv (Operand.tmp 33), guard := none }]
def c51_r14 : List SIns := [
  { dst := some 34, op := SOp.ib (BinOp.add) (Operand.tmp 27) (Operand.const (Value.int (IntKind.i64) 1)), guard := none },
  { dst := some 27, op := SOp.mv (Operand.tmp 34), guard := none }]
def c51_l1 : SCode := (.seq (.reg c51_r11 [6, 25, 26, 27, 28]) (.seq (.cond (Operand.tmp 28) .skip (.exit 2)) (.seq (.block 3 (.seq (.reg c51_r12 [6, 8, 25, 26, 27]) (.reg c51_r13 [6, 25, 26, 27]))) (.reg c51_r14 [6, 25, 26, 27]))))
def c51_r15 : List SIns := [
  { dst := some 35, op := SOp.mv (Operand.tmp 6), guard := none },
  { dst := some 2, op := SOp.mv (Operand.tmp 35), guard := none }]
def c51 : SCode := (.seq (.reg c51_r0 [0]) (.seq (.reg c51_r1 [0, 3]) (.seq (.seq (.reg c51_r2 [0, 3, 9, 10, 11]) (.block 0 (.loop c51_l0))) (.seq (.reg c51_r9 [0, 6]) (.seq (.seq (.reg c51_r10 [6, 25, 26, 27]) (.block 2 (.loop c51_l1))) (.seq (.reg c51_r15 [2]) .ret))))))
theorem F51 : Fn Try.prog 51 c51 [SRes.tmp 2] 36 := ⟨Try.f51, Try.f51.body.getD .skip, [[0], [0, 3], [0, 3, 9, 10, 11], [0, 3, 9, 10, 11, 12], [0, 3, 5, 9, 10, 11], [0, 3, 9, 10, 11], [0, 3, 9, 10, 11, 20], [0, 3, 9, 10, 11], [0, 3, 9, 10, 11], [0, 6], [6, 25, 26, 27], [6, 25, 26, 27, 28], [6, 8, 25, 26, 27], [6, 25, 26, 27], [6, 25, 26, 27], [2]], Try.func51, by kernel_rfl, by kernel_rfl, by kernel_rfl, by kernel_rfl, by decide⟩
end Go.Sx.Wk
set_option maxRecDepth 100000
namespace Go.Sx.Wk
open Go Go.Sx Go.Proofs

def c72_r0 : List SIns := [
  { dst := some 4, op := SOp.mv (Operand.const (Value.bool false)), guard := none }]
def c72_r1 : List SIns := [
  { dst := some 5, op := SOp.mv (Operand.tmp 0), guard := none },
  { dst := some 6, op := SOp.mv (Operand.tmp 1), guard := none },
  { dst := some 7, op := SOp.call 67 [Operand.tmp 5, Operand.tmp 6], guard := none },
  { dst := some 8, op := SOp.ib (BinOp.geq) (Operand.tmp 7) (Operand.const (Value.int (IntKind.i64) 0)), guard := none },
  { dst := some 4, op := SOp.mv (Operand.tmp 8), guard := none }]
def c72 : SCode := (.seq (.reg c72_r0 [0, 1]) (.seq (.reg c72_r1 [4]) .ret))
theorem F72 : Fn Try.prog 72 c72 [SRes.tmp 4] 9 := ⟨Try.f72, Try.f72.body.getD .skip, [[0, 1], [4]], Try.func72, by kernel_rfl, by kernel_rfl, by kernel_rfl, by kernel_rfl, by decide⟩
end Go.Sx.Wk
