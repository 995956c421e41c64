/- The codes of the functions, written by a program (Gen.lean), and that they are the functions'. No conditions. -/
import Derived.Test.YtmakepdccccmaaaSxN
import Derived.KernelRfl
import Derived.Test.YtmakepdccccmaaaProg
set_option linter.unusedVariables false
set_option maxRecDepth 100000
namespace Go.Sx.Wk
open Go Go.Sx Go.Proofs

def c12_r0 : List SIns := [
  { dst := some 3, op := SOp.box (Operand.tmp 0), guard := none },
  { dst := some 4, op := SOp.box (Operand.tmp 1), guard := none },
  { dst := some 6, op := SOp.mv (Operand.const (Value.bool false)), guard := none }]
def c12_r1 : List SIns := [
  { dst := some 27, op := SOp.loadN 5 (Operand.tmp 3), guard := none },
  { dst := some 28, op := SOp.call 42 [Operand.tmp 27, Operand.const (Value.int (IntKind.i64) 4), Operand.const (Value.int (IntKind.i64) 7)], guard := none },
  { dst := some 7, op := SOp.mv (Operand.tmp 28), guard := none }]
def c12_r2 : List SIns := [
  { dst := some 29, op := SOp.mv (Operand.tmp 7), guard := none },
  { dst := some 30, op := SOp.call 45 [Operand.tmp 29], guard := none },
  { dst := some 8, op := SOp.mv (Operand.tmp 30), guard := none }]
def c12_r3 : List SIns := [
  { dst := some 31, op := SOp.mv (Operand.tmp 8), guard := none },
  { dst := some 32, op := SOp.lenSl (Operand.tmp 31), guard := none },
  { dst := some 33, op := SOp.mv (Operand.const (Value.int (IntKind.i64) 0)), guard := none }]
def c12_r4 : List SIns := [
  { dst := some 34, op := SOp.ib (BinOp.lss) (Operand.tmp 33) (Operand.tmp 32), guard := none }]
def c12_r5 : List SIns := [
  { dst := some 35, op := SOp.mv (Operand.tmp 33), guard := none },
  { dst := some 9, op := SOp.mv (Operand.tmp 35), guard := none }]
def c12_r6 : List SIns := [
  { dst := some 36, op := SOp.mv (Operand.tmp 9), guard := none },
  { dst := some 37, op := SOp.idxA 4 1 (Operand.tmp 4) (Operand.tmp 36), guard := none },
  { dst := some 38, op := SOp.load1 (Operand.tmp 37), guard := none },
  { dst := some 39, op := SOp.ci (IntKind.i64) (Operand.tmp 38), guard := none },
  { dst := some 40, op := SOp.mv (Operand.tmp 9), guard := none },
  { dst := some 41, op := SOp.ib (BinOp.add) (Operand.tmp 40) (Operand.const (Value.int (IntKind.i64) 1)), guard := none },
  { dst := some 42, op := SOp.ib (BinOp.rem) (Operand.tmp 39) (Operand.tmp 41), guard := none },
  { dst := some 10, op := SOp.mv (Operand.tmp 42), guard := none }]
def c12_r7 : List SIns := [
  { dst := some 43, op := SOp.mv (Operand.tmp 8), guard := none },
  { dst := some 44, op := SOp.mv (Operand.tmp 9), guard := none },
  { dst := some 45, op := SOp.mv (Operand.tmp 8), guard := none },
  { dst := some 46, op := SOp.mv (Operand.tmp 10), guard := none },
  { dst := some 47, op := SOp.mv (Operand.tmp 8), guard := none },
  { dst := some 48, op := SOp.mv (Operand.tmp 10), guard := none },
  { dst := some 49, op := SOp.idx 1 (Operand.tmp 47) (Operand.tmp 48), guard := none },
  { dst := some 50, op := SOp.load1 (Operand.tmp 49), guard := none },
  { dst := some 51, op := SOp.mv (Operand.tmp 8), guard := none },
  { dst := some 52, op := SOp.mv (Operand.tmp 9), guard := none },
  { dst := some 53, op := SOp.idx 1 (Operand.tmp 51) (Operand.tmp 52), guard := none },
  { dst := some 54, op := SOp.load1 (Operand.tmp 53), guard := none },
  { dst := some 55, op := SOp.idx 1 (Operand.tmp 43) (Operand.tmp 44), guard := none },
  { dst := none, op := SOp.store 1 (Operand.tmp 55) (Operand.tmp 50), guard := none },
  { dst := some 56, op := SOp.idx 1 (Operand.tmp 45) (Operand.tmp 46), guard := none },
  { dst := none, op := SOp.store 1 (Operand.tmp 56) (Operand.tmp 54), guard := none }]
def c12_r8 : List SIns := [
  { dst := some 57, op := SOp.ib (BinOp.add) (Operand.tmp 33) (Operand.const (Value.int (IntKind.i64) 1)), guard := none },
  { dst := some 33, op := SOp.mv (Operand.tmp 57), guard := none }]
def c12_l0 : SCode := (.seq (.reg c12_r4 [2, 4, 7, 8, 32, 33, 34]) (.seq (.cond (Operand.tmp 34) .skip (.exit 0)) (.seq (.block 1 (.seq (.reg c12_r5 [2, 4, 7, 8, 9, 32, 33]) (.seq (.reg c12_r6 [2, 4, 7, 8, 9, 10, 32, 33]) (.draw c12_r7 [[], [], [], [], [], [], [4, 5], [6, 4, 5], [], [], [8, 9], [10, 8, 9], [0, 1, 0, 1, 4, 5, 6, 7, 11, 4, 5, 6, 4, 5, 10, 8, 9], [12, 7, 0, 1, 4, 5, 6, 7, 11, 0, 1, 0, 1, 4, 5, 6, 7, 11, 4, 5, 6, 4, 5, 10, 8, 9, 6, 4, 5, 4, 5, 6, 4, 5, 10, 8, 9], [2, 3, 0, 1, 2, 3, 4, 5, 6, 7, 8, 9, 10, 11, 12, 13, 4, 5, 6, 4, 5, 8, 9, 10, 8, 9, 0, 1, 0, 1, 4, 5, 6, 7, 11, 4, 5, 6, 4, 5, 10, 8, 9, 12, 7, 0, 1, 4, 5, 6, 7, 11, 0, 1, 0, 1, 4, 5, 6, 7, 11, 4, 5, 6, 4, 5, 10, 8, 9, 6, 4, 5, 4, 5, 6, 4, 5, 10, 8, 9], [14, 11, 13, 0, 1, 2, 3, 4, 5, 6, 7, 8, 9, 10, 11, 12, 13, 2, 3, 0, 1, 2, 3, 4, 5, 6, 7, 8, 9, 10, 11, 12, 13, 4, 5, 6, 4, 5, 8, 9, 10, 8, 9, 0, 1, 0, 1, 4, 5, 6, 7, 11, 4, 5, 6, 4, 5, 10, 8, 9, 12, 7, 0, 1, 4, 5, 6, 7, 11, 0, 1, 0, 1, 4, 5, 6, 7, 11, 4, 5, 6, 4, 5, 10, 8, 9, 6, 4, 5, 4, 5, 6, 4, 5, 10, 8, 9, 10, 8, 9, 12, 7, 0, 1, 4, 5, 6, 7, 11, 0, 1, 0, 1, 4, 5, 6, 7, 11, 4, 5, 6, 4, 5, 10, 8, 9, 6, 4, 5, 4, 5, 6, 4, 5, 10, 8, 9, 4, 5, 6, 4, 5, 8, 9, 10, 8, 9, 0, 1, 0, 1, 4, 5, 6, 7, 11, 4, 5, 6, 4, 5, 10, 8, 9, 12, 7, 0, 1, 4, 5, 6, 7, 11, 0, 1, 0, 1, 4, 5, 6, 7, 11, 4, 5, 6, 4, 5, 10, 8, 9, 6, 4, 5, 4, 5, 6, 4, 5, 10, 8, 9]] [2, 4, 7, 8, 32, 33])))) (.reg c12_r8 [2, 4, 7, 8, 32, 33]))))
def c12_r9 : List SIns := [
  { dst := some 58, op := SOp.mv (Operand.tmp 2), guard := none },
  { dst := some 59, op := SOp.ci (IntKind.i64) (Operand.tmp 58), guard := none },
  { dst := some 60, op := SOp.mv (Operand.tmp 7), guard := none },
  { dst := some 61, op := SOp.lenSl (Operand.tmp 60), guard := none },
  { dst := some 62, op := SOp.ib (BinOp.rem) (Operand.tmp 59) (Operand.tmp 61), guard := none },
  { dst := some 11, op := SOp.mv (Operand.tmp 62), guard := none }]
def c12_r10 : List SIns := [
  { dst := some 63, op := SOp.mv (Operand.tmp 7), guard := none },
  { dst := some 64, op := SOp.call 45 [Operand.tmp 63], guard := none },
  { dst := some 12, op := SOp.mv (Operand.tmp 64), guard := none }]
def c12_r11 : List SIns := [
  { dst := some 65, op := SOp.mv (Operand.tmp 12), guard := none },
  { dst := some 66, op := SOp.mv (Operand.tmp 11), guard := none },
  { dst := some 67, op := SOp.idx 1 (Operand.tmp 65) (Operand.tmp 66), guard := none },
  { dst := some 68, op := SOp.load1 (Operand.tmp 67), guard := none },
  { dst := some 69, op := SOp.ib (BinOp.add) (Operand.tmp 68) (Operand.const (Value.int (IntKind.i64) 1)), guard := none },
  { dst := some 70, op := SOp.idx 1 (Operand.tmp 65) (Operand.tmp 66), guard := none },
  { dst := none, op := SOp.store 1 (Operand.tmp 70) (Operand.tmp 69), guard := none }]
def c12_r12 : List SIns := [
  { dst := some 72, op := SOp.mv (Operand.tmp 7), guard := none },
  { dst := some 73, op := SOp.call 19 [Operand.tmp 72], guard := none },
  { dst := some 71, op := SOp.mv (Operand.tmp 73), guard := none },
  { dst := some 74, op := SOp.ext (Operand.tmp 71) 0, guard := none },
  { dst := some 75, op := SOp.ext (Operand.tmp 71) 1, guard := none },
  { dst := some 13, op := SOp.mv (Operand.tmp 74), guard := none },
  { dst := some 14, op := SOp.mv (Operand.tmp 75), guard := none }]
def c12_r13 : List SIns := [
  { dst := some 77, op := SOp.mv (Operand.tmp 8), guard := none },
  { dst := some 78, op := SOp.call 19 [Operand.tmp 77], guard := none },
  { dst := some 76, op := SOp.mv (Operand.tmp 78), guard := none },
  { dst := some 79, op := SOp.ext (Operand.tmp 76) 0, guard := none },
  { dst := some 80, op := SOp.ext (Operand.tmp 76) 1, guard := none },
  { dst := some 15, op := SOp.mv (Operand.tmp 79), guard := none },
  { dst := some 16, op := SOp.mv (Operand.tmp 80), guard := none }]
def c12_r14 : List SIns := [
  { dst := some 82, op := SOp.mv (Operand.tmp 12), guard := none },
  { dst := some 83, op := SOp.call 19 [Operand.tmp 82], guard := none },
  { dst := some 81, op := SOp.mv (Operand.tmp 83), guard := none },
  { dst := some 84, op := SOp.ext (Operand.tmp 81) 0, guard := none },
  { dst := some 85, op := SOp.ext (Operand.tmp 81) 1, guard := none },
  { dst := some 17, op := SOp.mv (Operand.tmp 84), guard := none },
  { dst := some 18, op := SOp.mv (Operand.tmp 85), guard := none }]
def c12_r15 : List SIns := [
  { dst := some 86, op := SOp.mv (Operand.tmp 14), guard := none },
  { dst := some 87, op := SOp.ib (BinOp.neq) (Operand.tmp 86) (Operand.const (Value.int (IntKind.i64) 0)), guard := none },
  { dst := some 88, op := SOp.mv (Operand.tmp 87), guard := none },
  { dst := some 89, op := SOp.mv (Operand.tmp 16), guard := some (88, false) },
  { dst := some 90, op := SOp.ib (BinOp.neq) (Operand.tmp 89) (Operand.const (Value.int (IntKind.i64) 0)), guard := some (88, false) },
  { dst := some 91, op := SOp.pick (Operand.tmp 88) (Operand.const (Value.bool true)) (Operand.tmp 90), guard := none },
  { dst := some 92, op := SOp.mv (Operand.tmp 91), guard := none },
  { dst := some 93, op := SOp.mv (Operand.tmp 18), guard := some (92, false) },
  { dst := some 94, op := SOp.ib (BinOp.neq) (Operand.tmp 93) (Operand.const (Value.int (IntKind.i64) 0)), guard := some (92, false) },
  { dst := some 95, op := SOp.pick (Operand.tmp 92) (Operand.const (Value.bool true)) (Operand.tmp 94), guard := none },
  { dst := some 96, op := SOp.mv (Operand.tmp 95), guard := none },
  { dst := some 97, op := SOp.mv (Operand.tmp 13), guard := some (96, false) },
  { dst := some 98, op := SOp.mv (Operand.tmp 15), guard := some (96, false) },
  { dst := some 99, op := SOp.bb true (Operand.tmp 97) (Operand.tmp 98), guard := some (96, false) },
  { dst := some 100, op := SOp.pick (Operand.tmp 96) (Operand.const (Value.bool true)) (Operand.tmp 99), guard := none },
  { dst := some 101, op := SOp.mv (Operand.tmp 100), guard := none },
  { dst := some 102, op := SOp.mv (Operand.tmp 13), guard := some (101, false) },
  { dst := some 103, op := SOp.mv (Operand.tmp 102), guard := some (101, false) },
  { dst := some 104, op := SOp.mv (Operand.tmp 17), guard := some (103, true) },
  { dst := some 105, op := SOp.nt (Operand.tmp 104), guard := some (103, true) },
  { dst := some 106, op := SOp.pick (Operand.tmp 103) (Operand.tmp 105) (Operand.const (Value.bool false)), guard := some (101, false) },
  { dst := some 107, op := SOp.pick (Operand.tmp 101) (Operand.const (Value.bool true)) (Operand.tmp 106), guard := none }]
def c12_r16 : List SIns := [
  { dst := some 6, op := SOp.mv (Operand.const (Value.bool false)), guard := none }]
def c12_r17 : List SIns := [
  { dst := some 109, op := SOp.mv (Operand.tmp 7), guard := none },
  { dst := some 110, op := SOp.call 21 [Operand.tmp 109], guard := none },
  { dst := some 108, op := SOp.mv (Operand.tmp 110), guard := none },
  { dst := some 111, op := SOp.ext (Operand.tmp 108) 0, guard := none },
  { dst := some 112, op := SOp.ext (Operand.tmp 108) 1, guard := none },
  { dst := some 19, op := SOp.mv (Operand.tmp 111), guard := none },
  { dst := some 14, op := SOp.mv (Operand.tmp 112), guard := none }]
def c12_r18 : List SIns := [
  { dst := some 114, op := SOp.mv (Operand.tmp 8), guard := none },
  { dst := some 115, op := SOp.call 21 [Operand.tmp 114], guard := none },
  { dst := some 113, op := SOp.mv (Operand.tmp 115), guard := none },
  { dst := some 116, op := SOp.ext (Operand.tmp 113) 0, guard := none },
  { dst := some 117, op := SOp.ext (Operand.tmp 113) 1, guard := none },
  { dst := some 20, op := SOp.mv (Operand.tmp 116), guard := none },
  { dst := some 16, op := SOp.mv (Operand.tmp 117), guard := none }]
def c12_r19 : List SIns := [
  { dst := some 119, op := SOp.mv (Operand.tmp 7), guard := none },
  { dst := some 120, op := SOp.call 36 [Operand.tmp 119], guard := none },
  { dst := some 118, op := SOp.mv (Operand.tmp 120), guard := none },
  { dst := some 121, op := SOp.ext (Operand.tmp 118) 0, guard := none },
  { dst := some 122, op := SOp.ext (Operand.tmp 118) 1, guard := none },
  { dst := some 21, op := SOp.mv (Operand.tmp 121), guard := none },
  { dst := some 18, op := SOp.mv (Operand.tmp 122), guard := none }]
def c12_r20 : List SIns := [
  { dst := some 124, op := SOp.mv (Operand.tmp 8), guard := none },
  { dst := some 125, op := SOp.call 36 [Operand.tmp 124], guard := none },
  { dst := some 123, op := SOp.mv (Operand.tmp 125), guard := none },
  { dst := some 126, op := SOp.ext (Operand.tmp 123) 0, guard := none },
  { dst := some 127, op := SOp.ext (Operand.tmp 123) 1, guard := none },
  { dst := some 22, op := SOp.mv (Operand.tmp 126), guard := none },
  { dst := some 23, op := SOp.mv (Operand.tmp 127), guard := none }]
def c12_r21 : List SIns := [
  { dst := some 128, op := SOp.mv (Operand.tmp 14), guard := none },
  { dst := some 129, op := SOp.mv (Operand.tmp 16), guard := none },
  { dst := some 130, op := SOp.ib (BinOp.neq) (Operand.tmp 128) (Operand.tmp 129), guard := none },
  { dst := some 131, op := SOp.mv (Operand.tmp 130), guard := none },
  { dst := some 132, op := SOp.mv (Operand.tmp 19), guard := some (131, false) },
  { dst := some 133, op := SOp.mv (Operand.tmp 20), guard := some (131, false) },
  { dst := some 134, op := SOp.ib (BinOp.neq) (Operand.tmp 132) (Operand.tmp 133), guard := some (131, false) },
  { dst := some 135, op := SOp.pick (Operand.tmp 131) (Operand.const (Value.bool true)) (Operand.tmp 134), guard := none },
  { dst := some 136, op := SOp.mv (Operand.tmp 135), guard := none },
  { dst := some 137, op := SOp.mv (Operand.tmp 18), guard := some (136, false) },
  { dst := some 138, op := SOp.ib (BinOp.neq) (Operand.tmp 137) (Operand.const (Value.int (IntKind.i64) 0)), guard := some (136, false) },
  { dst := some 139, op := SOp.pick (Operand.tmp 136) (Operand.const (Value.bool true)) (Operand.tmp 138), guard := none },
  { dst := some 140, op := SOp.mv (Operand.tmp 139), guard := none },
  { dst := some 141, op := SOp.mv (Operand.tmp 23), guard := some (140, false) },
  { dst := some 142, op := SOp.ib (BinOp.neq) (Operand.tmp 141) (Operand.const (Value.int (IntKind.i64) 0)), guard := some (140, false) },
  { dst := some 143, op := SOp.pick (Operand.tmp 140) (Operand.const (Value.bool true)) (Operand.tmp 142), guard := none },
  { dst := some 144, op := SOp.mv (Operand.tmp 143), guard := none },
  { dst := some 145, op := SOp.mv (Operand.tmp 21), guard := some (144, false) },
  { dst := some 146, op := SOp.lenSl (Operand.tmp 145), guard := some (144, false) },
  { dst := some 147, op := SOp.mv (Operand.tmp 7), guard := some (144, false) },
  { dst := some 148, op := SOp.lenSl (Operand.tmp 147), guard := some (144, false) },
  { dst := some 149, op := SOp.ib (BinOp.neq) (Operand.tmp 146) (Operand.tmp 148), guard := some (144, false) },
  { dst := some 150, op := SOp.pick (Operand.tmp 144) (Operand.const (Value.bool true)) (Operand.tmp 149), guard := none },
  { dst := some 151, op := SOp.mv (Operand.tmp 150), guard := none },
  { dst := some 152, op := SOp.mv (Operand.tmp 22), guard := some (151, false) },
  { dst := some 153, op := SOp.lenSl (Operand.tmp 152), guard := some (151, false) },
  { dst := some 154, op := SOp.mv (Operand.tmp 7), guard := some (151, false) },
  { dst := some 155, op := SOp.lenSl (Operand.tmp 154), guard := some (151, false) },
  { dst := some 156, op := SOp.ib (BinOp.neq) (Operand.tmp 153) (Operand.tmp 155), guard := some (151, false) },
  { dst := some 157, op := SOp.pick (Operand.tmp 151) (Operand.const (Value.bool true)) (Operand.tmp 156), guard := none },
  { dst := some 158, op := SOp.mv (Operand.tmp 157), guard := none },
  { dst := some 159, op := SOp.mv (Operand.tmp 21), guard := some (158, false) },
  { dst := some 160, op := SOp.call 49 [Operand.tmp 159], guard := some (158, false) },
  { dst := some 161, op := SOp.mv (Operand.tmp 22), guard := some (158, false) },
  { dst := some 162, op := SOp.call 49 [Operand.tmp 161], guard := some (158, false) },
  { dst := some 163, op := SOp.ib (BinOp.neq) (Operand.tmp 160) (Operand.tmp 162), guard := some (158, false) },
  { dst := some 164, op := SOp.pick (Operand.tmp 158) (Operand.const (Value.bool true)) (Operand.tmp 163), guard := none }]
def c12_r22 : List SIns := [
  { dst := some 6, op := SOp.mv (Operand.const (Value.bool false)), guard := none }]
def c12_r23 : List SIns := [
  { dst := some 165, op := SOp.mv (Operand.tmp 7), guard := none },
  { dst := some 166, op := SOp.call 45 [Operand.tmp 165], guard := none },
  { dst := some 167, op := SOp.mv (Operand.tmp 11), guard := none },
  { dst := some 168, op := SOp.mv (Operand.tmp 11), guard := none },
  { dst := some 169, op := SOp.ib (BinOp.add) (Operand.tmp 168) (Operand.const (Value.int (IntKind.i64) 1)), guard := none },
  { dst := some 170, op := SOp.call 50 [Operand.tmp 166, Operand.tmp 167, Operand.tmp 169], guard := none },
  { dst := some 24, op := SOp.mv (Operand.tmp 170), guard := none }]
def c12_r24 : List SIns := [
  { dst := some 171, op := SOp.mv (Operand.tmp 24), guard := none },
  { dst := some 172, op := SOp.lenSl (Operand.tmp 171), guard := none },
  { dst := some 173, op := SOp.ib (BinOp.eql) (Operand.tmp 172) (Operand.const (Value.int (IntKind.i64) 0)), guard := none }]
def c12_r25 : List SIns := [
  { dst := some 174, op := SOp.call 16 [], guard := none },
  { dst := some 6, op := SOp.mv (Operand.tmp 174), guard := none }]
def c12_r26 : List SIns := [
  { dst := some 176, op := SOp.mv (Operand.tmp 24), guard := none },
  { dst := some 177, op := SOp.call 19 [Operand.tmp 176], guard := none },
  { dst := some 175, op := SOp.mv (Operand.tmp 177), guard := none },
  { dst := some 178, op := SOp.ext (Operand.tmp 175) 0, guard := none },
  { dst := some 179, op := SOp.ext (Operand.tmp 175) 1, guard := none },
  { dst := some 25, op := SOp.mv (Operand.tmp 178), guard := none },
  { dst := some 14, op := SOp.mv (Operand.tmp 179), guard := none }]
def c12_r27 : List SIns := [
  { dst := some 181, op := SOp.mv (Operand.tmp 24), guard := none },
  { dst := some 182, op := SOp.call 36 [Operand.tmp 181], guard := none },
  { dst := some 180, op := SOp.mv (Operand.tmp 182), guard := none },
  { dst := some 183, op := SOp.ext (Operand.tmp 180) 0, guard := none },
  { dst := some 184, op := SOp.ext (Operand.tmp 180) 1, guard := none },
  { dst := some 26, op := SOp.mv (Operand.tmp 183), guard := none },
  { dst := some 16, op := SOp.mv (Operand.tmp 184), guard := none }]
def c12_r28 : List SIns := [
  { dst := some 185, op := SOp.mv (Operand.tmp 14), guard := none },
  { dst := some 186, op := SOp.ib (BinOp.eql) (Operand.tmp 185) (Operand.const (Value.int (IntKind.i64) 0)), guard := none },
  { dst := some 187, op := SOp.mv (Operand.tmp 186), guard := none },
  { dst := some 188, op := SOp.mv (Operand.tmp 16), guard := some (187, true) },
  { dst := some 189, op := SOp.ib (BinOp.eql) (Operand.tmp 188) (Operand.const (Value.int (IntKind.i64) 0)), guard := some (187, true) },
  { dst := some 190, op := SOp.pick (Operand.tmp 187) (Operand.tmp 189) (Operand.const (Value.bool false)), guard := none },
  { dst := some 191, op := SOp.mv (Operand.tmp 190), guard := none },
  { dst := some 192, op := SOp.mv (Operand.tmp 13), guard := some (191, true) },
  { dst := some 193, op := SOp.nt (Operand.tmp 192), guard := some (191, true) },
  { dst := some 194, op := SOp.mv (Operand.tmp 193), guard := some (191, true) },
  { dst := some 195, op := SOp.mv (Operand.tmp 25), guard := some (194, false) },
  { dst := some 196, op := SOp.pick (Operand.tmp 194) (Operand.const (Value.bool true)) (Operand.tmp 195), guard := some (191, true) },
  { dst := some 197, op := SOp.pick (Operand.tmp 191) (Operand.tmp 196) (Operand.const (Value.bool false)), guard := none },
  { dst := some 198, op := SOp.mv (Operand.tmp 197), guard := none },
  { dst := some 199, op := SOp.mv (Operand.tmp 26), guard := some (198, true) },
  { dst := some 200, op := SOp.lenSl (Operand.tmp 199), guard := some (198, true) },
  { dst := some 201, op := SOp.mv (Operand.tmp 24), guard := some (198, true) },
  { dst := some 202, op := SOp.lenSl (Operand.tmp 201), guard := some (198, true) },
  { dst := some 203, op := SOp.ib (BinOp.eql) (Operand.tmp 200) (Operand.tmp 202), guard := some (198, true) },
  { dst := some 204, op := SOp.pick (Operand.tmp 198) (Operand.tmp 203) (Operand.const (Value.bool false)), guard := none },
  { dst := some 205, op := SOp.mv (Operand.tmp 204), guard := none },
  { dst := some 206, op := SOp.mv (Operand.tmp 26), guard := some (205, true) },
  { dst := some 207, op := SOp.call 49 [Operand.tmp 206], guard := some (205, true) },
  { dst := some 208, op := SOp.mv (Operand.tmp 21), guard := some (205, true) },
  { dst := some 209, op := SOp.call 49 [Operand.tmp 208], guard := some (205, true) },
  { dst := some 210, op := SOp.ib (BinOp.leq) (Operand.tmp 207) (Operand.tmp 209), guard := some (205, true) },
  { dst := some 211, op := SOp.pick (Operand.tmp 205) (Operand.tmp 210) (Operand.const (Value.bool false)), guard := none },
  { dst := some 212, op := SOp.mv (Operand.tmp 211), guard := none },
  { dst := some 213, op := SOp.call 16 [], guard := some (212, true) },
  { dst := some 214, op := SOp.pick (Operand.tmp 212) (Operand.tmp 213) (Operand.const (Value.bool false)), guard := none },
  { dst := some 6, op := SOp.mv (Operand.tmp 214), guard := none }]
def c12 : SCode := (.seq (.reg c12_r0 [2, 3, 4]) (.seq (.reg c12_r1 [2, 4, 7]) (.seq (.reg c12_r2 [2, 4, 7, 8]) (.seq (.seq (.reg c12_r3 [2, 4, 7, 8, 32, 33]) (.block 0 (.loop c12_l0))) (.seq (.reg c12_r9 [7, 8, 11]) (.seq (.reg c12_r10 [7, 8, 11, 12]) (.seq (.reg c12_r11 [7, 8, 11, 12]) (.seq (.reg c12_r12 [7, 8, 11, 12, 13, 14]) (.seq (.reg c12_r13 [7, 8, 11, 12, 13, 14, 15, 16]) (.seq (.reg c12_r14 [7, 8, 11, 13, 14, 15, 16, 17, 18]) (.seq (.seq (.reg c12_r15 [7, 8, 11, 13, 107]) (.cond (Operand.tmp 107) (.seq (.reg c12_r16 [6]) .ret) .skip)) (.seq (.reg c12_r17 [7, 8, 11, 13, 14, 19]) (.seq (.reg c12_r18 [7, 8, 11, 13, 14, 16, 19, 20]) (.seq (.reg c12_r19 [7, 8, 11, 13, 14, 16, 18, 19, 20, 21]) (.seq (.reg c12_r20 [7, 11, 13, 14, 16, 18, 19, 20, 21, 22, 23]) (.seq (.seq (.reg c12_r21 [7, 11, 13, 21, 164]) (.cond (Operand.tmp 164) (.seq (.reg c12_r22 [6]) .ret) .skip)) (.seq (.reg c12_r23 [13, 21, 24]) (.seq (.seq (.reg c12_r24 [13, 21, 24, 173]) (.cond (Operand.tmp 173) (.seq (.reg c12_r25 [6]) .ret) .skip)) (.seq (.reg c12_r26 [13, 14, 21, 24, 25]) (.seq (.reg c12_r27 [13, 14, 16, 21, 24, 25, 26]) (.seq (.reg c12_r28 [6]) .ret)))))))))))))))))))))
theorem F12 : Fn Try.prog 12 c12 [SRes.tmp 6] 215 := ⟨Try.f12, Try.f12.body.getD .skip, [[2, 3, 4], [2, 4, 7], [2, 4, 7, 8], [2, 4, 7, 8, 32, 33], [2, 4, 7, 8, 32, 33, 34], [2, 4, 7, 8, 9, 32, 33], [2, 4, 7, 8, 9, 10, 32, 33], [2, 4, 7, 8, 32, 33], [2, 4, 7, 8, 32, 33], [7, 8, 11], [7, 8, 11, 12], [7, 8, 11, 12], [7, 8, 11, 12, 13, 14], [7, 8, 11, 12, 13, 14, 15, 16], [7, 8, 11, 13, 14, 15, 16, 17, 18], [7, 8, 11, 13, 107], [6], [7, 8, 11, 13, 14, 19], [7, 8, 11, 13, 14, 16, 19, 20], [7, 8, 11, 13, 14, 16, 18, 19, 20, 21], [7, 11, 13, 14, 16, 18, 19, 20, 21, 22, 23], [7, 11, 13, 21, 164], [6], [13, 21, 24], [13, 21, 24, 173], [6], [13, 14, 21, 24, 25], [13, 14, 16, 21, 24, 25, 26], [6]], Try.func12, by kernel_rfl, by kernel_rfl, by kernel_rfl, by kernel_rfl, by decide⟩
end Go.Sx.Wk
set_option maxRecDepth 100000
namespace Go.Sx.Wk
open Go Go.Sx Go.Proofs

def c42_r0 : List SIns := [
  { dst := some 3, op := SOp.box (Operand.tmp 0), guard := none },
  { dst := some 6, op := SOp.mv (Operand.const (Value.slice none 0 0)), guard := none }]
def c42_r1 : List SIns := [
  { dst := some 7, op := SOp.mv (Operand.const (Value.slice none 0 0)), guard := none }]
def c42_r2 : List SIns := [
  { dst := some 10, op := SOp.off 1 (Operand.tmp 3), guard := none },
  { dst := some 11, op := SOp.off 0 (Operand.tmp 3), guard := none },
  { dst := some 12, op := SOp.load1 (Operand.tmp 11), guard := none },
  { dst := some 13, op := SOp.ci (IntKind.i64) (Operand.tmp 12), guard := none },
  { dst := some 14, op := SOp.mv (Operand.tmp 1), guard := none },
  { dst := some 15, op := SOp.ib (BinOp.rem) (Operand.tmp 13) (Operand.tmp 14), guard := none },
  { dst := some 16, op := SOp.ib (BinOp.add) (Operand.const (Value.int (IntKind.i64) 1)) (Operand.tmp 15), guard := none },
  { dst := some 17, op := SOp.slcA 4 1 (Operand.tmp 10) none (some (Operand.tmp 16)) none, guard := none },
  { dst := some 18, op := SOp.lenSl (Operand.tmp 17), guard := none },
  { dst := some 19, op := SOp.mv (Operand.const (Value.int (IntKind.i64) 0)), guard := none }]
def c42_r3 : List SIns := [
  { dst := some 20, op := SOp.ib (BinOp.lss) (Operand.tmp 19) (Operand.tmp 18), guard := none }]
def c42_r4 : List SIns := [
  { dst := some 21, op := SOp.idx 1 (Operand.tmp 17) (Operand.tmp 19), guard := none },
  { dst := some 22, op := SOp.load1 (Operand.tmp 21), guard := none },
  { dst := some 9, op := SOp.mv (Operand.tmp 22), guard := none }]
def c42_r5 : List SIns := [
  { dst := some 23, op := SOp.mv (Operand.tmp 7), guard := none },
  { dst := some 24, op := SOp.mv (Operand.tmp 9), guard := none },
  { dst := some 25, op := SOp.ci (IntKind.i64) (Operand.tmp 24), guard := none },
  { dst := some 26, op := SOp.mv (Operand.tmp 2), guard := none },
  { dst := some 27, op := SOp.ib (BinOp.rem) (Operand.tmp 25) (Operand.tmp 26), guard := none },
  { dst := some 28, op := SOp.ib (BinOp.add) (Operand.const (Value.int (IntKind.i64) 1)) (Operand.tmp 27), guard := none },
  { dst := some 29, op := SOp.mks 1 1 [Value.int (IntKind.i64) 0] [(0, 1, Operand.tmp 28)], guard := none },
  { dst := some 30, op := SOp.app 1 8 (Operand.tmp 23) (Operand.tmp 29), guard := none },
  { dst := some 7, op := SOp.mv (Operand.tmp 30), guard := none }]
def c42_r6 : List SIns := [
  { dst := some 31, op := SOp.ib (BinOp.add) (Operand.tmp 19) (Operand.const (Value.int (IntKind.i64) 1)), guard := none },
  { dst := some 19, op := SOp.mv (Operand.tmp 31), guard := none }]
def c42_l0 : SCode := (.seq (.reg c42_r3 [2, 7, 17, 18, 19, 20]) (.seq (.cond (Operand.tmp 20) .skip (.exit 0)) (.seq (.block 1 (.seq (.reg c42_r4 [2, 7, 9, 17, 18, 19]) (.reg c42_r5 [2, 7, 17, 18, 19]))) (.reg c42_r6 [2, 7, 17, 18, 19]))))
def c42_r7 : List SIns := [
  { dst := some 32, op := SOp.mv (Operand.tmp 7), guard := none },
  { dst := some 6, op := SOp.mv (Operand.tmp 32), guard := none }]
def c42 : SCode := (.seq (.reg c42_r0 [1, 2, 3]) (.seq (.reg c42_r1 [1, 2, 3, 7]) (.seq (.seq (.reg c42_r2 [2, 7, 17, 18, 19]) (.block 0 (.loop c42_l0))) (.seq (.reg c42_r7 [6]) .ret))))
theorem F42 : Fn Try.prog 42 c42 [SRes.tmp 6] 33 := ⟨Try.f42, Try.f42.body.getD .skip, [[1, 2, 3], [1, 2, 3, 7], [2, 7, 17, 18, 19], [2, 7, 17, 18, 19, 20], [2, 7, 9, 17, 18, 19], [2, 7, 17, 18, 19], [2, 7, 17, 18, 19], [6]], Try.func42, by kernel_rfl, by kernel_rfl, by kernel_rfl, by kernel_rfl, by decide⟩
end Go.Sx.Wk
set_option maxRecDepth 100000
namespace Go.Sx.Wk
open Go Go.Sx Go.Proofs

def c43_r0 : List SIns := [
  { dst := some 4, op := SOp.mv (Operand.const (Value.bool false)), guard := none }]
def c43_r1 : List SIns := [
  { dst := some 8, op := SOp.mv (Operand.tmp 0), guard := none },
  { dst := some 9, op := SOp.lenSl (Operand.tmp 8), guard := none },
  { dst := some 10, op := SOp.mv (Operand.const (Value.int (IntKind.i64) 0)), guard := none }]
def c43_r2 : List SIns := [
  { dst := some 11, op := SOp.ib (BinOp.lss) (Operand.tmp 10) (Operand.tmp 9), guard := none }]
def c43_r3 : List SIns := [
  { dst := some 12, op := SOp.mv (Operand.tmp 10), guard := none },
  { dst := some 13, op := SOp.idx 1 (Operand.tmp 8) (Operand.tmp 10), guard := none },
  { dst := some 14, op := SOp.load1 (Operand.tmp 13), guard := none },
  { dst := some 5, op := SOp.mv (Operand.tmp 12), guard := none },
  { dst := some 6, op := SOp.mv (Operand.tmp 14), guard := none }]
def c43_r4 : List SIns := [
  { dst := some 7, op := SOp.mv (Operand.const (Value.int (IntKind.i64) 0)), guard := none }]
def c43_r5 : List SIns := [
  { dst := some 15, op := SOp.mv (Operand.tmp 7), guard := none },
  { dst := some 16, op := SOp.mv (Operand.tmp 6), guard := none },
  { dst := some 17, op := SOp.ib (BinOp.add) (Operand.tmp 15) (Operand.tmp 16), guard := none },
  { dst := some 18, op := SOp.mv (Operand.tmp 1), guard := none },
  { dst := some 19, op := SOp.lenSl (Operand.tmp 18), guard := none },
  { dst := some 20, op := SOp.ib (BinOp.leq) (Operand.tmp 17) (Operand.tmp 19), guard := none }]
def c43_r6 : List SIns := [
  { dst := some 23, op := SOp.mv (Operand.tmp 1), guard := none },
  { dst := some 24, op := SOp.mv (Operand.tmp 7), guard := none },
  { dst := some 25, op := SOp.mv (Operand.tmp 7), guard := none },
  { dst := some 26, op := SOp.mv (Operand.tmp 6), guard := none },
  { dst := some 27, op := SOp.ib (BinOp.add) (Operand.tmp 25) (Operand.tmp 26), guard := none },
  { dst := some 28, op := SOp.slc 1 (Operand.tmp 23) (some (Operand.tmp 24)) (some (Operand.tmp 27)) none, guard := none },
  { dst := some 29, op := SOp.mv (Operand.tmp 5), guard := none },
  { dst := some 30, op := SOp.call 72 [Operand.tmp 28, Operand.tmp 29], guard := none },
  { dst := some 31, op := SOp.nt (Operand.tmp 30), guard := none }]
def c43_r7 : List SIns := [
  { dst := some 4, op := SOp.mv (Operand.const (Value.bool false)), guard := none }]
def c43_r8 : List SIns := [
  { dst := some 21, op := SOp.mv (Operand.tmp 7), guard := none },
  { dst := some 22, op := SOp.ib (BinOp.add) (Operand.tmp 21) (Operand.const (Value.int (IntKind.i64) 1)), guard := none },
  { dst := some 7, op := SOp.mv (Operand.tmp 22), guard := none }]
def c43_l0 : SCode := (.seq (.seq (.reg c43_r5 [1, 5, 6, 7, 8, 9, 10, 20]) (.cond (Operand.tmp 20) .skip (.exit 2))) (.seq (.block 3 (.seq (.reg c43_r6 [1, 5, 6, 7, 8, 9, 10, 31]) (.cond (Operand.tmp 31) (.seq (.reg c43_r7 [4]) .ret) .skip))) (.reg c43_r8 [1, 5, 6, 7, 8, 9, 10])))
def c43_r9 : List SIns := [
  { dst := some 32, op := SOp.ib (BinOp.add) (Operand.tmp 10) (Operand.const (Value.int (IntKind.i64) 1)), guard := none },
  { dst := some 10, op := SOp.mv (Operand.tmp 32), guard := none }]
def c43_l1 : SCode := (.seq (.reg c43_r2 [1, 8, 9, 10, 11]) (.seq (.cond (Operand.tmp 11) .skip (.exit 0)) (.seq (.block 1 (.seq (.reg c43_r3 [1, 5, 6, 8, 9, 10]) (.seq (.reg c43_r4 [1, 5, 6, 7, 8, 9, 10]) (.block 2 (.loop c43_l0))))) (.reg c43_r9 [1, 8, 9, 10]))))
def c43_r10 : List SIns := [
  { dst := some 4, op := SOp.mv (Operand.const (Value.bool true)), guard := none }]
def c43 : SCode := (.seq (.reg c43_r0 [0, 1]) (.seq (.seq (.reg c43_r1 [1, 8, 9, 10]) (.block 0 (.loop c43_l1))) (.seq (.reg c43_r10 [4]) .ret)))
theorem F43 : Fn Try.prog 43 c43 [SRes.tmp 4] 33 := ⟨Try.f43, Try.f43.body.getD .skip, [[0, 1], [1, 8, 9, 10], [1, 8, 9, 10, 11], [1, 5, 6, 8, 9, 10], [1, 5, 6, 7, 8, 9, 10], [1, 5, 6, 7, 8, 9, 10, 20], [1, 5, 6, 7, 8, 9, 10, 31], [4], [1, 5, 6, 7, 8, 9, 10], [1, 8, 9, 10], [4]], Try.func43, by kernel_rfl, by kernel_rfl, by kernel_rfl, by kernel_rfl, by decide⟩
end Go.Sx.Wk
set_option maxRecDepth 100000
namespace Go.Sx.Wk
open Go Go.Sx Go.Proofs

def c44_r0 : List SIns := [
  { dst := some 4, op := SOp.alloc [Value.int (IntKind.i64) 0, Value.int (IntKind.i64) 0, Value.int (IntKind.i64) 0, Value.int (IntKind.i64) 0], guard := none }]
def c44_r1 : List SIns := [
  { dst := some 5, op := SOp.alloc [Value.int (IntKind.i64) 0, Value.int (IntKind.i64) 0, Value.int (IntKind.i64) 0, Value.int (IntKind.i64) 0], guard := none }]
def c44_r2 : List SIns := [
  { dst := some 11, op := SOp.mv (Operand.tmp 0), guard := none },
  { dst := some 12, op := SOp.lenSl (Operand.tmp 11), guard := none },
  { dst := some 13, op := SOp.mv (Operand.const (Value.int (IntKind.i64) 0)), guard := none }]
def c44_r3 : List SIns := [
  { dst := some 14, op := SOp.ib (BinOp.lss) (Operand.tmp 13) (Operand.tmp 12), guard := none }]
def c44_r4 : List SIns := [
  { dst := some 15, op := SOp.mv (Operand.tmp 13), guard := none },
  { dst := some 16, op := SOp.idx 1 (Operand.tmp 11) (Operand.tmp 13), guard := none },
  { dst := some 17, op := SOp.load1 (Operand.tmp 16), guard := none },
  { dst := some 6, op := SOp.mv (Operand.tmp 15), guard := none },
  { dst := some 7, op := SOp.mv (Operand.tmp 17), guard := none }]
def c44_r5 : List SIns := [
  { dst := some 18, op := SOp.mv (Operand.tmp 1), guard := none },
  { dst := some 19, op := SOp.lenSl (Operand.tmp 18), guard := none },
  { dst := some 8, op := SOp.mv (Operand.tmp 19), guard := none }]
def c44_r6 : List SIns := [
  { dst := some 20, op := SOp.mv (Operand.tmp 1), guard := none },
  { dst := some 21, op := SOp.lenSl (Operand.tmp 20), guard := none },
  { dst := some 22, op := SOp.mv (Operand.const (Value.int (IntKind.i64) 0)), guard := none }]
def c44_r7 : List SIns := [
  { dst := some 23, op := SOp.ib (BinOp.lss) (Operand.tmp 22) (Operand.tmp 21), guard := none }]
def c44_r8 : List SIns := [
  { dst := some 24, op := SOp.mv (Operand.tmp 22), guard := none },
  { dst := some 25, op := SOp.idx 1 (Operand.tmp 20) (Operand.tmp 22), guard := none },
  { dst := some 26, op := SOp.load1 (Operand.tmp 25), guard := none },
  { dst := some 9, op := SOp.mv (Operand.tmp 24), guard := none },
  { dst := some 10, op := SOp.mv (Operand.tmp 26), guard := none }]
def c44_r9 : List SIns := [
  { dst := some 27, op := SOp.mv (Operand.tmp 10), guard := none },
  { dst := some 28, op := SOp.mv (Operand.tmp 6), guard := none },
  { dst := some 29, op := SOp.ib (BinOp.eql) (Operand.tmp 27) (Operand.tmp 28), guard := none }]
def c44_r10 : List SIns := [
  { dst := some 30, op := SOp.mv (Operand.tmp 1), guard := none },
  { dst := some 31, op := SOp.lenSl (Operand.tmp 30), guard := none },
  { dst := some 32, op := SOp.ib (BinOp.sub) (Operand.tmp 31) (Operand.const (Value.int (IntKind.i64) 1)), guard := none },
  { dst := some 33, op := SOp.mv (Operand.tmp 9), guard := none },
  { dst := some 34, op := SOp.ib (BinOp.sub) (Operand.tmp 32) (Operand.tmp 33), guard := none },
  { dst := some 8, op := SOp.mv (Operand.tmp 34), guard := none }]
def c44_r11 : List SIns := [
  { dst := some 35, op := SOp.ib (BinOp.add) (Operand.tmp 22) (Operand.const (Value.int (IntKind.i64) 1)), guard := none },
  { dst := some 22, op := SOp.mv (Operand.tmp 35), guard := none }]
def c44_l0 : SCode := (.seq (.reg c44_r7 [1, 4, 5, 6, 7, 8, 11, 12, 13, 20, 21, 22, 23]) (.seq (.cond (Operand.tmp 23) .skip (.exit 2)) (.seq (.block 3 (.seq (.reg c44_r8 [1, 4, 5, 6, 7, 8, 9, 10, 11, 12, 13, 20, 21, 22]) (.seq (.reg c44_r9 [1, 4, 5, 6, 7, 8, 9, 11, 12, 13, 20, 21, 22, 29]) (.cond (Operand.tmp 29) (.reg c44_r10 [1, 4, 5, 6, 7, 8, 11, 12, 13, 20, 21, 22]) .skip)))) (.reg c44_r11 [1, 4, 5, 6, 7, 8, 11, 12, 13, 20, 21, 22]))))
def c44_r12 : List SIns := [
  { dst := some 36, op := SOp.mv (Operand.tmp 6), guard := none },
  { dst := some 37, op := SOp.mv (Operand.tmp 7), guard := none },
  { dst := some 38, op := SOp.mv (Operand.tmp 8), guard := none },
  { dst := some 39, op := SOp.ib (BinOp.sub) (Operand.tmp 37) (Operand.tmp 38), guard := none },
  { dst := some 40, op := SOp.idxA 4 1 (Operand.tmp 5) (Operand.tmp 36), guard := none },
  { dst := none, op := SOp.store 1 (Operand.tmp 40) (Operand.tmp 39), guard := none }]
def c44_r13 : List SIns := [
  { dst := some 41, op := SOp.ib (BinOp.add) (Operand.tmp 13) (Operand.const (Value.int (IntKind.i64) 1)), guard := none },
  { dst := some 13, op := SOp.mv (Operand.tmp 41), guard := none }]
def c44_l1 : SCode := (.seq (.reg c44_r3 [1, 4, 5, 11, 12, 13, 14]) (.seq (.cond (Operand.tmp 14) .skip (.exit 0)) (.seq (.block 1 (.seq (.reg c44_r4 [1, 4, 5, 6, 7, 11, 12, 13]) (.seq (.reg c44_r5 [1, 4, 5, 6, 7, 8, 11, 12, 13]) (.seq (.seq (.reg c44_r6 [1, 4, 5, 6, 7, 8, 11, 12, 13, 20, 21, 22]) (.block 2 (.loop c44_l0))) (.reg c44_r12 [1, 4, 5, 11, 12, 13]))))) (.reg c44_r13 [1, 4, 5, 11, 12, 13]))))
def c44_r14 : List SIns := [
  { dst := some 42, op := SOp.loadN 4 (Operand.tmp 5), guard := none },
  { dst := none, op := SOp.store 4 (Operand.tmp 4) (Operand.tmp 42), guard := none }]
def c44 : SCode := (.seq (.reg c44_r0 [0, 1, 4]) (.seq (.reg c44_r1 [0, 1, 4, 5]) (.seq (.seq (.reg c44_r2 [1, 4, 5, 11, 12, 13]) (.block 0 (.loop c44_l1))) (.seq (.reg c44_r14 [4]) .ret))))
theorem F44 : Fn Try.prog 44 c44 [SRes.cell 4 (some 4)] 43 := ⟨Try.f44, Try.f44.body.getD .skip, [[0, 1, 4], [0, 1, 4, 5], [1, 4, 5, 11, 12, 13], [1, 4, 5, 11, 12, 13, 14], [1, 4, 5, 6, 7, 11, 12, 13], [1, 4, 5, 6, 7, 8, 11, 12, 13], [1, 4, 5, 6, 7, 8, 11, 12, 13, 20, 21, 22], [1, 4, 5, 6, 7, 8, 11, 12, 13, 20, 21, 22, 23], [1, 4, 5, 6, 7, 8, 9, 10, 11, 12, 13, 20, 21, 22], [1, 4, 5, 6, 7, 8, 9, 11, 12, 13, 20, 21, 22, 29], [1, 4, 5, 6, 7, 8, 11, 12, 13, 20, 21, 22], [1, 4, 5, 6, 7, 8, 11, 12, 13, 20, 21, 22], [1, 4, 5, 11, 12, 13], [1, 4, 5, 11, 12, 13], [4]], Try.func44, by kernel_rfl, by kernel_rfl, by kernel_rfl, by kernel_rfl, by decide⟩
end Go.Sx.Wk
set_option maxRecDepth 100000
namespace Go.Sx.Wk
open Go Go.Sx Go.Proofs

def c45_r0 : List SIns := [
  { dst := some 2, op := SOp.mv (Operand.const (Value.slice none 0 0)), guard := none }]
def c45_r1 : List SIns := [
  { dst := some 3, op := SOp.mv (Operand.tmp 0), guard := none },
  { dst := some 4, op := SOp.eqn false (TypeDesc.slice 3) (Operand.tmp 3), guard := none }]
def c45_r2 : List SIns := [
  { dst := some 2, op := SOp.mv (Operand.const (Value.slice none 0 0)), guard := none }]
def c45_r3 : List SIns := [
  { dst := some 5, op := SOp.mks0 1, guard := none },
  { dst := some 6, op := SOp.mv (Operand.tmp 0), guard := none },
  { dst := some 7, op := SOp.app 1 8 (Operand.tmp 5) (Operand.tmp 6), guard := none },
  { dst := some 2, op := SOp.mv (Operand.tmp 7), guard := none }]
def c45 : SCode := (.seq (.reg c45_r0 [0]) (.seq (.seq (.reg c45_r1 [0, 4]) (.cond (Operand.tmp 4) (.seq (.reg c45_r2 [2]) .ret) .skip)) (.seq (.reg c45_r3 [2]) .ret)))
theorem F45 : Fn Try.prog 45 c45 [SRes.tmp 2] 8 := ⟨Try.f45, Try.f45.body.getD .skip, [[0], [0, 4], [2], [2]], Try.func45, by kernel_rfl, by kernel_rfl, by kernel_rfl, by kernel_rfl, by decide⟩
end Go.Sx.Wk
set_option maxRecDepth 100000
namespace Go.Sx.Wk
open Go Go.Sx Go.Proofs

def c50_r0 : List SIns := [
  { dst := some 6, op := SOp.mv (Operand.const (Value.slice none 0 0)), guard := none }]
def c50_r1 : List SIns := [
  { dst := some 8, op := SOp.mv (Operand.tmp 0), guard := none },
  { dst := some 9, op := SOp.mv (Operand.tmp 1), guard := none },
  { dst := some 10, op := SOp.mv (Operand.tmp 2), guard := none },
  { dst := some 11, op := SOp.mv (Operand.tmp 0), guard := none },
  { dst := some 12, op := SOp.lenSl (Operand.tmp 11), guard := none },
  { dst := some 13, op := SOp.slc 1 (Operand.tmp 8) (some (Operand.tmp 9)) (some (Operand.tmp 10)) (some (Operand.tmp 12)), guard := none }]
def c50_r2 : List SIns := [
  { dst := some 14, op := SOp.mv (Operand.tmp 1), guard := none },
  { dst := some 15, op := SOp.mv (Operand.tmp 2), guard := none },
  { dst := some 16, op := SOp.ib (BinOp.eql) (Operand.tmp 14) (Operand.tmp 15), guard := none }]
def c50_r3 : List SIns := [
  { dst := some 17, op := SOp.mv (Operand.tmp 0), guard := none },
  { dst := some 6, op := SOp.mv (Operand.tmp 17), guard := none }]
def c50_r4 : List SIns := [
  { dst := some 18, op := SOp.mv (Operand.tmp 0), guard := none },
  { dst := some 19, op := SOp.lenSl (Operand.tmp 18), guard := none },
  { dst := some 7, op := SOp.mv (Operand.tmp 19), guard := none }]
def c50_r5 : List SIns := [
  { dst := some 20, op := SOp.mv (Operand.tmp 0), guard := none },
  { dst := some 21, op := SOp.mv (Operand.tmp 1), guard := none },
  { dst := some 22, op := SOp.slc 1 (Operand.tmp 20) none (some (Operand.tmp 21)) none, guard := none },
  { dst := some 23, op := SOp.mv (Operand.tmp 0), guard := none },
  { dst := some 24, op := SOp.mv (Operand.tmp 2), guard := none },
  { dst := some 25, op := SOp.slc 1 (Operand.tmp 23) (some (Operand.tmp 24)) none none, guard := none },
  { dst := some 26, op := SOp.app 1 8 (Operand.tmp 22) (Operand.tmp 25), guard := none },
  { dst := some 0, op := SOp.mv (Operand.tmp 26), guard := none }]
def c50_r6 : List SIns := [
  { dst := some 27, op := SOp.mv (Operand.tmp 0), guard := none },
  { dst := some 28, op := SOp.mv (Operand.tmp 0), guard := none },
  { dst := some 29, op := SOp.lenSl (Operand.tmp 28), guard := none },
  { dst := some 30, op := SOp.mv (Operand.tmp 7), guard := none },
  { dst := some 31, op := SOp.slc 1 (Operand.tmp 27) (some (Operand.tmp 29)) (some (Operand.tmp 30)) none, guard := none },
  { dst := none, op := SOp.clear (Value.int (IntKind.i64) 0) (Operand.tmp 31), guard := none }]
def c50_r7 : List SIns := [
  { dst := some 32, op := SOp.mv (Operand.tmp 0), guard := none },
  { dst := some 6, op := SOp.mv (Operand.tmp 32), guard := none }]
def c50 : SCode := (.seq (.reg c50_r0 [0, 1, 2]) (.seq (.reg c50_r1 [0, 1, 2]) (.seq (.seq (.reg c50_r2 [0, 1, 2, 16]) (.cond (Operand.tmp 16) (.seq (.reg c50_r3 [6]) .ret) .skip)) (.seq (.reg c50_r4 [0, 1, 2, 7]) (.seq (.draw c50_r5 [[], [], [0, 1], [], [], [3, 4], [2, 5, 0, 1, 3, 4], [6, 6, 0, 1, 2, 3, 4, 5, 6, 2, 5, 0, 1, 3, 4, 2, 5, 0, 1, 3, 4, 0, 1, 3, 4, 2, 5, 0, 1, 3, 4]] [0, 7]) (.seq (.reg c50_r6 [0]) (.seq (.reg c50_r7 [6]) .ret)))))))
theorem F50 : Fn Try.prog 50 c50 [SRes.tmp 6] 33 := ⟨Try.f50, Try.f50.body.getD .skip, [[0, 1, 2], [0, 1, 2], [0, 1, 2, 16], [6], [0, 1, 2, 7], [0, 7], [0], [6]], Try.func50, by kernel_rfl, by kernel_rfl, by kernel_rfl, by kernel_rfl, by decide⟩
end Go.Sx.Wk
set_option maxRecDepth 100000
namespace Go.Sx.Wk
open Go Go.Sx Go.Proofs

def c51_r0 : List SIns := [
  { dst := some 2, op := SOp.mv (Operand.const (Value.slice none 0 0)), guard := none }]
def c51_r1 : List SIns := [
  { dst := some 3, op := SOp.mv (Operand.const (Value.int (IntKind.i64) 0)), guard := none }]
def c51_r2 : List SIns := [
  { dst := some 9, op := SOp.mv (Operand.tmp 0), guard := none },
  { dst := some 10, op := SOp.lenSl (Operand.tmp 9), guard := none },
  { dst := some 11, op := SOp.mv (Operand.const (Value.int (IntKind.i64) 0)), guard := none }]
def c51_r3 : List SIns := [
  { dst := some 12, op := SOp.ib (BinOp.lss) (Operand.tmp 11) (Operand.tmp 10), guard := none }]
def c51_r4 : List SIns := [
  { dst := some 13, op := SOp.idx 1 (Operand.tmp 9) (Operand.tmp 11), guard := none },
  { dst := some 14, op := SOp.load1 (Operand.tmp 13), guard := none },
  { dst := some 5, op := SOp.mv (Operand.tmp 14), guard := none }]
def c51_r5 : List SIns := [
  { dst := some 15, op := SOp.mv (Operand.tmp 3), guard := none },
  { dst := some 16, op := SOp.mv (Operand.tmp 5), guard := none },
  { dst := some 17, op := SOp.lenSl (Operand.tmp 16), guard := none },
  { dst := some 18, op := SOp.ib (BinOp.add) (Operand.tmp 15) (Operand.tmp 17), guard := none },
  { dst := some 3, op := SOp.mv (Operand.tmp 18), guard := none }]
def c51_r6 : List SIns := [
  { dst := some 19, op := SOp.mv (Operand.tmp 3), guard := none },
  { dst := some 20, op := SOp.ib (BinOp.lss) (Operand.tmp 19) (Operand.const (Value.int (IntKind.i64) 0)), guard := none }]
def c51_r7 : List SIns := [
  { dst := some 21, op := SOp.mkifc 9 (Operand.const (Value.string (⟨#[108, 101, 110, 32, 111, 117, 116, 32, 111, 102, 32, 114, 97, 110, 103, 101]⟩ : ByteArray))), guard := none },
  { dst := none, op := SOp.fail, guard := none }]
def c51_r8 : List SIns := [
  { dst := some 22, op := SOp.ib (BinOp.add) (Operand.tmp 11) (Operand.const (Value.int (IntKind.i64) 1)), guard := none },
  { dst := some 11, op := SOp.mv (Operand.tmp 22), guard := none }]
def c51_l0 : SCode := (.seq (.reg c51_r3 [0, 3, 9, 10, 11, 12]) (.seq (.cond (Operand.tmp 12) .skip (.exit 0)) (.seq (.block 1 (.seq (.reg c51_r4 [0, 3, 5, 9, 10, 11]) (.seq (.reg c51_r5 [0, 3, 9, 10, 11]) (.seq (.reg c51_r6 [0, 3, 9, 10, 11, 20]) (.cond (Operand.tmp 20) (.reg c51_r7 [0, 3, 9, 10, 11]) .skip))))) (.reg c51_r8 [0, 3, 9, 10, 11]))))
def c51_r9 : List SIns := [
  { dst := some 23, op := SOp.mv (Operand.tmp 3), guard := none },
  { dst := some 24, op := SOp.call 76 [Operand.const (Value.slice none 0 0), Operand.tmp 23], guard := none },
  { dst := some 6, op := SOp.mv (Operand.tmp 24), guard := none }]
def c51_r10 : List SIns := [
  { dst := some 25, op := SOp.mv (Operand.tmp 0), guard := none },
  { dst := some 26, op := SOp.lenSl (Operand.tmp 25), guard := none },
  { dst := some 27, op := SOp.mv (Operand.const (Value.int (IntKind.i64) 0)), guard := none }]
def c51_r11 : List SIns := [
  { dst := some 28, op := SOp.ib (BinOp.lss) (Operand.tmp 27) (Operand.tmp 26), guard := none }]
def c51_r12 : List SIns := [
  { dst := some 29, op := SOp.idx 1 (Operand.tmp 25) (Operand.tmp 27), guard := none },
  { dst := some 30, op := SOp.load1 (Operand.tmp 29), guard := none },
  { dst := some 8, op := SOp.mv (Operand.tmp 30), guard := none }]
def c51_r13 : List SIns := [
  { dst := some 31, op := SOp.mv (Operand.tmp 6), guard := none },
  { dst := some 32, op := SOp.mv (Operand.tmp 8), guard := none },
  { dst := some 33, op := SOp.app 1 8 (Operand.tmp 31) (Operand.tmp 32), guard := none },
  { dst := some 6, op := SOp.mv (Operand.tmp 33), guard := none }]
def c51_r14 : List SIns := [
  { dst := some 34, op := SOp.ib (BinOp.add) (Operand.tmp 27) (Operand.const (Value.int (IntKind.i64) 1)), guard := none },
  { dst := some 27, op := SOp.mv (Operand.tmp 34), guard := none }]
def c51_l1 : SCode := (.seq (.reg c51_r11 [6, 25, 26, 27, 28]) (.seq (.cond (Operand.tmp 28) .skip (.exit 2)) (.seq (.block 3 (.seq (.reg c51_r12 [6, 8, 25, 26, 27]) (.reg c51_r13 [6, 25, 26, 27]))) (.reg c51_r14 [6, 25, 26, 27]))))
def c51_r15 : List SIns := [
  { dst := some 35, op := SOp.mv (Operand.tmp 6), guard := none },
  { dst := some 2, op := SOp.mv (Operand.tmp 35), guard := none }]
def c51 : SCode := (.seq (.reg c51_r0 [0]) (.seq (.reg c51_r1 [0, 3]) (.seq (.seq (.reg c51_r2 [0, 3, 9, 10, 11]) (.block 0 (.loop c51_l0))) (.seq (.reg c51_r9 [0, 6]) (.seq (.seq (.reg c51_r10 [6, 25, 26, 27]) (.block 2 (.loop c51_l1))) (.seq (.reg c51_r15 [2]) .ret))))))
theorem F51 : Fn Try.prog 51 c51 [SRes.tmp 2] 36 := ⟨Try.f51, Try.f51.body.getD .skip, [[0], [0, 3], [0, 3, 9, 10, 11], [0, 3, 9, 10, 11, 12], [0, 3, 5, 9, 10, 11], [0, 3, 9, 10, 11], [0, 3, 9, 10, 11, 20], [0, 3, 9, 10, 11], [0, 3, 9, 10, 11], [0, 6], [6, 25, 26, 27], [6, 25, 26, 27, 28], [6, 8, 25, 26, 27], [6, 25, 26, 27], [6, 25, 26, 27], [2]], Try.func51, by kernel_rfl, by kernel_rfl, by kernel_rfl, by kernel_rfl, by decide⟩
end Go.Sx.Wk
set_option maxRecDepth 100000
namespace Go.Sx.Wk
open Go Go.Sx Go.Proofs

def c52_r0 : List SIns := [
  { dst := some 4, op := SOp.mv (Operand.tmp 0), guard := none },
  { dst := some 5, op := SOp.lenSl (Operand.tmp 4), guard := none },
  { dst := some 6, op := SOp.ib (BinOp.sub) (Operand.tmp 5) (Operand.const (Value.int (IntKind.i64) 1)), guard := none },
  { dst := some 2, op := SOp.mv (Operand.const (Value.int (IntKind.i64) 0)), guard := none },
  { dst := some 3, op := SOp.mv (Operand.tmp 6), guard := none }]
def c52_r1 : List SIns := [
  { dst := some 7, op := SOp.mv (Operand.tmp 2), guard := none },
  { dst := some 8, op := SOp.mv (Operand.tmp 3), guard := none },
  { dst := some 9, op := SOp.ib (BinOp.lss) (Operand.tmp 7) (Operand.tmp 8), guard := none }]
def c52_r2 : List SIns := [
  { dst := some 14, op := SOp.mv (Operand.tmp 0), guard := none },
  { dst := some 15, op := SOp.mv (Operand.tmp 2), guard := none },
  { dst := some 16, op := SOp.mv (Operand.tmp 0), guard := none },
  { dst := some 17, op := SOp.mv (Operand.tmp 3), guard := none },
  { dst := some 18, op := SOp.mv (Operand.tmp 0), guard := none },
  { dst := some 19, op := SOp.mv (Operand.tmp 3), guard := none },
  { dst := some 20, op := SOp.idx 1 (Operand.tmp 18) (Operand.tmp 19), guard := none },
  { dst := some 21, op := SOp.load1 (Operand.tmp 20), guard := none },
  { dst := some 22, op := SOp.mv (Operand.tmp 0), guard := none },
  { dst := some 23, op := SOp.mv (Operand.tmp 2), guard := none },
  { dst := some 24, op := SOp.idx 1 (Operand.tmp 22) (Operand.tmp 23), guard := none },
  { dst := some 25, op := SOp.load1 (Operand.tmp 24), guard := none },
  { dst := some 26, op := SOp.idx 1 (Operand.tmp 14) (Operand.tmp 15), guard := none },
  { dst := none, op := SOp.store 1 (Operand.tmp 26) (Operand.tmp 21), guard := none },
  { dst := some 27, op := SOp.idx 1 (Operand.tmp 16) (Operand.tmp 17), guard := none },
  { dst := none, op := SOp.store 1 (Operand.tmp 27) (Operand.tmp 25), guard := none }]
def c52_r3 : List SIns := [
  { dst := some 10, op := SOp.mv (Operand.tmp 2), guard := none },
  { dst := some 11, op := SOp.ib (BinOp.add) (Operand.tmp 10) (Operand.const (Value.int (IntKind.i64) 1)), guard := none },
  { dst := some 12, op := SOp.mv (Operand.tmp 3), guard := none },
  { dst := some 13, op := SOp.ib (BinOp.sub) (Operand.tmp 12) (Operand.const (Value.int (IntKind.i64) 1)), guard := none },
  { dst := some 2, op := SOp.mv (Operand.tmp 11), guard := none },
  { dst := some 3, op := SOp.mv (Operand.tmp 13), guard := none }]
def c52_l0 : SCode := (.seq (.seq (.reg c52_r1 [0, 2, 3, 9]) (.cond (Operand.tmp 9) .skip (.exit 0))) (.seq (.block 1 (.draw c52_r2 [[], [], [], [], [], [], [4, 5], [6, 4, 5], [], [], [8, 9], [10, 8, 9], [0, 1, 0, 1, 4, 5, 6, 7, 11, 4, 5, 6, 4, 5, 10, 8, 9], [12, 7, 0, 1, 4, 5, 6, 7, 11, 0, 1, 0, 1, 4, 5, 6, 7, 11, 4, 5, 6, 4, 5, 10, 8, 9, 6, 4, 5, 4, 5, 6, 4, 5, 10, 8, 9], [2, 3, 0, 1, 2, 3, 4, 5, 6, 7, 8, 9, 10, 11, 12, 13, 4, 5, 6, 4, 5, 8, 9, 10, 8, 9, 0, 1, 0, 1, 4, 5, 6, 7, 11, 4, 5, 6, 4, 5, 10, 8, 9, 12, 7, 0, 1, 4, 5, 6, 7, 11, 0, 1, 0, 1, 4, 5, 6, 7, 11, 4, 5, 6, 4, 5, 10, 8, 9, 6, 4, 5, 4, 5, 6, 4, 5, 10, 8, 9], [14, 11, 13, 0, 1, 2, 3, 4, 5, 6, 7, 8, 9, 10, 11, 12, 13, 2, 3, 0, 1, 2, 3, 4, 5, 6, 7, 8, 9, 10, 11, 12, 13, 4, 5, 6, 4, 5, 8, 9, 10, 8, 9, 0, 1, 0, 1, 4, 5, 6, 7, 11, 4, 5, 6, 4, 5, 10, 8, 9, 12, 7, 0, 1, 4, 5, 6, 7, 11, 0, 1, 0, 1, 4, 5, 6, 7, 11, 4, 5, 6, 4, 5, 10, 8, 9, 6, 4, 5, 4, 5, 6, 4, 5, 10, 8, 9, 10, 8, 9, 12, 7, 0, 1, 4, 5, 6, 7, 11, 0, 1, 0, 1, 4, 5, 6, 7, 11, 4, 5, 6, 4, 5, 10, 8, 9, 6, 4, 5, 4, 5, 6, 4, 5, 10, 8, 9, 4, 5, 6, 4, 5, 8, 9, 10, 8, 9, 0, 1, 0, 1, 4, 5, 6, 7, 11, 4, 5, 6, 4, 5, 10, 8, 9, 12, 7, 0, 1, 4, 5, 6, 7, 11, 0, 1, 0, 1, 4, 5, 6, 7, 11, 4, 5, 6, 4, 5, 10, 8, 9, 6, 4, 5, 4, 5, 6, 4, 5, 10, 8, 9]] [0, 2, 3])) (.reg c52_r3 [0, 2, 3])))
def c52 : SCode := (.seq (.reg c52_r0 [0, 2, 3]) (.block 0 (.loop c52_l0)))
theorem F52 : Fn Try.prog 52 c52 [] 28 := ⟨Try.f52, Try.f52.body.getD .skip, [[0, 2, 3], [0, 2, 3, 9], [0, 2, 3], [0, 2, 3]], Try.func52, by kernel_rfl, by kernel_rfl, by kernel_rfl, by kernel_rfl, by decide⟩
end Go.Sx.Wk
set_option maxRecDepth 100000
namespace Go.Sx.Wk
open Go Go.Sx Go.Proofs

def c72_r0 : List SIns := [
  { dst := some 4, op := SOp.mv (Operand.const (Value.bool false)), guard := none }]
def c72_r1 : List SIns := [
  { dst := some 5, op := SOp.mv (Operand.tmp 0), guard := none },
  { dst := some 6, op := SOp.mv (Operand.tmp 1), guard := none },
  { dst := some 7, op := SOp.call 67 [Operand.tmp 5, Operand.tmp 6], guard := none },
  { dst := some 8, op := SOp.ib (BinOp.geq) (Operand.tmp 7) (Operand.const (Value.int (IntKind.i64) 0)), guard := none },
  { dst := some 4, op := SOp.mv (Operand.tmp 8), guard := none }]
def c72 : SCode := (.seq (.reg c72_r0 [0, 1]) (.seq (.reg c72_r1 [4]) .ret))
theorem F72 : Fn Try.prog 72 c72 [SRes.tmp 4] 9 := ⟨Try.f72, Try.f72.body.getD .skip, [[0, 1], [4]], Try.func72, by kernel_rfl, by kernel_rfl, by kernel_rfl, by kernel_rfl, by decide⟩
end Go.Sx.Wk
