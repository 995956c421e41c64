/- The codes of the functions, written by a program (Gen.lean), and that they are the functions'. No conditions. -/
import Derived.Test.YtfiebjbhiflfpaaDoorSxN
import Derived.KernelRfl
import Derived.Test.YtfiebjbhiflfpaaDoorProg
set_option linter.unusedVariables false
set_option maxRecDepth 100000
namespace Go.Sx.Ch
open Go Go.Sx Go.Proofs

def c6_r0 : List SIns := [
  { dst := some 0, op := SOp.mv (Operand.const (Value.bool false)), guard := none }]
def c6_r1 : List SIns := [
  { dst := some 22, op := SOp.call 34 [], guard := none },
  { dst := some 23, op := SOp.call 33 [Operand.tmp 22], guard := none },
  { dst := some 21, op := SOp.mv (Operand.tmp 23), guard := none },
  { dst := some 24, op := SOp.ext (Operand.tmp 21) 0, guard := none },
  { dst := some 25, op := SOp.ext (Operand.tmp 21) 1, guard := none },
  { dst := some 1, op := SOp.mv (Operand.tmp 24), guard := none },
  { dst := some 2, op := SOp.mv (Operand.tmp 25), guard := none }]
def c6_r2 : List SIns := [
  { dst := some 27, op := SOp.call 35 [], guard := none },
  { dst := some 28, op := SOp.call 33 [Operand.tmp 27], guard := none },
  { dst := some 26, op := SOp.mv (Operand.tmp 28), guard := none },
  { dst := some 29, op := SOp.ext (Operand.tmp 26) 0, guard := none },
  { dst := some 30, op := SOp.ext (Operand.tmp 26) 1, guard := none },
  { dst := some 3, op := SOp.mv (Operand.tmp 29), guard := none },
  { dst := some 4, op := SOp.mv (Operand.tmp 30), guard := none }]
def c6_r3 : List SIns := [
  { dst := some 32, op := SOp.call 36 [], guard := none },
  { dst := some 33, op := SOp.call 33 [Operand.tmp 32], guard := none },
  { dst := some 31, op := SOp.mv (Operand.tmp 33), guard := none },
  { dst := some 34, op := SOp.ext (Operand.tmp 31) 0, guard := none },
  { dst := some 35, op := SOp.ext (Operand.tmp 31) 1, guard := none },
  { dst := some 5, op := SOp.mv (Operand.tmp 34), guard := none },
  { dst := some 6, op := SOp.mv (Operand.tmp 35), guard := none }]
def c6_r4 : List SIns := [
  { dst := some 37, op := SOp.call 34 [], guard := none },
  { dst := some 38, op := SOp.call 37 [Operand.tmp 37], guard := none },
  { dst := some 36, op := SOp.mv (Operand.tmp 38), guard := none },
  { dst := some 39, op := SOp.ext (Operand.tmp 36) 0, guard := none },
  { dst := some 40, op := SOp.ext (Operand.tmp 36) 1, guard := none },
  { dst := some 7, op := SOp.mv (Operand.tmp 39), guard := none },
  { dst := some 8, op := SOp.mv (Operand.tmp 40), guard := none }]
def c6_r5 : List SIns := [
  { dst := some 42, op := SOp.call 36 [], guard := none },
  { dst := some 43, op := SOp.call 37 [Operand.tmp 42], guard := none },
  { dst := some 41, op := SOp.mv (Operand.tmp 43), guard := none },
  { dst := some 44, op := SOp.ext (Operand.tmp 41) 0, guard := none },
  { dst := some 45, op := SOp.ext (Operand.tmp 41) 1, guard := none },
  { dst := some 9, op := SOp.mv (Operand.tmp 44), guard := none },
  { dst := some 10, op := SOp.mv (Operand.tmp 45), guard := none }]
def c6_r6 : List SIns := [
  { dst := some 47, op := SOp.call 36 [], guard := none },
  { dst := some 48, op := SOp.call 17 [Operand.tmp 47], guard := none },
  { dst := some 46, op := SOp.mv (Operand.tmp 48), guard := none },
  { dst := some 49, op := SOp.ext (Operand.tmp 46) 0, guard := none },
  { dst := some 50, op := SOp.ext (Operand.tmp 46) 1, guard := none },
  { dst := some 11, op := SOp.alloc [Value.slice none 0 0], guard := none },
  { dst := none, op := SOp.store 1 (Operand.tmp 11) (Operand.tmp 49), guard := none },
  { dst := some 12, op := SOp.mv (Operand.tmp 50), guard := none }]
def c6_r7 : List SIns := [
  { dst := some 51, op := SOp.mv (Operand.tmp 2), guard := none },
  { dst := some 52, op := SOp.ib (BinOp.neq) (Operand.tmp 51) (Operand.const (Value.int (IntKind.i64) 0)), guard := none },
  { dst := some 53, op := SOp.mv (Operand.tmp 52), guard := none },
  { dst := some 54, op := SOp.mv (Operand.tmp 4), guard := some (53, false) },
  { dst := some 55, op := SOp.ib (BinOp.neq) (Operand.tmp 54) (Operand.const (Value.int (IntKind.i64) 0)), guard := some (53, false) },
  { dst := some 56, op := SOp.pick (Operand.tmp 53) (Operand.const (Value.bool true)) (Operand.tmp 55), guard := none },
  { dst := some 57, op := SOp.mv (Operand.tmp 56), guard := none },
  { dst := some 58, op := SOp.mv (Operand.tmp 6), guard := some (57, false) },
  { dst := some 59, op := SOp.ib (BinOp.neq) (Operand.tmp 58) (Operand.const (Value.int (IntKind.i64) 0)), guard := some (57, false) },
  { dst := some 60, op := SOp.pick (Operand.tmp 57) (Operand.const (Value.bool true)) (Operand.tmp 59), guard := none },
  { dst := some 61, op := SOp.mv (Operand.tmp 60), guard := none },
  { dst := some 62, op := SOp.mv (Operand.tmp 8), guard := some (61, false) },
  { dst := some 63, op := SOp.ib (BinOp.neq) (Operand.tmp 62) (Operand.const (Value.int (IntKind.i64) 0)), guard := some (61, false) },
  { dst := some 64, op := SOp.pick (Operand.tmp 61) (Operand.const (Value.bool true)) (Operand.tmp 63), guard := none },
  { dst := some 65, op := SOp.mv (Operand.tmp 64), guard := none },
  { dst := some 66, op := SOp.mv (Operand.tmp 10), guard := some (65, false) },
  { dst := some 67, op := SOp.ib (BinOp.neq) (Operand.tmp 66) (Operand.const (Value.int (IntKind.i64) 0)), guard := some (65, false) },
  { dst := some 68, op := SOp.pick (Operand.tmp 65) (Operand.const (Value.bool true)) (Operand.tmp 67), guard := none },
  { dst := some 69, op := SOp.mv (Operand.tmp 68), guard := none },
  { dst := some 70, op := SOp.mv (Operand.tmp 12), guard := some (69, false) },
  { dst := some 71, op := SOp.ib (BinOp.neq) (Operand.tmp 70) (Operand.const (Value.int (IntKind.i64) 0)), guard := some (69, false) },
  { dst := some 72, op := SOp.pick (Operand.tmp 69) (Operand.const (Value.bool true)) (Operand.tmp 71), guard := none }]
def c6_r8 : List SIns := [
  { dst := some 0, op := SOp.mv (Operand.const (Value.bool false)), guard := none }]
def c6_r9 : List SIns := [
  { dst := some 74, op := SOp.call 35 [], guard := none },
  { dst := some 75, op := SOp.call 21 [Operand.tmp 74, Operand.const (Value.int (IntKind.i64) 1)], guard := none },
  { dst := some 73, op := SOp.mv (Operand.tmp 75), guard := none },
  { dst := some 76, op := SOp.ext (Operand.tmp 73) 0, guard := none },
  { dst := some 77, op := SOp.ext (Operand.tmp 73) 1, guard := none },
  { dst := some 13, op := SOp.alloc [Value.slice none 0 0], guard := none },
  { dst := none, op := SOp.store 1 (Operand.tmp 13) (Operand.tmp 76), guard := none },
  { dst := some 2, op := SOp.mv (Operand.tmp 77), guard := none }]
def c6_r10 : List SIns := [
  { dst := some 79, op := SOp.call 38 [], guard := none },
  { dst := some 80, op := SOp.call 21 [Operand.tmp 79, Operand.const (Value.int (IntKind.i64) 3)], guard := none },
  { dst := some 78, op := SOp.mv (Operand.tmp 80), guard := none },
  { dst := some 81, op := SOp.ext (Operand.tmp 78) 0, guard := none },
  { dst := some 82, op := SOp.ext (Operand.tmp 78) 1, guard := none },
  { dst := some 4, op := SOp.mv (Operand.tmp 82), guard := none }]
def c6_r11 : List SIns := [
  { dst := some 84, op := SOp.call 34 [], guard := none },
  { dst := some 85, op := SOp.call 26 [Operand.tmp 84], guard := none },
  { dst := some 83, op := SOp.mv (Operand.tmp 85), guard := none },
  { dst := some 86, op := SOp.ext (Operand.tmp 83) 0, guard := none },
  { dst := some 87, op := SOp.ext (Operand.tmp 83) 1, guard := none },
  { dst := some 14, op := SOp.mv (Operand.tmp 86), guard := none },
  { dst := some 6, op := SOp.mv (Operand.tmp 87), guard := none }]
def c6_r12 : List SIns := [
  { dst := some 89, op := SOp.build [Value.slice none 0 0] [], guard := none },
  { dst := some 90, op := SOp.call 26 [Operand.tmp 89], guard := none },
  { dst := some 88, op := SOp.mv (Operand.tmp 90), guard := none },
  { dst := some 91, op := SOp.ext (Operand.tmp 88) 0, guard := none },
  { dst := some 92, op := SOp.ext (Operand.tmp 88) 1, guard := none },
  { dst := some 15, op := SOp.mv (Operand.tmp 91), guard := none },
  { dst := some 8, op := SOp.mv (Operand.tmp 92), guard := none }]
def c6_r13 : List SIns := [
  { dst := some 94, op := SOp.call 38 [], guard := none },
  { dst := some 95, op := SOp.call 28 [Operand.tmp 94], guard := none },
  { dst := some 93, op := SOp.mv (Operand.tmp 95), guard := none },
  { dst := some 96, op := SOp.ext (Operand.tmp 93) 0, guard := none },
  { dst := some 97, op := SOp.ext (Operand.tmp 93) 1, guard := none },
  { dst := some 16, op := SOp.mv (Operand.tmp 96), guard := none },
  { dst := some 10, op := SOp.mv (Operand.tmp 97), guard := none }]
def c6_r14 : List SIns := [
  { dst := some 99, op := SOp.call 36 [], guard := none },
  { dst := some 100, op := SOp.call 31 [Operand.tmp 99], guard := none },
  { dst := some 98, op := SOp.mv (Operand.tmp 100), guard := none },
  { dst := some 101, op := SOp.ext (Operand.tmp 98) 0, guard := none },
  { dst := some 102, op := SOp.ext (Operand.tmp 98) 1, guard := none },
  { dst := some 12, op := SOp.mv (Operand.tmp 102), guard := none }]
def c6_r15 : List SIns := [
  { dst := some 104, op := SOp.call 38 [], guard := none },
  { dst := some 105, op := SOp.mks 3 1 [Value.int (IntKind.i64) 0, Value.int (IntKind.i64) 0, Value.int (IntKind.i64) 0] [(0, 1, Operand.const (Value.int (IntKind.i64) 0)), (1, 1, Operand.const (Value.int (IntKind.i64) 5)), (2, 1, Operand.const (Value.int (IntKind.i64) 2))], guard := none },
  { dst := some 106, op := SOp.call 39 [Operand.tmp 105], guard := none },
  { dst := some 107, op := SOp.call 24 [Operand.tmp 104, Operand.tmp 106], guard := none },
  { dst := some 103, op := SOp.mv (Operand.tmp 107), guard := none },
  { dst := some 108, op := SOp.ext (Operand.tmp 103) 0, guard := none },
  { dst := some 109, op := SOp.ext (Operand.tmp 103) 1, guard := none },
  { dst := some 17, op := SOp.mv (Operand.tmp 108), guard := none },
  { dst := some 18, op := SOp.mv (Operand.tmp 109), guard := none }]
def c6_r16 : List SIns := [
  { dst := some 111, op := SOp.call 38 [], guard := none },
  { dst := some 112, op := SOp.mks 2 1 [Value.int (IntKind.i64) 0, Value.int (IntKind.i64) 0] [(0, 1, Operand.const (Value.int (IntKind.i64) 0)), (1, 1, Operand.const (Value.int (IntKind.i64) 1))], guard := none },
  { dst := some 113, op := SOp.call 39 [Operand.tmp 112], guard := none },
  { dst := some 114, op := SOp.call 24 [Operand.tmp 111, Operand.tmp 113], guard := none },
  { dst := some 110, op := SOp.mv (Operand.tmp 114), guard := none },
  { dst := some 115, op := SOp.ext (Operand.tmp 110) 0, guard := none },
  { dst := some 116, op := SOp.ext (Operand.tmp 110) 1, guard := none },
  { dst := some 19, op := SOp.mv (Operand.tmp 115), guard := none },
  { dst := some 20, op := SOp.mv (Operand.tmp 116), guard := none }]
def c6_r17 : List SIns := [
  { dst := some 117, op := SOp.mv (Operand.tmp 2), guard := none },
  { dst := some 118, op := SOp.ib (BinOp.eql) (Operand.tmp 117) (Operand.const (Value.int (IntKind.i64) 0)), guard := none },
  { dst := some 119, op := SOp.mv (Operand.tmp 118), guard := none },
  { dst := some 120, op := SOp.mv (Operand.tmp 4), guard := some (119, true) },
  { dst := some 121, op := SOp.ib (BinOp.eql) (Operand.tmp 120) (Operand.const (Value.int (IntKind.i64) 2)), guard := some (119, true) },
  { dst := some 122, op := SOp.pick (Operand.tmp 119) (Operand.tmp 121) (Operand.const (Value.bool false)), guard := none },
  { dst := some 123, op := SOp.mv (Operand.tmp 122), guard := none },
  { dst := some 124, op := SOp.mv (Operand.tmp 6), guard := some (123, true) },
  { dst := some 125, op := SOp.ib (BinOp.eql) (Operand.tmp 124) (Operand.const (Value.int (IntKind.i64) 0)), guard := some (123, true) },
  { dst := some 126, op := SOp.pick (Operand.tmp 123) (Operand.tmp 125) (Operand.const (Value.bool false)), guard := none },
  { dst := some 127, op := SOp.mv (Operand.tmp 126), guard := none },
  { dst := some 128, op := SOp.mv (Operand.tmp 8), guard := some (127, true) },
  { dst := some 129, op := SOp.ib (BinOp.eql) (Operand.tmp 128) (Operand.const (Value.int (IntKind.i64) 0)), guard := some (127, true) },
  { dst := some 130, op := SOp.pick (Operand.tmp 127) (Operand.tmp 129) (Operand.const (Value.bool false)), guard := none },
  { dst := some 131, op := SOp.mv (Operand.tmp 130), guard := none },
  { dst := some 132, op := SOp.mv (Operand.tmp 10), guard := some (131, true) },
  { dst := some 133, op := SOp.ib (BinOp.eql) (Operand.tmp 132) (Operand.const (Value.int (IntKind.i64) 0)), guard := some (131, true) },
  { dst := some 134, op := SOp.pick (Operand.tmp 131) (Operand.tmp 133) (Operand.const (Value.bool false)), guard := none },
  { dst := some 135, op := SOp.mv (Operand.tmp 134), guard := none },
  { dst := some 136, op := SOp.mv (Operand.tmp 12), guard := some (135, true) },
  { dst := some 137, op := SOp.ib (BinOp.eql) (Operand.tmp 136) (Operand.const (Value.int (IntKind.i64) 12)), guard := some (135, true) },
  { dst := some 138, op := SOp.pick (Operand.tmp 135) (Operand.tmp 137) (Operand.const (Value.bool false)), guard := none },
  { dst := some 139, op := SOp.mv (Operand.tmp 138), guard := none },
  { dst := some 140, op := SOp.mv (Operand.tmp 18), guard := some (139, true) },
  { dst := some 141, op := SOp.ib (BinOp.eql) (Operand.tmp 140) (Operand.const (Value.int (IntKind.i64) 0)), guard := some (139, true) },
  { dst := some 142, op := SOp.pick (Operand.tmp 139) (Operand.tmp 141) (Operand.const (Value.bool false)), guard := none },
  { dst := some 143, op := SOp.mv (Operand.tmp 142), guard := none },
  { dst := some 144, op := SOp.mv (Operand.tmp 20), guard := some (143, true) },
  { dst := some 145, op := SOp.ib (BinOp.eql) (Operand.tmp 144) (Operand.const (Value.int (IntKind.i64) 5)), guard := some (143, true) },
  { dst := some 146, op := SOp.pick (Operand.tmp 143) (Operand.tmp 145) (Operand.const (Value.bool false)), guard := none },
  { dst := some 147, op := SOp.mv (Operand.tmp 146), guard := none },
  { dst := some 148, op := SOp.mv (Operand.tmp 1), guard := some (147, true) },
  { dst := some 149, op := SOp.mks 2 1 [Value.int (IntKind.i64) 0, Value.int (IntKind.i64) 0] [(0, 1, Operand.const (Value.int (IntKind.i64) 0)), (1, 1, Operand.const (Value.int (IntKind.i64) 3))], guard := some (147, true) },
  { dst := some 150, op := SOp.mks 2 1 [Value.int (IntKind.i64) 0, Value.int (IntKind.i64) 0] [(0, 1, Operand.const (Value.int (IntKind.i64) 1)), (1, 1, Operand.const (Value.int (IntKind.i64) 2))], guard := some (147, true) },
  { dst := some 151, op := SOp.mks 2 1 [Value.slice none 0 0, Value.slice none 0 0] [(0, 1, Operand.tmp 149), (1, 1, Operand.tmp 150)], guard := some (147, true) },
  { dst := some 152, op := SOp.call 23 [Operand.tmp 148, Operand.tmp 151], guard := some (147, true) },
  { dst := some 153, op := SOp.pick (Operand.tmp 147) (Operand.tmp 152) (Operand.const (Value.bool false)), guard := none },
  { dst := some 154, op := SOp.mv (Operand.tmp 153), guard := none },
  { dst := some 155, op := SOp.mv (Operand.tmp 3), guard := some (154, true) },
  { dst := some 156, op := SOp.mks 4 1 [Value.int (IntKind.i64) 0, Value.int (IntKind.i64) 0, Value.int (IntKind.i64) 0, Value.int (IntKind.i64) 0] [(0, 1, Operand.const (Value.int (IntKind.i64) 0)), (1, 1, Operand.const (Value.int (IntKind.i64) 3)), (2, 1, Operand.const (Value.int (IntKind.i64) 1)), (3, 1, Operand.const (Value.int (IntKind.i64) 2))], guard := some (154, true) },
  { dst := some 157, op := SOp.mks 1 1 [Value.slice none 0 0] [(0, 1, Operand.tmp 156)], guard := some (154, true) },
  { dst := some 158, op := SOp.call 23 [Operand.tmp 155, Operand.tmp 157], guard := some (154, true) },
  { dst := some 159, op := SOp.pick (Operand.tmp 154) (Operand.tmp 158) (Operand.const (Value.bool false)), guard := none },
  { dst := some 160, op := SOp.mv (Operand.tmp 159), guard := none },
  { dst := some 161, op := SOp.mv (Operand.tmp 5), guard := some (160, true) },
  { dst := some 162, op := SOp.mks 1 1 [Value.int (IntKind.i64) 0] [(0, 1, Operand.const (Value.int (IntKind.i64) 0))], guard := some (160, true) },
  { dst := some 163, op := SOp.mks 1 1 [Value.int (IntKind.i64) 0] [(0, 1, Operand.const (Value.int (IntKind.i64) 1))], guard := some (160, true) },
  { dst := some 164, op := SOp.mks 2 1 [Value.slice none 0 0, Value.slice none 0 0] [(0, 1, Operand.tmp 162), (1, 1, Operand.tmp 163)], guard := some (160, true) },
  { dst := some 165, op := SOp.call 23 [Operand.tmp 161, Operand.tmp 164], guard := some (160, true) },
  { dst := some 166, op := SOp.pick (Operand.tmp 160) (Operand.tmp 165) (Operand.const (Value.bool false)), guard := none },
  { dst := some 167, op := SOp.mv (Operand.tmp 166), guard := none },
  { dst := some 168, op := SOp.mv (Operand.tmp 7), guard := some (167, true) },
  { dst := some 169, op := SOp.ib (BinOp.eql) (Operand.tmp 168) (Operand.const (Value.int (IntKind.i64) 0)), guard := some (167, true) },
  { dst := some 170, op := SOp.pick (Operand.tmp 167) (Operand.tmp 169) (Operand.const (Value.bool false)), guard := none },
  { dst := some 171, op := SOp.mv (Operand.tmp 170), guard := none },
  { dst := some 172, op := SOp.mv (Operand.tmp 9), guard := some (171, true) },
  { dst := some 173, op := SOp.ib (BinOp.eql) (Operand.tmp 172) (Operand.const (Value.int (IntKind.i64) 0)), guard := some (171, true) },
  { dst := some 174, op := SOp.pick (Operand.tmp 171) (Operand.tmp 173) (Operand.const (Value.bool false)), guard := none },
  { dst := some 175, op := SOp.mv (Operand.tmp 174), guard := none },
  { dst := some 176, op := SOp.off 0 (Operand.tmp 11), guard := some (175, true) },
  { dst := some 177, op := SOp.load1 (Operand.tmp 176), guard := some (175, true) },
  { dst := some 178, op := SOp.mks 1 1 [Value.int (IntKind.i64) 0] [(0, 1, Operand.const (Value.int (IntKind.i64) 0))], guard := some (175, true) },
  { dst := some 179, op := SOp.mks 1 1 [Value.int (IntKind.i64) 0] [(0, 1, Operand.const (Value.int (IntKind.i64) 1))], guard := some (175, true) },
  { dst := some 180, op := SOp.mks 2 1 [Value.slice none 0 0, Value.slice none 0 0] [(0, 1, Operand.tmp 178), (1, 1, Operand.tmp 179)], guard := some (175, true) },
  { dst := some 181, op := SOp.call 23 [Operand.tmp 177, Operand.tmp 180], guard := some (175, true) },
  { dst := some 182, op := SOp.pick (Operand.tmp 175) (Operand.tmp 181) (Operand.const (Value.bool false)), guard := none },
  { dst := some 183, op := SOp.mv (Operand.tmp 182), guard := none },
  { dst := some 184, op := SOp.off 0 (Operand.tmp 13), guard := some (183, true) },
  { dst := some 185, op := SOp.load1 (Operand.tmp 184), guard := some (183, true) },
  { dst := some 186, op := SOp.mks 2 1 [Value.int (IntKind.i64) 0, Value.int (IntKind.i64) 0] [(0, 1, Operand.const (Value.int (IntKind.i64) 0)), (1, 1, Operand.const (Value.int (IntKind.i64) 1))], guard := some (183, true) },
  { dst := some 187, op := SOp.mks 1 1 [Value.slice none 0 0] [(0, 1, Operand.tmp 186)], guard := some (183, true) },
  { dst := some 188, op := SOp.call 23 [Operand.tmp 185, Operand.tmp 187], guard := some (183, true) },
  { dst := some 189, op := SOp.pick (Operand.tmp 183) (Operand.tmp 188) (Operand.const (Value.bool false)), guard := none },
  { dst := some 190, op := SOp.mv (Operand.tmp 189), guard := none },
  { dst := some 191, op := SOp.mv (Operand.tmp 14), guard := some (190, true) },
  { dst := some 192, op := SOp.ib (BinOp.eql) (Operand.tmp 191) (Operand.const (Value.int (IntKind.i64) 2)), guard := some (190, true) },
  { dst := some 193, op := SOp.pick (Operand.tmp 190) (Operand.tmp 192) (Operand.const (Value.bool false)), guard := none },
  { dst := some 194, op := SOp.mv (Operand.tmp 193), guard := none },
  { dst := some 195, op := SOp.mv (Operand.tmp 15), guard := some (194, true) },
  { dst := some 196, op := SOp.ib (BinOp.eql) (Operand.tmp 195) (Operand.const (Value.int (IntKind.i64) 0)), guard := some (194, true) },
  { dst := some 197, op := SOp.pick (Operand.tmp 194) (Operand.tmp 196) (Operand.const (Value.bool false)), guard := none },
  { dst := some 198, op := SOp.mv (Operand.tmp 197), guard := none },
  { dst := some 199, op := SOp.mv (Operand.tmp 16), guard := some (198, true) },
  { dst := some 200, op := SOp.mks 3 1 [Value.int (IntKind.i64) 0, Value.int (IntKind.i64) 0, Value.int (IntKind.i64) 0] [(0, 1, Operand.const (Value.int (IntKind.i64) 0)), (1, 1, Operand.const (Value.int (IntKind.i64) 1)), (2, 1, Operand.const (Value.int (IntKind.i64) 2))], guard := some (198, true) },
  { dst := some 201, op := SOp.call 39 [Operand.tmp 200], guard := some (198, true) },
  { dst := some 202, op := SOp.call 30 [Operand.tmp 199, Operand.tmp 201], guard := some (198, true) },
  { dst := some 203, op := SOp.pick (Operand.tmp 198) (Operand.tmp 202) (Operand.const (Value.bool false)), guard := none },
  { dst := some 204, op := SOp.mv (Operand.tmp 203), guard := none },
  { dst := some 205, op := SOp.mv (Operand.tmp 17), guard := some (204, true) },
  { dst := some 206, op := SOp.pick (Operand.tmp 204) (Operand.tmp 205) (Operand.const (Value.bool false)), guard := none },
  { dst := some 207, op := SOp.mv (Operand.tmp 206), guard := none },
  { dst := some 208, op := SOp.mks 1 1 [Value.int (IntKind.i64) 0] [(0, 1, Operand.const (Value.int (IntKind.i64) 0))], guard := some (207, true) },
  { dst := some 209, op := SOp.call 39 [Operand.tmp 208], guard := some (207, true) },
  { dst := some 210, op := SOp.mks 1 1 [Value.int (IntKind.i64) 0] [(0, 1, Operand.const (Value.int (IntKind.i64) 0))], guard := some (207, true) },
  { dst := some 211, op := SOp.call 39 [Operand.tmp 210], guard := some (207, true) },
  { dst := some 212, op := SOp.mks 2 1 [Value.slice none 0 0, Value.slice none 0 0] [(0, 1, Operand.tmp 209), (1, 1, Operand.tmp 211)], guard := some (207, true) },
  { dst := some 213, op := SOp.call 41 [Operand.tmp 212], guard := some (207, true) },
  { dst := some 214, op := SOp.call 40 [Operand.tmp 213], guard := some (207, true) },
  { dst := some 215, op := SOp.ib (BinOp.eql) (Operand.tmp 214) (Operand.const (Value.int (IntKind.i64) 6)), guard := some (207, true) },
  { dst := some 216, op := SOp.pick (Operand.tmp 207) (Operand.tmp 215) (Operand.const (Value.bool false)), guard := none },
  { dst := some 217, op := SOp.mv (Operand.tmp 216), guard := none },
  { dst := some 218, op := SOp.mks 1 1 [Value.int (IntKind.i64) 0] [(0, 1, Operand.const (Value.int (IntKind.i64) 0))], guard := some (217, true) },
  { dst := some 219, op := SOp.call 39 [Operand.tmp 218], guard := some (217, true) },
  { dst := some 220, op := SOp.mks 1 1 [Value.slice none 0 0] [(0, 1, Operand.tmp 219)], guard := some (217, true) },
  { dst := some 221, op := SOp.call 41 [Operand.tmp 220], guard := some (217, true) },
  { dst := some 222, op := SOp.call 40 [Operand.tmp 221], guard := some (217, true) },
  { dst := some 223, op := SOp.ib (BinOp.eql) (Operand.tmp 222) (Operand.const (Value.int (IntKind.i64) 5)), guard := some (217, true) },
  { dst := some 224, op := SOp.pick (Operand.tmp 217) (Operand.tmp 223) (Operand.const (Value.bool false)), guard := none },
  { dst := some 225, op := SOp.mv (Operand.tmp 224), guard := none },
  { dst := some 226, op := SOp.mks 2 1 [Value.int (IntKind.i64) 0, Value.int (IntKind.i64) 0] [(0, 1, Operand.const (Value.int (IntKind.i64) 0)), (1, 1, Operand.const (Value.int (IntKind.i64) 2))], guard := some (225, true) },
  { dst := some 227, op := SOp.call 39 [Operand.tmp 226], guard := some (225, true) },
  { dst := some 228, op := SOp.mks 1 1 [Value.slice none 0 0] [(0, 1, Operand.tmp 227)], guard := some (225, true) },
  { dst := some 229, op := SOp.call 41 [Operand.tmp 228], guard := some (225, true) },
  { dst := some 230, op := SOp.call 40 [Operand.tmp 229], guard := some (225, true) },
  { dst := some 231, op := SOp.ib (BinOp.eql) (Operand.tmp 230) (Operand.const (Value.int (IntKind.i64) 2)), guard := some (225, true) },
  { dst := some 232, op := SOp.pick (Operand.tmp 225) (Operand.tmp 231) (Operand.const (Value.bool false)), guard := none },
  { dst := some 233, op := SOp.mv (Operand.tmp 232), guard := none },
  { dst := some 234, op := SOp.mks 1 1 [Value.slice none 0 0] [(0, 1, Operand.const (Value.slice none 0 0))], guard := some (233, true) },
  { dst := some 235, op := SOp.call 41 [Operand.tmp 234], guard := some (233, true) },
  { dst := some 236, op := SOp.call 40 [Operand.tmp 235], guard := some (233, true) },
  { dst := some 237, op := SOp.ib (BinOp.eql) (Operand.tmp 236) (Operand.const (Value.int (IntKind.i64) 4)), guard := some (233, true) },
  { dst := some 238, op := SOp.pick (Operand.tmp 233) (Operand.tmp 237) (Operand.const (Value.bool false)), guard := none },
  { dst := some 239, op := SOp.mv (Operand.tmp 238), guard := none },
  { dst := some 240, op := SOp.call 16 [], guard := some (239, true) },
  { dst := some 241, op := SOp.pick (Operand.tmp 239) (Operand.tmp 240) (Operand.const (Value.bool false)), guard := none },
  { dst := some 0, op := SOp.mv (Operand.tmp 241), guard := none }]
def c6 : SCode := (.seq (.reg c6_r0 []) (.seq (.reg c6_r1 [1, 2]) (.seq (.reg c6_r2 [1, 2, 3, 4]) (.seq (.reg c6_r3 [1, 2, 3, 4, 5, 6]) (.seq (.reg c6_r4 [1, 2, 3, 4, 5, 6, 7, 8]) (.seq (.reg c6_r5 [1, 2, 3, 4, 5, 6, 7, 8, 9, 10]) (.seq (.reg c6_r6 [1, 2, 3, 4, 5, 6, 7, 8, 9, 10, 11, 12]) (.seq (.seq (.reg c6_r7 [1, 3, 5, 7, 9, 11, 72]) (.cond (Operand.tmp 72) (.seq (.reg c6_r8 [0]) .ret) .skip)) (.seq (.reg c6_r9 [1, 2, 3, 5, 7, 9, 11, 13]) (.seq (.reg c6_r10 [1, 2, 3, 4, 5, 7, 9, 11, 13]) (.seq (.reg c6_r11 [1, 2, 3, 4, 5, 6, 7, 9, 11, 13, 14]) (.seq (.reg c6_r12 [1, 2, 3, 4, 5, 6, 7, 8, 9, 11, 13, 14, 15]) (.seq (.reg c6_r13 [1, 2, 3, 4, 5, 6, 7, 8, 9, 10, 11, 13, 14, 15, 16]) (.seq (.reg c6_r14 [1, 2, 3, 4, 5, 6, 7, 8, 9, 10, 11, 12, 13, 14, 15, 16]) (.seq (.reg c6_r15 [1, 2, 3, 4, 5, 6, 7, 8, 9, 10, 11, 12, 13, 14, 15, 16, 17, 18]) (.seq (.reg c6_r16 [1, 2, 3, 4, 5, 6, 7, 8, 9, 10, 11, 12, 13, 14, 15, 16, 17, 18, 20]) (.seq (.reg c6_r17 [0]) .ret)))))))))))))))))
theorem F6 : Fn Tryd.prog 6 c6 [SRes.tmp 0] 242 := ⟨Tryd.f6, Tryd.f6.body.getD .skip, [[], [1, 2], [1, 2, 3, 4], [1, 2, 3, 4, 5, 6], [1, 2, 3, 4, 5, 6, 7, 8], [1, 2, 3, 4, 5, 6, 7, 8, 9, 10], [1, 2, 3, 4, 5, 6, 7, 8, 9, 10, 11, 12], [1, 3, 5, 7, 9, 11, 72], [0], [1, 2, 3, 5, 7, 9, 11, 13], [1, 2, 3, 4, 5, 7, 9, 11, 13], [1, 2, 3, 4, 5, 6, 7, 9, 11, 13, 14], [1, 2, 3, 4, 5, 6, 7, 8, 9, 11, 13, 14, 15], [1, 2, 3, 4, 5, 6, 7, 8, 9, 10, 11, 13, 14, 15, 16], [1, 2, 3, 4, 5, 6, 7, 8, 9, 10, 11, 12, 13, 14, 15, 16], [1, 2, 3, 4, 5, 6, 7, 8, 9, 10, 11, 12, 13, 14, 15, 16, 17, 18], [1, 2, 3, 4, 5, 6, 7, 8, 9, 10, 11, 12, 13, 14, 15, 16, 17, 18, 20], [0]], Tryd.func6, by kernel_rfl, by kernel_rfl, by kernel_rfl, by kernel_rfl, by decide⟩

def c16_r0 : List SIns := [
  { dst := some 0, op := SOp.mv (Operand.const (Value.bool false)), guard := none }]
def c16_r1 : List SIns := [
  { dst := some 21, op := SOp.call 38 [], guard := none },
  { dst := some 22, op := SOp.call 33 [Operand.tmp 21], guard := none },
  { dst := some 20, op := SOp.mv (Operand.tmp 22), guard := none },
  { dst := some 23, op := SOp.ext (Operand.tmp 20) 0, guard := none },
  { dst := some 24, op := SOp.ext (Operand.tmp 20) 1, guard := none },
  { dst := some 1, op := SOp.mv (Operand.tmp 23), guard := none },
  { dst := some 2, op := SOp.mv (Operand.tmp 24), guard := none }]
def c16_r2 : List SIns := [
  { dst := some 26, op := SOp.call 38 [], guard := none },
  { dst := some 27, op := SOp.call 37 [Operand.tmp 26], guard := none },
  { dst := some 25, op := SOp.mv (Operand.tmp 27), guard := none },
  { dst := some 28, op := SOp.ext (Operand.tmp 25) 0, guard := none },
  { dst := some 29, op := SOp.ext (Operand.tmp 25) 1, guard := none },
  { dst := some 3, op := SOp.mv (Operand.tmp 28), guard := none },
  { dst := some 4, op := SOp.mv (Operand.tmp 29), guard := none }]
def c16_r3 : List SIns := [
  { dst := some 31, op := SOp.call 35 [], guard := none },
  { dst := some 32, op := SOp.call 37 [Operand.tmp 31], guard := none },
  { dst := some 30, op := SOp.mv (Operand.tmp 32), guard := none },
  { dst := some 33, op := SOp.ext (Operand.tmp 30) 0, guard := none },
  { dst := some 34, op := SOp.ext (Operand.tmp 30) 1, guard := none },
  { dst := some 5, op := SOp.mv (Operand.tmp 33), guard := none },
  { dst := some 6, op := SOp.mv (Operand.tmp 34), guard := none }]
def c16_r4 : List SIns := [
  { dst := some 36, op := SOp.call 38 [], guard := none },
  { dst := some 37, op := SOp.call 17 [Operand.tmp 36], guard := none },
  { dst := some 35, op := SOp.mv (Operand.tmp 37), guard := none },
  { dst := some 38, op := SOp.ext (Operand.tmp 35) 0, guard := none },
  { dst := some 39, op := SOp.ext (Operand.tmp 35) 1, guard := none },
  { dst := some 7, op := SOp.alloc [Value.slice none 0 0], guard := none },
  { dst := none, op := SOp.store 1 (Operand.tmp 7) (Operand.tmp 38), guard := none },
  { dst := some 8, op := SOp.mv (Operand.tmp 39), guard := none }]
def c16_r5 : List SIns := [
  { dst := some 41, op := SOp.call 35 [], guard := none },
  { dst := some 42, op := SOp.call 19 [Operand.tmp 41], guard := none },
  { dst := some 40, op := SOp.mv (Operand.tmp 42), guard := none },
  { dst := some 43, op := SOp.ext (Operand.tmp 40) 0, guard := none },
  { dst := some 44, op := SOp.ext (Operand.tmp 40) 1, guard := none },
  { dst := some 9, op := SOp.alloc [Value.slice none 0 0], guard := none },
  { dst := none, op := SOp.store 1 (Operand.tmp 9) (Operand.tmp 43), guard := none },
  { dst := some 10, op := SOp.mv (Operand.tmp 44), guard := none }]
def c16_r6 : List SIns := [
  { dst := some 46, op := SOp.call 38 [], guard := none },
  { dst := some 47, op := SOp.call 21 [Operand.tmp 46, Operand.const (Value.int (IntKind.i64) 0)], guard := none },
  { dst := some 45, op := SOp.mv (Operand.tmp 47), guard := none },
  { dst := some 48, op := SOp.ext (Operand.tmp 45) 0, guard := none },
  { dst := some 49, op := SOp.ext (Operand.tmp 45) 1, guard := none },
  { dst := some 11, op := SOp.alloc [Value.slice none 0 0], guard := none },
  { dst := none, op := SOp.store 1 (Operand.tmp 11) (Operand.tmp 48), guard := none },
  { dst := some 12, op := SOp.mv (Operand.tmp 49), guard := none }]
def c16_r7 : List SIns := [
  { dst := some 50, op := SOp.mv (Operand.tmp 2), guard := none },
  { dst := some 51, op := SOp.ib (BinOp.neq) (Operand.tmp 50) (Operand.const (Value.int (IntKind.i64) 0)), guard := none },
  { dst := some 52, op := SOp.mv (Operand.tmp 51), guard := none },
  { dst := some 53, op := SOp.mv (Operand.tmp 4), guard := some (52, false) },
  { dst := some 54, op := SOp.ib (BinOp.neq) (Operand.tmp 53) (Operand.const (Value.int (IntKind.i64) 0)), guard := some (52, false) },
  { dst := some 55, op := SOp.pick (Operand.tmp 52) (Operand.const (Value.bool true)) (Operand.tmp 54), guard := none },
  { dst := some 56, op := SOp.mv (Operand.tmp 55), guard := none },
  { dst := some 57, op := SOp.mv (Operand.tmp 6), guard := some (56, false) },
  { dst := some 58, op := SOp.ib (BinOp.neq) (Operand.tmp 57) (Operand.const (Value.int (IntKind.i64) 0)), guard := some (56, false) },
  { dst := some 59, op := SOp.pick (Operand.tmp 56) (Operand.const (Value.bool true)) (Operand.tmp 58), guard := none },
  { dst := some 60, op := SOp.mv (Operand.tmp 59), guard := none },
  { dst := some 61, op := SOp.mv (Operand.tmp 8), guard := some (60, false) },
  { dst := some 62, op := SOp.ib (BinOp.neq) (Operand.tmp 61) (Operand.const (Value.int (IntKind.i64) 0)), guard := some (60, false) },
  { dst := some 63, op := SOp.pick (Operand.tmp 60) (Operand.const (Value.bool true)) (Operand.tmp 62), guard := none },
  { dst := some 64, op := SOp.mv (Operand.tmp 63), guard := none },
  { dst := some 65, op := SOp.mv (Operand.tmp 10), guard := some (64, false) },
  { dst := some 66, op := SOp.ib (BinOp.neq) (Operand.tmp 65) (Operand.const (Value.int (IntKind.i64) 0)), guard := some (64, false) },
  { dst := some 67, op := SOp.pick (Operand.tmp 64) (Operand.const (Value.bool true)) (Operand.tmp 66), guard := none },
  { dst := some 68, op := SOp.mv (Operand.tmp 67), guard := none },
  { dst := some 69, op := SOp.mv (Operand.tmp 12), guard := some (68, false) },
  { dst := some 70, op := SOp.ib (BinOp.neq) (Operand.tmp 69) (Operand.const (Value.int (IntKind.i64) 0)), guard := some (68, false) },
  { dst := some 71, op := SOp.pick (Operand.tmp 68) (Operand.const (Value.bool true)) (Operand.tmp 70), guard := none }]
def c16_r8 : List SIns := [
  { dst := some 0, op := SOp.mv (Operand.const (Value.bool false)), guard := none }]
def c16_r9 : List SIns := [
  { dst := some 73, op := SOp.call 38 [], guard := none },
  { dst := some 74, op := SOp.call 46 [Operand.tmp 73], guard := none },
  { dst := some 72, op := SOp.mv (Operand.tmp 74), guard := none },
  { dst := some 75, op := SOp.ext (Operand.tmp 72) 0, guard := none },
  { dst := some 76, op := SOp.ext (Operand.tmp 72) 1, guard := none },
  { dst := some 13, op := SOp.mv (Operand.tmp 75), guard := none },
  { dst := some 2, op := SOp.mv (Operand.tmp 76), guard := none }]
def c16_r10 : List SIns := [
  { dst := some 78, op := SOp.call 38 [], guard := none },
  { dst := some 79, op := SOp.call 26 [Operand.tmp 78], guard := none },
  { dst := some 77, op := SOp.mv (Operand.tmp 79), guard := none },
  { dst := some 80, op := SOp.ext (Operand.tmp 77) 0, guard := none },
  { dst := some 81, op := SOp.ext (Operand.tmp 77) 1, guard := none },
  { dst := some 14, op := SOp.mv (Operand.tmp 80), guard := none },
  { dst := some 4, op := SOp.mv (Operand.tmp 81), guard := none }]
def c16_r11 : List SIns := [
  { dst := some 83, op := SOp.call 34 [], guard := none },
  { dst := some 84, op := SOp.call 28 [Operand.tmp 83], guard := none },
  { dst := some 82, op := SOp.mv (Operand.tmp 84), guard := none },
  { dst := some 85, op := SOp.ext (Operand.tmp 82) 0, guard := none },
  { dst := some 86, op := SOp.ext (Operand.tmp 82) 1, guard := none },
  { dst := some 15, op := SOp.mv (Operand.tmp 85), guard := none },
  { dst := some 6, op := SOp.mv (Operand.tmp 86), guard := none }]
def c16_r12 : List SIns := [
  { dst := some 88, op := SOp.call 38 [], guard := none },
  { dst := some 89, op := SOp.call 31 [Operand.tmp 88], guard := none },
  { dst := some 87, op := SOp.mv (Operand.tmp 89), guard := none },
  { dst := some 90, op := SOp.ext (Operand.tmp 87) 0, guard := none },
  { dst := some 91, op := SOp.ext (Operand.tmp 87) 1, guard := none },
  { dst := some 16, op := SOp.mv (Operand.tmp 90), guard := none },
  { dst := some 8, op := SOp.mv (Operand.tmp 91), guard := none }]
def c16_r13 : List SIns := [
  { dst := some 93, op := SOp.call 38 [], guard := none },
  { dst := some 94, op := SOp.mks 3 1 [Value.int (IntKind.i64) 0, Value.int (IntKind.i64) 0, Value.int (IntKind.i64) 0] [(0, 1, Operand.const (Value.int (IntKind.i64) 0)), (1, 1, Operand.const (Value.int (IntKind.i64) 1)), (2, 1, Operand.const (Value.int (IntKind.i64) 0))], guard := none },
  { dst := some 95, op := SOp.call 39 [Operand.tmp 94], guard := none },
  { dst := some 96, op := SOp.call 24 [Operand.tmp 93, Operand.tmp 95], guard := none },
  { dst := some 92, op := SOp.mv (Operand.tmp 96), guard := none },
  { dst := some 97, op := SOp.ext (Operand.tmp 92) 0, guard := none },
  { dst := some 98, op := SOp.ext (Operand.tmp 92) 1, guard := none },
  { dst := some 17, op := SOp.mv (Operand.tmp 97), guard := none },
  { dst := some 10, op := SOp.mv (Operand.tmp 98), guard := none }]
def c16_r14 : List SIns := [
  { dst := some 100, op := SOp.call 36 [], guard := none },
  { dst := some 101, op := SOp.call 26 [Operand.tmp 100], guard := none },
  { dst := some 99, op := SOp.mv (Operand.tmp 101), guard := none },
  { dst := some 102, op := SOp.ext (Operand.tmp 99) 0, guard := none },
  { dst := some 103, op := SOp.ext (Operand.tmp 99) 1, guard := none },
  { dst := some 12, op := SOp.mv (Operand.tmp 103), guard := none }]
def c16_r15 : List SIns := [
  { dst := some 105, op := SOp.call 34 [], guard := none },
  { dst := some 106, op := SOp.call 31 [Operand.tmp 105], guard := none },
  { dst := some 104, op := SOp.mv (Operand.tmp 106), guard := none },
  { dst := some 107, op := SOp.ext (Operand.tmp 104) 0, guard := none },
  { dst := some 108, op := SOp.ext (Operand.tmp 104) 1, guard := none },
  { dst := some 18, op := SOp.mv (Operand.tmp 107), guard := none },
  { dst := some 19, op := SOp.mv (Operand.tmp 108), guard := none }]
def c16_r16 : List SIns := [
  { dst := some 109, op := SOp.mv (Operand.tmp 2), guard := none },
  { dst := some 110, op := SOp.ib (BinOp.eql) (Operand.tmp 109) (Operand.const (Value.int (IntKind.i64) 0)), guard := none },
  { dst := some 111, op := SOp.mv (Operand.tmp 110), guard := none },
  { dst := some 112, op := SOp.mv (Operand.tmp 4), guard := some (111, true) },
  { dst := some 113, op := SOp.ib (BinOp.eql) (Operand.tmp 112) (Operand.const (Value.int (IntKind.i64) 0)), guard := some (111, true) },
  { dst := some 114, op := SOp.pick (Operand.tmp 111) (Operand.tmp 113) (Operand.const (Value.bool false)), guard := none },
  { dst := some 115, op := SOp.mv (Operand.tmp 114), guard := none },
  { dst := some 116, op := SOp.mv (Operand.tmp 6), guard := some (115, true) },
  { dst := some 117, op := SOp.ib (BinOp.eql) (Operand.tmp 116) (Operand.const (Value.int (IntKind.i64) 0)), guard := some (115, true) },
  { dst := some 118, op := SOp.pick (Operand.tmp 115) (Operand.tmp 117) (Operand.const (Value.bool false)), guard := none },
  { dst := some 119, op := SOp.mv (Operand.tmp 118), guard := none },
  { dst := some 120, op := SOp.mv (Operand.tmp 8), guard := some (119, true) },
  { dst := some 121, op := SOp.ib (BinOp.eql) (Operand.tmp 120) (Operand.const (Value.int (IntKind.i64) 0)), guard := some (119, true) },
  { dst := some 122, op := SOp.pick (Operand.tmp 119) (Operand.tmp 121) (Operand.const (Value.bool false)), guard := none },
  { dst := some 123, op := SOp.mv (Operand.tmp 122), guard := none },
  { dst := some 124, op := SOp.mv (Operand.tmp 10), guard := some (123, true) },
  { dst := some 125, op := SOp.ib (BinOp.eql) (Operand.tmp 124) (Operand.const (Value.int (IntKind.i64) 0)), guard := some (123, true) },
  { dst := some 126, op := SOp.pick (Operand.tmp 123) (Operand.tmp 125) (Operand.const (Value.bool false)), guard := none },
  { dst := some 127, op := SOp.mv (Operand.tmp 126), guard := none },
  { dst := some 128, op := SOp.mv (Operand.tmp 12), guard := some (127, true) },
  { dst := some 129, op := SOp.ib (BinOp.eql) (Operand.tmp 128) (Operand.const (Value.int (IntKind.i64) 12)), guard := some (127, true) },
  { dst := some 130, op := SOp.pick (Operand.tmp 127) (Operand.tmp 129) (Operand.const (Value.bool false)), guard := none },
  { dst := some 131, op := SOp.mv (Operand.tmp 130), guard := none },
  { dst := some 132, op := SOp.mv (Operand.tmp 19), guard := some (131, true) },
  { dst := some 133, op := SOp.ib (BinOp.eql) (Operand.tmp 132) (Operand.const (Value.int (IntKind.i64) 13)), guard := some (131, true) },
  { dst := some 134, op := SOp.pick (Operand.tmp 131) (Operand.tmp 133) (Operand.const (Value.bool false)), guard := none },
  { dst := some 135, op := SOp.mv (Operand.tmp 134), guard := none },
  { dst := some 136, op := SOp.mv (Operand.tmp 1), guard := some (135, true) },
  { dst := some 137, op := SOp.mks 3 1 [Value.int (IntKind.i64) 0, Value.int (IntKind.i64) 0, Value.int (IntKind.i64) 0] [(0, 1, Operand.const (Value.int (IntKind.i64) 0)), (1, 1, Operand.const (Value.int (IntKind.i64) 2)), (2, 1, Operand.const (Value.int (IntKind.i64) 4))], guard := some (135, true) },
  { dst := some 138, op := SOp.mks 3 1 [Value.int (IntKind.i64) 0, Value.int (IntKind.i64) 0, Value.int (IntKind.i64) 0] [(0, 1, Operand.const (Value.int (IntKind.i64) 1)), (1, 1, Operand.const (Value.int (IntKind.i64) 5)), (2, 1, Operand.const (Value.int (IntKind.i64) 3))], guard := some (135, true) },
  { dst := some 139, op := SOp.mks 2 1 [Value.slice none 0 0, Value.slice none 0 0] [(0, 1, Operand.tmp 137), (1, 1, Operand.tmp 138)], guard := some (135, true) },
  { dst := some 140, op := SOp.call 23 [Operand.tmp 136, Operand.tmp 139], guard := some (135, true) },
  { dst := some 141, op := SOp.pick (Operand.tmp 135) (Operand.tmp 140) (Operand.const (Value.bool false)), guard := none },
  { dst := some 142, op := SOp.mv (Operand.tmp 141), guard := none },
  { dst := some 143, op := SOp.mv (Operand.tmp 3), guard := some (142, true) },
  { dst := some 144, op := SOp.ib (BinOp.eql) (Operand.tmp 143) (Operand.const (Value.int (IntKind.i64) 0)), guard := some (142, true) },
  { dst := some 145, op := SOp.pick (Operand.tmp 142) (Operand.tmp 144) (Operand.const (Value.bool false)), guard := none },
  { dst := some 146, op := SOp.mv (Operand.tmp 145), guard := none },
  { dst := some 147, op := SOp.mv (Operand.tmp 5), guard := some (146, true) },
  { dst := some 148, op := SOp.ib (BinOp.eql) (Operand.tmp 147) (Operand.const (Value.int (IntKind.i64) 1)), guard := some (146, true) },
  { dst := some 149, op := SOp.pick (Operand.tmp 146) (Operand.tmp 148) (Operand.const (Value.bool false)), guard := none },
  { dst := some 150, op := SOp.mv (Operand.tmp 149), guard := none },
  { dst := some 151, op := SOp.off 0 (Operand.tmp 7), guard := some (150, true) },
  { dst := some 152, op := SOp.load1 (Operand.tmp 151), guard := some (150, true) },
  { dst := some 153, op := SOp.mks 3 1 [Value.int (IntKind.i64) 0, Value.int (IntKind.i64) 0, Value.int (IntKind.i64) 0] [(0, 1, Operand.const (Value.int (IntKind.i64) 0)), (1, 1, Operand.const (Value.int (IntKind.i64) 2)), (2, 1, Operand.const (Value.int (IntKind.i64) 4))], guard := some (150, true) },
  { dst := some 154, op := SOp.mks 3 1 [Value.int (IntKind.i64) 0, Value.int (IntKind.i64) 0, Value.int (IntKind.i64) 0] [(0, 1, Operand.const (Value.int (IntKind.i64) 1)), (1, 1, Operand.const (Value.int (IntKind.i64) 5)), (2, 1, Operand.const (Value.int (IntKind.i64) 3))], guard := some (150, true) },
  { dst := some 155, op := SOp.mks 2 1 [Value.slice none 0 0, Value.slice none 0 0] [(0, 1, Operand.tmp 153), (1, 1, Operand.tmp 154)], guard := some (150, true) },
  { dst := some 156, op := SOp.call 23 [Operand.tmp 152, Operand.tmp 155], guard := some (150, true) },
  { dst := some 157, op := SOp.pick (Operand.tmp 150) (Operand.tmp 156) (Operand.const (Value.bool false)), guard := none },
  { dst := some 158, op := SOp.mv (Operand.tmp 157), guard := none },
  { dst := some 159, op := SOp.off 0 (Operand.tmp 9), guard := some (158, true) },
  { dst := some 160, op := SOp.load1 (Operand.tmp 159), guard := some (158, true) },
  { dst := some 161, op := SOp.mks 4 1 [Value.int (IntKind.i64) 0, Value.int (IntKind.i64) 0, Value.int (IntKind.i64) 0, Value.int (IntKind.i64) 0] [(0, 1, Operand.const (Value.int (IntKind.i64) 0)), (1, 1, Operand.const (Value.int (IntKind.i64) 3)), (2, 1, Operand.const (Value.int (IntKind.i64) 1)), (3, 1, Operand.const (Value.int (IntKind.i64) 2))], guard := some (158, true) },
  { dst := some 162, op := SOp.mks 1 1 [Value.slice none 0 0] [(0, 1, Operand.tmp 161)], guard := some (158, true) },
  { dst := some 163, op := SOp.call 23 [Operand.tmp 160, Operand.tmp 162], guard := some (158, true) },
  { dst := some 164, op := SOp.pick (Operand.tmp 158) (Operand.tmp 163) (Operand.const (Value.bool false)), guard := none },
  { dst := some 165, op := SOp.mv (Operand.tmp 164), guard := none },
  { dst := some 166, op := SOp.off 0 (Operand.tmp 11), guard := some (165, true) },
  { dst := some 167, op := SOp.load1 (Operand.tmp 166), guard := some (165, true) },
  { dst := some 168, op := SOp.mks 1 1 [Value.int (IntKind.i64) 0] [(0, 1, Operand.const (Value.int (IntKind.i64) 0))], guard := some (165, true) },
  { dst := some 169, op := SOp.mks 2 1 [Value.int (IntKind.i64) 0, Value.int (IntKind.i64) 0] [(0, 1, Operand.const (Value.int (IntKind.i64) 1)), (1, 1, Operand.const (Value.int (IntKind.i64) 2))], guard := some (165, true) },
  { dst := some 170, op := SOp.mks 1 1 [Value.int (IntKind.i64) 0] [(0, 1, Operand.const (Value.int (IntKind.i64) 3))], guard := some (165, true) },
  { dst := some 171, op := SOp.mks 3 1 [Value.slice none 0 0, Value.slice none 0 0, Value.slice none 0 0] [(0, 1, Operand.tmp 168), (1, 1, Operand.tmp 169), (2, 1, Operand.tmp 170)], guard := some (165, true) },
  { dst := some 172, op := SOp.call 23 [Operand.tmp 167, Operand.tmp 171], guard := some (165, true) },
  { dst := some 173, op := SOp.pick (Operand.tmp 165) (Operand.tmp 172) (Operand.const (Value.bool false)), guard := none },
  { dst := some 174, op := SOp.mv (Operand.tmp 173), guard := none },
  { dst := some 175, op := SOp.mv (Operand.tmp 13), guard := some (174, true) },
  { dst := some 176, op := SOp.ib (BinOp.eql) (Operand.tmp 175) (Operand.const (Value.int (IntKind.i64) 1)), guard := some (174, true) },
  { dst := some 177, op := SOp.pick (Operand.tmp 174) (Operand.tmp 176) (Operand.const (Value.bool false)), guard := none },
  { dst := some 178, op := SOp.mv (Operand.tmp 177), guard := none },
  { dst := some 179, op := SOp.mv (Operand.tmp 14), guard := some (178, true) },
  { dst := some 180, op := SOp.ib (BinOp.eql) (Operand.tmp 179) (Operand.const (Value.int (IntKind.i64) 3)), guard := some (178, true) },
  { dst := some 181, op := SOp.pick (Operand.tmp 178) (Operand.tmp 180) (Operand.const (Value.bool false)), guard := none },
  { dst := some 182, op := SOp.mv (Operand.tmp 181), guard := none },
  { dst := some 183, op := SOp.mv (Operand.tmp 15), guard := some (182, true) },
  { dst := some 184, op := SOp.mks 2 1 [Value.int (IntKind.i64) 0, Value.int (IntKind.i64) 0] [(0, 1, Operand.const (Value.int (IntKind.i64) 0)), (1, 1, Operand.const (Value.int (IntKind.i64) 1))], guard := some (182, true) },
  { dst := some 185, op := SOp.call 39 [Operand.tmp 184], guard := some (182, true) },
  { dst := some 186, op := SOp.call 30 [Operand.tmp 183, Operand.tmp 185], guard := some (182, true) },
  { dst := some 187, op := SOp.pick (Operand.tmp 182) (Operand.tmp 186) (Operand.const (Value.bool false)), guard := none },
  { dst := some 188, op := SOp.mv (Operand.tmp 187), guard := none },
  { dst := some 189, op := SOp.mv (Operand.tmp 16), guard := some (188, true) },
  { dst := some 190, op := SOp.mks 3 1 [Value.int (IntKind.i64) 0, Value.int (IntKind.i64) 0, Value.int (IntKind.i64) 0] [(0, 1, Operand.const (Value.int (IntKind.i64) 0)), (1, 1, Operand.const (Value.int (IntKind.i64) 1)), (2, 1, Operand.const (Value.int (IntKind.i64) 2))], guard := some (188, true) },
  { dst := some 191, op := SOp.call 39 [Operand.tmp 190], guard := some (188, true) },
  { dst := some 192, op := SOp.call 30 [Operand.tmp 189, Operand.tmp 191], guard := some (188, true) },
  { dst := some 193, op := SOp.pick (Operand.tmp 188) (Operand.tmp 192) (Operand.const (Value.bool false)), guard := none },
  { dst := some 194, op := SOp.mv (Operand.tmp 193), guard := none },
  { dst := some 195, op := SOp.mv (Operand.tmp 17), guard := some (194, true) },
  { dst := some 196, op := SOp.nt (Operand.tmp 195), guard := some (194, true) },
  { dst := some 197, op := SOp.pick (Operand.tmp 194) (Operand.tmp 196) (Operand.const (Value.bool false)), guard := none },
  { dst := some 0, op := SOp.mv (Operand.tmp 197), guard := none }]
def c16 : SCode := (.seq (.reg c16_r0 []) (.seq (.reg c16_r1 [1, 2]) (.seq (.reg c16_r2 [1, 2, 3, 4]) (.seq (.reg c16_r3 [1, 2, 3, 4, 5, 6]) (.seq (.reg c16_r4 [1, 2, 3, 4, 5, 6, 7, 8]) (.seq (.reg c16_r5 [1, 2, 3, 4, 5, 6, 7, 8, 9, 10]) (.seq (.reg c16_r6 [1, 2, 3, 4, 5, 6, 7, 8, 9, 10, 11, 12]) (.seq (.seq (.reg c16_r7 [1, 3, 5, 7, 9, 11, 71]) (.cond (Operand.tmp 71) (.seq (.reg c16_r8 [0]) .ret) .skip)) (.seq (.reg c16_r9 [1, 2, 3, 5, 7, 9, 11, 13]) (.seq (.reg c16_r10 [1, 2, 3, 4, 5, 7, 9, 11, 13, 14]) (.seq (.reg c16_r11 [1, 2, 3, 4, 5, 6, 7, 9, 11, 13, 14, 15]) (.seq (.reg c16_r12 [1, 2, 3, 4, 5, 6, 7, 8, 9, 11, 13, 14, 15, 16]) (.seq (.reg c16_r13 [1, 2, 3, 4, 5, 6, 7, 8, 9, 10, 11, 13, 14, 15, 16, 17]) (.seq (.reg c16_r14 [1, 2, 3, 4, 5, 6, 7, 8, 9, 10, 11, 12, 13, 14, 15, 16, 17]) (.seq (.reg c16_r15 [1, 2, 3, 4, 5, 6, 7, 8, 9, 10, 11, 12, 13, 14, 15, 16, 17, 19]) (.seq (.reg c16_r16 [0]) .ret))))))))))))))))
theorem F16 : Fn Tryd.prog 16 c16 [SRes.tmp 0] 198 := ⟨Tryd.f16, Tryd.f16.body.getD .skip, [[], [1, 2], [1, 2, 3, 4], [1, 2, 3, 4, 5, 6], [1, 2, 3, 4, 5, 6, 7, 8], [1, 2, 3, 4, 5, 6, 7, 8, 9, 10], [1, 2, 3, 4, 5, 6, 7, 8, 9, 10, 11, 12], [1, 3, 5, 7, 9, 11, 71], [0], [1, 2, 3, 5, 7, 9, 11, 13], [1, 2, 3, 4, 5, 7, 9, 11, 13, 14], [1, 2, 3, 4, 5, 6, 7, 9, 11, 13, 14, 15], [1, 2, 3, 4, 5, 6, 7, 8, 9, 11, 13, 14, 15, 16], [1, 2, 3, 4, 5, 6, 7, 8, 9, 10, 11, 13, 14, 15, 16, 17], [1, 2, 3, 4, 5, 6, 7, 8, 9, 10, 11, 12, 13, 14, 15, 16, 17], [1, 2, 3, 4, 5, 6, 7, 8, 9, 10, 11, 12, 13, 14, 15, 16, 17, 19], [0]], Tryd.func16, by kernel_rfl, by kernel_rfl, by kernel_rfl, by kernel_rfl, by decide⟩

def c17_r0 : List SIns := [
  { dst := some 1, op := SOp.box (Operand.tmp 0), guard := none },
  { dst := some 2, op := SOp.alloc [Value.slice none 0 0], guard := none },
  { dst := some 3, op := SOp.mv (Operand.const (Value.int (IntKind.i64) 0)), guard := none }]
def c17_r1 : List SIns := [
  { dst := some 7, op := SOp.loadN 1 (Operand.tmp 1), guard := none },
  { dst := some 8, op := SOp.call 33 [Operand.tmp 7], guard := none },
  { dst := some 6, op := SOp.mv (Operand.tmp 8), guard := none },
  { dst := some 9, op := SOp.ext (Operand.tmp 6) 0, guard := none },
  { dst := some 10, op := SOp.ext (Operand.tmp 6) 1, guard := none },
  { dst := some 4, op := SOp.mv (Operand.tmp 9), guard := none },
  { dst := some 5, op := SOp.mv (Operand.tmp 10), guard := none }]
def c17_r2 : List SIns := [
  { dst := some 11, op := SOp.mv (Operand.tmp 4), guard := none },
  { dst := some 12, op := SOp.build [Value.slice none 0 0] [(0, 1, Operand.tmp 11)], guard := none },
  { dst := some 13, op := SOp.mv (Operand.tmp 5), guard := none },
  { dst := none, op := SOp.store 1 (Operand.tmp 2) (Operand.tmp 12), guard := none },
  { dst := some 3, op := SOp.mv (Operand.tmp 13), guard := none }]
def c17 : SCode := (.seq (.reg c17_r0 [1, 2]) (.seq (.reg c17_r1 [2, 4, 5]) (.seq (.reg c17_r2 [2, 3]) .ret)))
theorem F17 : Fn Tryd.prog 17 c17 [SRes.cell 2 (some 1), SRes.tmp 3] 14 := ⟨Tryd.f17, Tryd.f17.body.getD .skip, [[1, 2], [2, 4, 5], [2, 3]], Tryd.func17, by kernel_rfl, by kernel_rfl, by kernel_rfl, by kernel_rfl, by decide⟩

def c19_r0 : List SIns := [
  { dst := some 1, op := SOp.box (Operand.tmp 0), guard := none },
  { dst := some 2, op := SOp.alloc [Value.slice none 0 0], guard := none },
  { dst := some 3, op := SOp.mv (Operand.const (Value.int (IntKind.i64) 0)), guard := none }]
def c19_r1 : List SIns := [
  { dst := some 9, op := SOp.loadN 1 (Operand.tmp 1), guard := none },
  { dst := some 10, op := SOp.call 67 [Operand.tmp 9], guard := none },
  { dst := some 8, op := SOp.mv (Operand.tmp 10), guard := none },
  { dst := some 11, op := SOp.ext (Operand.tmp 8) 0, guard := none },
  { dst := some 12, op := SOp.ext (Operand.tmp 8) 1, guard := none },
  { dst := some 4, op := SOp.alloc [Value.int (IntKind.i64) 0, Value.int (IntKind.i64) 0, Value.int (IntKind.i64) 0, Value.int (IntKind.i64) 0, Value.int (IntKind.i64) 0, Value.int (IntKind.i64) 0, Value.int (IntKind.i64) 0, Value.int (IntKind.i64) 0, Value.int (IntKind.i64) 0, Value.int (IntKind.i64) 0, Value.int (IntKind.i64) 0, Value.int (IntKind.i64) 0, Value.int (IntKind.i64) 0, Value.int (IntKind.i64) 0, Value.int (IntKind.i64) 0, Value.int (IntKind.i64) 0, Value.int (IntKind.i64) 0, Value.int (IntKind.i64) 0, Value.int (IntKind.i64) 0, Value.int (IntKind.i64) 0, Value.int (IntKind.i64) 0, Value.int (IntKind.i64) 0, Value.int (IntKind.i64) 0, Value.int (IntKind.i64) 0, Value.int (IntKind.i64) 0, Value.int (IntKind.i64) 0, Value.int (IntKind.i64) 0, Value.int (IntKind.i64) 0, Value.int (IntKind.i64) 0, Value.int (IntKind.i64) 0, Value.int (IntKind.i64) 0, Value.int (IntKind.i64) 0, Value.int (IntKind.i64) 0, Value.int (IntKind.i64) 0], guard := none },
  { dst := none, op := SOp.store 34 (Operand.tmp 4) (Operand.tmp 11), guard := none },
  { dst := some 5, op := SOp.mv (Operand.tmp 12), guard := none }]
def c19_r2 : List SIns := [
  { dst := some 13, op := SOp.mv (Operand.tmp 5), guard := none },
  { dst := some 14, op := SOp.ib (BinOp.neq) (Operand.tmp 13) (Operand.const (Value.int (IntKind.i64) 0)), guard := none }]
def c19_r3 : List SIns := [
  { dst := some 15, op := SOp.build [Value.slice none 0 0] [], guard := none },
  { dst := some 16, op := SOp.mv (Operand.tmp 5), guard := none },
  { dst := none, op := SOp.store 1 (Operand.tmp 2) (Operand.tmp 15), guard := none },
  { dst := some 3, op := SOp.mv (Operand.tmp 16), guard := none }]
def c19_r4 : List SIns := [
  { dst := some 6, op := SOp.alloc [Value.int (IntKind.i64) 0, Value.int (IntKind.i64) 0, Value.int (IntKind.i64) 0, Value.int (IntKind.i64) 0, Value.int (IntKind.i64) 0, Value.int (IntKind.i64) 0, Value.int (IntKind.i64) 0, Value.int (IntKind.i64) 0, Value.int (IntKind.i64) 0, Value.int (IntKind.i64) 0, Value.int (IntKind.i64) 0, Value.int (IntKind.i64) 0, Value.int (IntKind.i64) 0, Value.int (IntKind.i64) 0, Value.int (IntKind.i64) 0, Value.int (IntKind.i64) 0], guard := none }]
def c19_r5 : List SIns := [
  { dst := some 17, op := SOp.off 0 (Operand.tmp 4), guard := none },
  { dst := some 18, op := SOp.load1 (Operand.tmp 17), guard := none },
  { dst := some 19, op := SOp.mv (Operand.const (Value.int (IntKind.i64) 0)), guard := none }]
def c19_r6 : List SIns := [
  { dst := some 20, op := SOp.ib (BinOp.lss) (Operand.tmp 19) (Operand.tmp 18), guard := none }]
def c19_r7 : List SIns := [
  { dst := some 21, op := SOp.mv (Operand.tmp 19), guard := none },
  { dst := some 7, op := SOp.mv (Operand.tmp 21), guard := none }]
def c19_r8 : List SIns := [
  { dst := some 22, op := SOp.mv (Operand.tmp 7), guard := none },
  { dst := some 23, op := SOp.off 1 (Operand.tmp 4), guard := none },
  { dst := some 24, op := SOp.idxA 16 1 (Operand.tmp 23) (Operand.tmp 22), guard := none },
  { dst := some 25, op := SOp.load1 (Operand.tmp 24), guard := none },
  { dst := some 26, op := SOp.mv (Operand.tmp 7), guard := none },
  { dst := some 27, op := SOp.idxA 16 1 (Operand.tmp 6) (Operand.tmp 25), guard := none },
  { dst := none, op := SOp.store 1 (Operand.tmp 27) (Operand.tmp 26), guard := none }]
def c19_r9 : List SIns := [
  { dst := some 28, op := SOp.ib (BinOp.add) (Operand.tmp 19) (Operand.const (Value.int (IntKind.i64) 1)), guard := none },
  { dst := some 19, op := SOp.mv (Operand.tmp 28), guard := none }]
def c19_l0 : SCode := (.seq (.reg c19_r6 [2, 4, 6, 18, 19, 20]) (.seq (.cond (Operand.tmp 20) .skip (.exit 0)) (.seq (.block 1 (.seq (.reg c19_r7 [2, 4, 6, 7, 18, 19]) (.reg c19_r8 [2, 4, 6, 18, 19]))) (.reg c19_r9 [2, 4, 6, 18, 19]))))
def c19_r10 : List SIns := [
  { dst := some 29, op := SOp.loadN 34 (Operand.tmp 4), guard := none },
  { dst := some 30, op := SOp.mkfn (Fn.func 69) [] [Operand.tmp 6], guard := none },
  { dst := some 31, op := SOp.call 68 [Operand.tmp 29, Operand.tmp 30], guard := none },
  { dst := some 32, op := SOp.build [Value.slice none 0 0] [(0, 1, Operand.tmp 31)], guard := none },
  { dst := none, op := SOp.store 1 (Operand.tmp 2) (Operand.tmp 32), guard := none },
  { dst := some 3, op := SOp.mv (Operand.const (Value.int (IntKind.i64) 0)), guard := none }]
def c19 : SCode := (.seq (.reg c19_r0 [1, 2]) (.seq (.reg c19_r1 [2, 4, 5]) (.seq (.seq (.reg c19_r2 [2, 4, 5, 14]) (.cond (Operand.tmp 14) (.seq (.reg c19_r3 [2, 3]) .ret) .skip)) (.seq (.reg c19_r4 [2, 4, 6]) (.seq (.seq (.reg c19_r5 [2, 4, 6, 18, 19]) (.block 0 (.loop c19_l0))) (.seq (.reg c19_r10 [2, 3]) .ret))))))
theorem F19 : Fn Tryd.prog 19 c19 [SRes.cell 2 (some 1), SRes.tmp 3] 33 := ⟨Tryd.f19, Tryd.f19.body.getD .skip, [[1, 2], [2, 4, 5], [2, 4, 5, 14], [2, 3], [2, 4, 6], [2, 4, 6, 18, 19], [2, 4, 6, 18, 19, 20], [2, 4, 6, 7, 18, 19], [2, 4, 6, 18, 19], [2, 4, 6, 18, 19], [2, 3]], Tryd.func19, by kernel_rfl, by kernel_rfl, by kernel_rfl, by kernel_rfl, by decide⟩

def c21_r0 : List SIns := [
  { dst := some 2, op := SOp.box (Operand.tmp 0), guard := none },
  { dst := some 4, op := SOp.alloc [Value.slice none 0 0], guard := none },
  { dst := some 5, op := SOp.mv (Operand.const (Value.int (IntKind.i64) 0)), guard := none }]
def c21_r1 : List SIns := [
  { dst := some 16, op := SOp.loadN 1 (Operand.tmp 2), guard := none },
  { dst := some 17, op := SOp.call 67 [Operand.tmp 16], guard := none },
  { dst := some 15, op := SOp.mv (Operand.tmp 17), guard := none },
  { dst := some 18, op := SOp.ext (Operand.tmp 15) 0, guard := none },
  { dst := some 19, op := SOp.ext (Operand.tmp 15) 1, guard := none },
  { dst := some 6, op := SOp.alloc [Value.int (IntKind.i64) 0, Value.int (IntKind.i64) 0, Value.int (IntKind.i64) 0, Value.int (IntKind.i64) 0, Value.int (IntKind.i64) 0, Value.int (IntKind.i64) 0, Value.int (IntKind.i64) 0, Value.int (IntKind.i64) 0, Value.int (IntKind.i64) 0, Value.int (IntKind.i64) 0, Value.int (IntKind.i64) 0, Value.int (IntKind.i64) 0, Value.int (IntKind.i64) 0, Value.int (IntKind.i64) 0, Value.int (IntKind.i64) 0, Value.int (IntKind.i64) 0, Value.int (IntKind.i64) 0, Value.int (IntKind.i64) 0, Value.int (IntKind.i64) 0, Value.int (IntKind.i64) 0, Value.int (IntKind.i64) 0, Value.int (IntKind.i64) 0, Value.int (IntKind.i64) 0, Value.int (IntKind.i64) 0, Value.int (IntKind.i64) 0, Value.int (IntKind.i64) 0, Value.int (IntKind.i64) 0, Value.int (IntKind.i64) 0, Value.int (IntKind.i64) 0, Value.int (IntKind.i64) 0, Value.int (IntKind.i64) 0, Value.int (IntKind.i64) 0, Value.int (IntKind.i64) 0, Value.int (IntKind.i64) 0], guard := none },
  { dst := none, op := SOp.store 34 (Operand.tmp 6) (Operand.tmp 18), guard := none },
  { dst := some 7, op := SOp.mv (Operand.tmp 19), guard := none }]
def c21_r2 : List SIns := [
  { dst := some 21, op := SOp.mv (Operand.tmp 7), guard := none },
  { dst := some 22, op := SOp.ib (BinOp.neq) (Operand.tmp 21) (Operand.const (Value.int (IntKind.i64) 0)), guard := none },
  { dst := some 20, op := SOp.mv (Operand.tmp 22), guard := none }]
def c21_r3 : List SIns := [
  { dst := some 23, op := SOp.build [Value.slice none 0 0] [], guard := none },
  { dst := some 24, op := SOp.mv (Operand.tmp 7), guard := none },
  { dst := none, op := SOp.store 1 (Operand.tmp 4) (Operand.tmp 23), guard := none },
  { dst := some 5, op := SOp.mv (Operand.tmp 24), guard := none }]
def c21_r4 : List SIns := [
  { dst := some 26, op := SOp.mv (Operand.tmp 1), guard := none },
  { dst := some 27, op := SOp.ib (BinOp.lss) (Operand.tmp 26) (Operand.const (Value.int (IntKind.i64) 0)), guard := none },
  { dst := some 28, op := SOp.mv (Operand.tmp 27), guard := none },
  { dst := some 29, op := SOp.mv (Operand.tmp 1), guard := some (28, false) },
  { dst := some 30, op := SOp.off 0 (Operand.tmp 6), guard := some (28, false) },
  { dst := some 31, op := SOp.load1 (Operand.tmp 30), guard := some (28, false) },
  { dst := some 32, op := SOp.ib (BinOp.quo) (Operand.tmp 31) (Operand.const (Value.int (IntKind.i64) 2)), guard := some (28, false) },
  { dst := some 33, op := SOp.ib (BinOp.geq) (Operand.tmp 29) (Operand.tmp 32), guard := some (28, false) },
  { dst := some 34, op := SOp.pick (Operand.tmp 28) (Operand.const (Value.bool true)) (Operand.tmp 33), guard := none },
  { dst := some 25, op := SOp.mv (Operand.tmp 34), guard := none }]
def c21_r5 : List SIns := [
  { dst := some 35, op := SOp.build [Value.slice none 0 0] [], guard := none },
  { dst := none, op := SOp.store 1 (Operand.tmp 4) (Operand.tmp 35), guard := none },
  { dst := some 5, op := SOp.mv (Operand.const (Value.int (IntKind.i64) 2)), guard := none }]
def c21_r6 : List SIns := [
  { dst := some 8, op := SOp.mv (Operand.const (Value.slice none 0 0)), guard := none }]
def c21_r7 : List SIns := [
  { dst := some 36, op := SOp.off 0 (Operand.tmp 2), guard := none },
  { dst := some 37, op := SOp.load1 (Operand.tmp 36), guard := none },
  { dst := some 38, op := SOp.lenSl (Operand.tmp 37), guard := none },
  { dst := some 39, op := SOp.mv (Operand.const (Value.int (IntKind.i64) 0)), guard := none }]
def c21_r8 : List SIns := [
  { dst := some 40, op := SOp.ib (BinOp.lss) (Operand.tmp 39) (Operand.tmp 38), guard := none }]
def c21_r9 : List SIns := [
  { dst := some 41, op := SOp.idx 1 (Operand.tmp 37) (Operand.tmp 39), guard := none },
  { dst := some 42, op := SOp.load1 (Operand.tmp 41), guard := none },
  { dst := some 10, op := SOp.mv (Operand.tmp 42), guard := none }]
def c21_r10 : List SIns := [
  { dst := some 11, op := SOp.mv (Operand.const (Value.slice none 0 0)), guard := none }]
def c21_r11 : List SIns := [
  { dst := some 43, op := SOp.mv (Operand.tmp 10), guard := none },
  { dst := some 44, op := SOp.lenSl (Operand.tmp 43), guard := none },
  { dst := some 45, op := SOp.mv (Operand.const (Value.int (IntKind.i64) 0)), guard := none }]
def c21_r12 : List SIns := [
  { dst := some 46, op := SOp.ib (BinOp.lss) (Operand.tmp 45) (Operand.tmp 44), guard := none }]
def c21_r13 : List SIns := [
  { dst := some 47, op := SOp.idx 1 (Operand.tmp 43) (Operand.tmp 45), guard := none },
  { dst := some 48, op := SOp.load1 (Operand.tmp 47), guard := none },
  { dst := some 13, op := SOp.mv (Operand.tmp 48), guard := none }]
def c21_r14 : List SIns := [
  { dst := some 50, op := SOp.mv (Operand.tmp 13), guard := none },
  { dst := some 51, op := SOp.mv (Operand.tmp 1), guard := none },
  { dst := some 52, op := SOp.ib (BinOp.mul) (Operand.const (Value.int (IntKind.i64) 2)) (Operand.tmp 51), guard := none },
  { dst := some 53, op := SOp.ib (BinOp.lss) (Operand.tmp 50) (Operand.tmp 52), guard := none },
  { dst := some 49, op := SOp.mv (Operand.tmp 53), guard := none }]
def c21_r15 : List SIns := [
  { dst := some 54, op := SOp.mv (Operand.tmp 11), guard := none },
  { dst := some 55, op := SOp.mv (Operand.tmp 13), guard := none },
  { dst := some 56, op := SOp.mks 1 1 [Value.int (IntKind.i64) 0] [(0, 1, Operand.tmp 55)], guard := none },
  { dst := some 57, op := SOp.app 1 8 (Operand.tmp 54) (Operand.tmp 56), guard := none },
  { dst := some 11, op := SOp.mv (Operand.tmp 57), guard := none }]
def c21_r16 : List SIns := [
  { dst := some 59, op := SOp.mv (Operand.tmp 13), guard := none },
  { dst := some 60, op := SOp.mv (Operand.tmp 1), guard := none },
  { dst := some 61, op := SOp.ib (BinOp.mul) (Operand.const (Value.int (IntKind.i64) 2)) (Operand.tmp 60), guard := none },
  { dst := some 62, op := SOp.ib (BinOp.add) (Operand.tmp 61) (Operand.const (Value.int (IntKind.i64) 1)), guard := none },
  { dst := some 63, op := SOp.ib (BinOp.gtr) (Operand.tmp 59) (Operand.tmp 62), guard := none },
  { dst := some 58, op := SOp.mv (Operand.tmp 63), guard := none }]
def c21_r17 : List SIns := [
  { dst := some 64, op := SOp.mv (Operand.tmp 11), guard := none },
  { dst := some 65, op := SOp.mv (Operand.tmp 13), guard := none },
  { dst := some 66, op := SOp.ib (BinOp.sub) (Operand.tmp 65) (Operand.const (Value.int (IntKind.i64) 2)), guard := none },
  { dst := some 67, op := SOp.mks 1 1 [Value.int (IntKind.i64) 0] [(0, 1, Operand.tmp 66)], guard := none },
  { dst := some 68, op := SOp.app 1 8 (Operand.tmp 64) (Operand.tmp 67), guard := none },
  { dst := some 11, op := SOp.mv (Operand.tmp 68), guard := none }]
def c21_r18 : List SIns := [
  { dst := some 69, op := SOp.ib (BinOp.add) (Operand.tmp 45) (Operand.const (Value.int (IntKind.i64) 1)), guard := none },
  { dst := some 45, op := SOp.mv (Operand.tmp 69), guard := none }]
def c21_l0 : SCode := (.seq (.reg c21_r12 [1, 4, 8, 11, 37, 38, 39, 43, 44, 45, 46]) (.seq (.cond (Operand.tmp 46) .skip (.exit 3)) (.seq (.block 4 (.seq (.reg c21_r13 [1, 4, 8, 11, 13, 37, 38, 39, 43, 44, 45]) (.block 5 (.seq (.reg c21_r14 [1, 4, 8, 11, 13, 37, 38, 39, 43, 44, 45, 49]) (.cond (Operand.tmp 49) (.reg c21_r15 [1, 4, 8, 11, 37, 38, 39, 43, 44, 45]) (.seq (.reg c21_r16 [1, 4, 8, 11, 13, 37, 38, 39, 43, 44, 45, 58]) (.cond (Operand.tmp 58) (.reg c21_r17 [1, 4, 8, 11, 37, 38, 39, 43, 44, 45]) .skip))))))) (.reg c21_r18 [1, 4, 8, 11, 37, 38, 39, 43, 44, 45]))))
def c21_r19 : List SIns := [
  { dst := some 70, op := SOp.mv (Operand.tmp 8), guard := none },
  { dst := some 71, op := SOp.mv (Operand.tmp 11), guard := none },
  { dst := some 72, op := SOp.mks 1 1 [Value.slice none 0 0] [(0, 1, Operand.tmp 71)], guard := none },
  { dst := some 73, op := SOp.app 1 24 (Operand.tmp 70) (Operand.tmp 72), guard := none },
  { dst := some 8, op := SOp.mv (Operand.tmp 73), guard := none }]
def c21_r20 : List SIns := [
  { dst := some 74, op := SOp.ib (BinOp.add) (Operand.tmp 39) (Operand.const (Value.int (IntKind.i64) 1)), guard := none },
  { dst := some 39, op := SOp.mv (Operand.tmp 74), guard := none }]
def c21_l1 : SCode := (.seq (.reg c21_r8 [1, 4, 8, 37, 38, 39, 40]) (.seq (.cond (Operand.tmp 40) .skip (.exit 1)) (.seq (.block 2 (.seq (.reg c21_r9 [1, 4, 8, 10, 37, 38, 39]) (.seq (.reg c21_r10 [1, 4, 8, 10, 11, 37, 38, 39]) (.seq (.seq (.reg c21_r11 [1, 4, 8, 11, 37, 38, 39, 43, 44, 45]) (.block 3 (.loop c21_l0))) (.reg c21_r19 [1, 4, 8, 37, 38, 39]))))) (.reg c21_r20 [1, 4, 8, 37, 38, 39]))))
def c21_r21 : List SIns := [
  { dst := some 75, op := SOp.mv (Operand.tmp 8), guard := none },
  { dst := some 76, op := SOp.call 70 [Operand.tmp 75], guard := none },
  { dst := some 14, op := SOp.alloc [Value.int (IntKind.i64) 0, Value.int (IntKind.i64) 0, Value.int (IntKind.i64) 0, Value.int (IntKind.i64) 0, Value.int (IntKind.i64) 0, Value.int (IntKind.i64) 0, Value.int (IntKind.i64) 0, Value.int (IntKind.i64) 0, Value.int (IntKind.i64) 0, Value.int (IntKind.i64) 0, Value.int (IntKind.i64) 0, Value.int (IntKind.i64) 0, Value.int (IntKind.i64) 0, Value.int (IntKind.i64) 0, Value.int (IntKind.i64) 0, Value.int (IntKind.i64) 0, Value.int (IntKind.i64) 0, Value.int (IntKind.i64) 0, Value.int (IntKind.i64) 0, Value.int (IntKind.i64) 0, Value.int (IntKind.i64) 0, Value.int (IntKind.i64) 0, Value.int (IntKind.i64) 0, Value.int (IntKind.i64) 0, Value.int (IntKind.i64) 0, Value.int (IntKind.i64) 0, Value.int (IntKind.i64) 0, Value.int (IntKind.i64) 0, Value.int (IntKind.i64) 0, Value.int (IntKind.i64) 0, Value.int (IntKind.i64) 0, Value.int (IntKind.i64) 0, Value.int (IntKind.i64) 0, Value.int (IntKind.i64) 0], guard := none },
  { dst := none, op := SOp.store 34 (Operand.tmp 14) (Operand.tmp 76), guard := none }]
def c21_r22 : List SIns := [
  { dst := some 77, op := SOp.loadN 34 (Operand.tmp 14), guard := none },
  { dst := some 78, op := SOp.loadN 34 (Operand.tmp 14), guard := none },
  { dst := some 79, op := SOp.mkfn (Fn.func 71) [Operand.tmp 78] [], guard := none },
  { dst := some 80, op := SOp.call 68 [Operand.tmp 77, Operand.tmp 79], guard := none },
  { dst := some 81, op := SOp.build [Value.slice none 0 0] [(0, 1, Operand.tmp 80)], guard := none },
  { dst := none, op := SOp.store 1 (Operand.tmp 4) (Operand.tmp 81), guard := none },
  { dst := some 5, op := SOp.mv (Operand.const (Value.int (IntKind.i64) 0)), guard := none }]
def c21 : SCode := (.seq (.reg c21_r0 [1, 2, 4]) (.seq (.reg c21_r1 [1, 2, 4, 6, 7]) (.seq (.block 0 (.seq (.reg c21_r2 [1, 2, 4, 6, 7, 20]) (.cond (Operand.tmp 20) (.seq (.reg c21_r3 [4, 5]) .ret) (.seq (.reg c21_r4 [1, 2, 4, 25]) (.cond (Operand.tmp 25) (.seq (.reg c21_r5 [4, 5]) .ret) .skip))))) (.seq (.reg c21_r6 [1, 2, 4, 8]) (.seq (.seq (.reg c21_r7 [1, 4, 8, 37, 38, 39]) (.block 1 (.loop c21_l1))) (.seq (.reg c21_r21 [4, 14]) (.seq (.reg c21_r22 [4, 5]) .ret)))))))
theorem F21 : Fn Tryd.prog 21 c21 [SRes.cell 4 (some 1), SRes.tmp 5] 82 := ⟨Tryd.f21, Tryd.f21.body.getD .skip, [[1, 2, 4], [1, 2, 4, 6, 7], [1, 2, 4, 6, 7, 20], [4, 5], [1, 2, 4, 25], [4, 5], [1, 2, 4, 8], [1, 4, 8, 37, 38, 39], [1, 4, 8, 37, 38, 39, 40], [1, 4, 8, 10, 37, 38, 39], [1, 4, 8, 10, 11, 37, 38, 39], [1, 4, 8, 11, 37, 38, 39, 43, 44, 45], [1, 4, 8, 11, 37, 38, 39, 43, 44, 45, 46], [1, 4, 8, 11, 13, 37, 38, 39, 43, 44, 45], [1, 4, 8, 11, 13, 37, 38, 39, 43, 44, 45, 49], [1, 4, 8, 11, 37, 38, 39, 43, 44, 45], [1, 4, 8, 11, 13, 37, 38, 39, 43, 44, 45, 58], [1, 4, 8, 11, 37, 38, 39, 43, 44, 45], [1, 4, 8, 11, 37, 38, 39, 43, 44, 45], [1, 4, 8, 37, 38, 39], [1, 4, 8, 37, 38, 39], [4, 14], [4, 5]], Tryd.func21, by kernel_rfl, by kernel_rfl, by kernel_rfl, by kernel_rfl, by decide⟩

def c23_r0 : List SIns := [
  { dst := some 4, op := SOp.mv (Operand.const (Value.bool false)), guard := none }]
def c23_r1 : List SIns := [
  { dst := some 6, op := SOp.mv (Operand.tmp 0), guard := none },
  { dst := some 7, op := SOp.lenSl (Operand.tmp 6), guard := none },
  { dst := some 8, op := SOp.mv (Operand.tmp 1), guard := none },
  { dst := some 9, op := SOp.lenSl (Operand.tmp 8), guard := none },
  { dst := some 10, op := SOp.ib (BinOp.neq) (Operand.tmp 7) (Operand.tmp 9), guard := none }]
def c23_r2 : List SIns := [
  { dst := some 4, op := SOp.mv (Operand.const (Value.bool false)), guard := none }]
def c23_r3 : List SIns := [
  { dst := some 5, op := SOp.mv (Operand.const (Value.int (IntKind.i64) 0)), guard := none }]
def c23_r4 : List SIns := [
  { dst := some 11, op := SOp.mv (Operand.tmp 5), guard := none },
  { dst := some 12, op := SOp.mv (Operand.tmp 0), guard := none },
  { dst := some 13, op := SOp.lenSl (Operand.tmp 12), guard := none },
  { dst := some 14, op := SOp.ib (BinOp.lss) (Operand.tmp 11) (Operand.tmp 13), guard := none }]
def c23_r5 : List SIns := [
  { dst := some 17, op := SOp.mv (Operand.tmp 0), guard := none },
  { dst := some 18, op := SOp.mv (Operand.tmp 5), guard := none },
  { dst := some 19, op := SOp.idx 1 (Operand.tmp 17) (Operand.tmp 18), guard := none },
  { dst := some 20, op := SOp.load1 (Operand.tmp 19), guard := none },
  { dst := some 21, op := SOp.mv (Operand.tmp 1), guard := none },
  { dst := some 22, op := SOp.mv (Operand.tmp 5), guard := none },
  { dst := some 23, op := SOp.idx 1 (Operand.tmp 21) (Operand.tmp 22), guard := none },
  { dst := some 24, op := SOp.load1 (Operand.tmp 23), guard := none },
  { dst := some 25, op := SOp.call 30 [Operand.tmp 20, Operand.tmp 24], guard := none },
  { dst := some 26, op := SOp.nt (Operand.tmp 25), guard := none }]
def c23_r6 : List SIns := [
  { dst := some 4, op := SOp.mv (Operand.const (Value.bool false)), guard := none }]
def c23_r7 : List SIns := [
  { dst := some 15, op := SOp.mv (Operand.tmp 5), guard := none },
  { dst := some 16, op := SOp.ib (BinOp.add) (Operand.tmp 15) (Operand.const (Value.int (IntKind.i64) 1)), guard := none },
  { dst := some 5, op := SOp.mv (Operand.tmp 16), guard := none }]
def c23_l0 : SCode := (.seq (.seq (.reg c23_r4 [0, 1, 5, 14]) (.cond (Operand.tmp 14) .skip (.exit 0))) (.seq (.block 1 (.seq (.draw c23_r5 [[], [], [0, 1], [2, 0, 1], [], [], [4, 5], [6, 4, 5], [3, 7, 2, 0, 1, 6, 4, 5], [8, 3, 7, 2, 0, 1, 6, 4, 5]] [0, 1, 5, 26]) (.cond (Operand.tmp 26) (.seq (.reg c23_r6 [4]) .ret) .skip))) (.reg c23_r7 [0, 1, 5])))
def c23_r8 : List SIns := [
  { dst := some 4, op := SOp.mv (Operand.const (Value.bool true)), guard := none }]
def c23 : SCode := (.seq (.reg c23_r0 [0, 1]) (.seq (.seq (.reg c23_r1 [0, 1, 10]) (.cond (Operand.tmp 10) (.seq (.reg c23_r2 [4]) .ret) .skip)) (.seq (.seq (.reg c23_r3 [0, 1, 5]) (.block 0 (.loop c23_l0))) (.seq (.reg c23_r8 [4]) .ret))))
theorem F23 : Fn Tryd.prog 23 c23 [SRes.tmp 4] 27 := ⟨Tryd.f23, Tryd.f23.body.getD .skip, [[0, 1], [0, 1, 10], [4], [0, 1, 5], [0, 1, 5, 14], [0, 1, 5, 26], [4], [0, 1, 5], [4]], Tryd.func23, by kernel_rfl, by kernel_rfl, by kernel_rfl, by kernel_rfl, by decide⟩

def c24_r0 : List SIns := [
  { dst := some 2, op := SOp.box (Operand.tmp 0), guard := none },
  { dst := some 4, op := SOp.mv (Operand.const (Value.bool false)), guard := none },
  { dst := some 5, op := SOp.mv (Operand.const (Value.int (IntKind.i64) 0)), guard := none }]
def c24_r1 : List SIns := [
  { dst := some 10, op := SOp.loadN 1 (Operand.tmp 2), guard := none },
  { dst := some 11, op := SOp.call 67 [Operand.tmp 10], guard := none },
  { dst := some 9, op := SOp.mv (Operand.tmp 11), guard := none },
  { dst := some 12, op := SOp.ext (Operand.tmp 9) 0, guard := none },
  { dst := some 13, op := SOp.ext (Operand.tmp 9) 1, guard := none },
  { dst := some 6, op := SOp.alloc [Value.int (IntKind.i64) 0, Value.int (IntKind.i64) 0, Value.int (IntKind.i64) 0, Value.int (IntKind.i64) 0, Value.int (IntKind.i64) 0, Value.int (IntKind.i64) 0, Value.int (IntKind.i64) 0, Value.int (IntKind.i64) 0, Value.int (IntKind.i64) 0, Value.int (IntKind.i64) 0, Value.int (IntKind.i64) 0, Value.int (IntKind.i64) 0, Value.int (IntKind.i64) 0, Value.int (IntKind.i64) 0, Value.int (IntKind.i64) 0, Value.int (IntKind.i64) 0, Value.int (IntKind.i64) 0, Value.int (IntKind.i64) 0, Value.int (IntKind.i64) 0, Value.int (IntKind.i64) 0, Value.int (IntKind.i64) 0, Value.int (IntKind.i64) 0, Value.int (IntKind.i64) 0, Value.int (IntKind.i64) 0, Value.int (IntKind.i64) 0, Value.int (IntKind.i64) 0, Value.int (IntKind.i64) 0, Value.int (IntKind.i64) 0, Value.int (IntKind.i64) 0, Value.int (IntKind.i64) 0, Value.int (IntKind.i64) 0, Value.int (IntKind.i64) 0, Value.int (IntKind.i64) 0, Value.int (IntKind.i64) 0], guard := none },
  { dst := none, op := SOp.store 34 (Operand.tmp 6) (Operand.tmp 12), guard := none },
  { dst := some 7, op := SOp.mv (Operand.tmp 13), guard := none }]
def c24_r2 : List SIns := [
  { dst := some 15, op := SOp.mv (Operand.tmp 7), guard := none },
  { dst := some 16, op := SOp.ib (BinOp.neq) (Operand.tmp 15) (Operand.const (Value.int (IntKind.i64) 0)), guard := none },
  { dst := some 14, op := SOp.mv (Operand.tmp 16), guard := none }]
def c24_r3 : List SIns := [
  { dst := some 17, op := SOp.mv (Operand.tmp 7), guard := none },
  { dst := some 4, op := SOp.mv (Operand.const (Value.bool false)), guard := none },
  { dst := some 5, op := SOp.mv (Operand.tmp 17), guard := none }]
def c24_r4 : List SIns := [
  { dst := some 19, op := SOp.mv (Operand.tmp 1), guard := none },
  { dst := some 20, op := SOp.lenSl (Operand.tmp 19), guard := none },
  { dst := some 21, op := SOp.off 33 (Operand.tmp 6), guard := none },
  { dst := some 22, op := SOp.load1 (Operand.tmp 21), guard := none },
  { dst := some 23, op := SOp.ib (BinOp.neq) (Operand.tmp 20) (Operand.tmp 22), guard := none },
  { dst := some 18, op := SOp.mv (Operand.tmp 23), guard := none }]
def c24_r5 : List SIns := [
  { dst := some 4, op := SOp.mv (Operand.const (Value.bool false)), guard := none },
  { dst := some 5, op := SOp.mv (Operand.const (Value.int (IntKind.i64) 5)), guard := none }]
def c24_r6 : List SIns := [
  { dst := some 25, op := SOp.mv (Operand.tmp 1), guard := none },
  { dst := some 26, op := SOp.call 73 [Operand.tmp 25, Operand.func 74], guard := none },
  { dst := some 24, op := SOp.mv (Operand.tmp 26), guard := none }]
def c24_r7 : List SIns := [
  { dst := some 4, op := SOp.mv (Operand.const (Value.bool false)), guard := none },
  { dst := some 5, op := SOp.mv (Operand.const (Value.int (IntKind.i64) 1)), guard := none }]
def c24_r8 : List SIns := [
  { dst := some 8, op := SOp.mv (Operand.const (Value.int (IntKind.i64) 0)), guard := none }]
def c24_r9 : List SIns := [
  { dst := some 27, op := SOp.mv (Operand.tmp 8), guard := none },
  { dst := some 28, op := SOp.off 0 (Operand.tmp 6), guard := none },
  { dst := some 29, op := SOp.load1 (Operand.tmp 28), guard := none },
  { dst := some 30, op := SOp.ib (BinOp.lss) (Operand.tmp 27) (Operand.tmp 29), guard := none }]
def c24_r10 : List SIns := [
  { dst := some 33, op := SOp.mv (Operand.tmp 1), guard := none },
  { dst := some 34, op := SOp.mv (Operand.tmp 8), guard := none },
  { dst := some 35, op := SOp.off 17 (Operand.tmp 6), guard := none },
  { dst := some 36, op := SOp.idxA 16 1 (Operand.tmp 35) (Operand.tmp 34), guard := none },
  { dst := some 37, op := SOp.load1 (Operand.tmp 36), guard := none },
  { dst := some 38, op := SOp.idx 1 (Operand.tmp 33) (Operand.tmp 37), guard := none },
  { dst := some 39, op := SOp.load1 (Operand.tmp 38), guard := none },
  { dst := some 40, op := SOp.mv (Operand.tmp 1), guard := none },
  { dst := some 41, op := SOp.mv (Operand.tmp 8), guard := none },
  { dst := some 42, op := SOp.ib (BinOp.add) (Operand.tmp 41) (Operand.const (Value.int (IntKind.i64) 1)), guard := none },
  { dst := some 43, op := SOp.off 17 (Operand.tmp 6), guard := none },
  { dst := some 44, op := SOp.idxA 16 1 (Operand.tmp 43) (Operand.tmp 42), guard := none },
  { dst := some 45, op := SOp.load1 (Operand.tmp 44), guard := none },
  { dst := some 46, op := SOp.idx 1 (Operand.tmp 40) (Operand.tmp 45), guard := none },
  { dst := some 47, op := SOp.load1 (Operand.tmp 46), guard := none },
  { dst := some 48, op := SOp.ib (BinOp.eql) (Operand.tmp 39) (Operand.tmp 47), guard := none }]
def c24_r11 : List SIns := [
  { dst := some 4, op := SOp.mv (Operand.const (Value.bool false)), guard := none },
  { dst := some 5, op := SOp.mv (Operand.const (Value.int (IntKind.i64) 0)), guard := none }]
def c24_r12 : List SIns := [
  { dst := some 31, op := SOp.mv (Operand.tmp 8), guard := none },
  { dst := some 32, op := SOp.ib (BinOp.add) (Operand.tmp 31) (Operand.const (Value.int (IntKind.i64) 2)), guard := none },
  { dst := some 8, op := SOp.mv (Operand.tmp 32), guard := none }]
def c24_l0 : SCode := (.seq (.seq (.reg c24_r9 [1, 6, 8, 30]) (.cond (Operand.tmp 30) .skip (.exit 1))) (.seq (.block 2 (.seq (.draw c24_r10 [[], [], [], [2, 1], [3, 2, 1], [0, 4, 3, 2, 1], [5, 0, 4, 3, 2, 1], [], [], [8], [], [10, 9, 8], [11, 10, 9, 8], [7, 12, 11, 10, 9, 8], [13, 7, 12, 11, 10, 9, 8], [6, 14, 5, 0, 4, 3, 2, 1, 13, 7, 12, 11, 10, 9, 8]] [1, 6, 8, 48]) (.cond (Operand.tmp 48) (.seq (.reg c24_r11 [4, 5]) .ret) .skip))) (.reg c24_r12 [1, 6, 8])))
def c24_r13 : List SIns := [
  { dst := some 4, op := SOp.mv (Operand.const (Value.bool true)), guard := none },
  { dst := some 5, op := SOp.mv (Operand.const (Value.int (IntKind.i64) 0)), guard := none }]
def c24 : SCode := (.seq (.reg c24_r0 [1, 2]) (.seq (.reg c24_r1 [1, 6, 7]) (.seq (.block 0 (.seq (.reg c24_r2 [1, 6, 7, 14]) (.cond (Operand.tmp 14) (.seq (.reg c24_r3 [4, 5]) .ret) (.seq (.reg c24_r4 [1, 6, 18]) (.cond (Operand.tmp 18) (.seq (.reg c24_r5 [4, 5]) .ret) (.seq (.reg c24_r6 [1, 6, 24]) (.cond (Operand.tmp 24) (.seq (.reg c24_r7 [4, 5]) .ret) .skip))))))) (.seq (.seq (.reg c24_r8 [1, 6, 8]) (.block 1 (.loop c24_l0))) (.seq (.reg c24_r13 [4, 5]) .ret)))))
theorem F24 : Fn Tryd.prog 24 c24 [SRes.tmp 4, SRes.tmp 5] 49 := ⟨Tryd.f24, Tryd.f24.body.getD .skip, [[1, 2], [1, 6, 7], [1, 6, 7, 14], [4, 5], [1, 6, 18], [4, 5], [1, 6, 24], [4, 5], [1, 6, 8], [1, 6, 8, 30], [1, 6, 8, 48], [4, 5], [1, 6, 8], [4, 5]], Tryd.func24, by kernel_rfl, by kernel_rfl, by kernel_rfl, by kernel_rfl, by decide⟩

def c26_r0 : List SIns := [
  { dst := some 1, op := SOp.box (Operand.tmp 0), guard := none },
  { dst := some 2, op := SOp.mv (Operand.const (Value.int (IntKind.i64) 0)), guard := none },
  { dst := some 3, op := SOp.mv (Operand.const (Value.int (IntKind.i64) 0)), guard := none }]
def c26_r1 : List SIns := [
  { dst := some 8, op := SOp.loadN 1 (Operand.tmp 1), guard := none },
  { dst := some 9, op := SOp.call 76 [Operand.tmp 8], guard := none },
  { dst := some 7, op := SOp.mv (Operand.tmp 9), guard := none },
  { dst := some 10, op := SOp.ext (Operand.tmp 7) 0, guard := none },
  { dst := some 11, op := SOp.ext (Operand.tmp 7) 1, guard := none },
  { dst := some 12, op := SOp.ext (Operand.tmp 7) 2, guard := none },
  { dst := some 4, op := SOp.mv (Operand.tmp 10), guard := none },
  { dst := some 5, op := SOp.mv (Operand.tmp 11), guard := none },
  { dst := some 6, op := SOp.mv (Operand.tmp 12), guard := none }]
def c26_r2 : List SIns := [
  { dst := some 13, op := SOp.mv (Operand.tmp 5), guard := none },
  { dst := some 14, op := SOp.mv (Operand.tmp 6), guard := none },
  { dst := some 2, op := SOp.mv (Operand.tmp 13), guard := none },
  { dst := some 3, op := SOp.mv (Operand.tmp 14), guard := none }]
def c26 : SCode := (.seq (.reg c26_r0 [1]) (.seq (.reg c26_r1 [5, 6]) (.seq (.reg c26_r2 [2, 3]) .ret)))
theorem F26 : Fn Tryd.prog 26 c26 [SRes.tmp 2, SRes.tmp 3] 15 := ⟨Tryd.f26, Tryd.f26.body.getD .skip, [[1], [5, 6], [2, 3]], Tryd.func26, by kernel_rfl, by kernel_rfl, by kernel_rfl, by kernel_rfl, by decide⟩

def c28_r0 : List SIns := [
  { dst := some 1, op := SOp.box (Operand.tmp 0), guard := none },
  { dst := some 2, op := SOp.mv (Operand.const (Value.slice none 0 0)), guard := none },
  { dst := some 3, op := SOp.mv (Operand.const (Value.int (IntKind.i64) 0)), guard := none }]
def c28_r1 : List SIns := [
  { dst := some 8, op := SOp.loadN 1 (Operand.tmp 1), guard := none },
  { dst := some 9, op := SOp.call 76 [Operand.tmp 8], guard := none },
  { dst := some 7, op := SOp.mv (Operand.tmp 9), guard := none },
  { dst := some 10, op := SOp.ext (Operand.tmp 7) 0, guard := none },
  { dst := some 11, op := SOp.ext (Operand.tmp 7) 1, guard := none },
  { dst := some 12, op := SOp.ext (Operand.tmp 7) 2, guard := none },
  { dst := some 4, op := SOp.mv (Operand.tmp 10), guard := none },
  { dst := some 5, op := SOp.mv (Operand.tmp 11), guard := none },
  { dst := some 6, op := SOp.mv (Operand.tmp 12), guard := none }]
def c28_r2 : List SIns := [
  { dst := some 13, op := SOp.mv (Operand.tmp 4), guard := none },
  { dst := some 14, op := SOp.mv (Operand.tmp 6), guard := none },
  { dst := some 2, op := SOp.mv (Operand.tmp 13), guard := none },
  { dst := some 3, op := SOp.mv (Operand.tmp 14), guard := none }]
def c28 : SCode := (.seq (.reg c28_r0 [1]) (.seq (.reg c28_r1 [4, 6]) (.seq (.reg c28_r2 [2, 3]) .ret)))
theorem F28 : Fn Tryd.prog 28 c28 [SRes.tmp 2, SRes.tmp 3] 15 := ⟨Tryd.f28, Tryd.f28.body.getD .skip, [[1], [4, 6], [2, 3]], Tryd.func28, by kernel_rfl, by kernel_rfl, by kernel_rfl, by kernel_rfl, by decide⟩

def c30_r0 : List SIns := [
  { dst := some 4, op := SOp.mv (Operand.const (Value.bool false)), guard := none }]
def c30_r1 : List SIns := [
  { dst := some 6, op := SOp.mv (Operand.tmp 0), guard := none },
  { dst := some 7, op := SOp.lenSl (Operand.tmp 6), guard := none },
  { dst := some 8, op := SOp.mv (Operand.tmp 1), guard := none },
  { dst := some 9, op := SOp.lenSl (Operand.tmp 8), guard := none },
  { dst := some 10, op := SOp.ib (BinOp.neq) (Operand.tmp 7) (Operand.tmp 9), guard := none }]
def c30_r2 : List SIns := [
  { dst := some 4, op := SOp.mv (Operand.const (Value.bool false)), guard := none }]
def c30_r3 : List SIns := [
  { dst := some 5, op := SOp.mv (Operand.const (Value.int (IntKind.i64) 0)), guard := none }]
def c30_r4 : List SIns := [
  { dst := some 11, op := SOp.mv (Operand.tmp 5), guard := none },
  { dst := some 12, op := SOp.mv (Operand.tmp 0), guard := none },
  { dst := some 13, op := SOp.lenSl (Operand.tmp 12), guard := none },
  { dst := some 14, op := SOp.ib (BinOp.lss) (Operand.tmp 11) (Operand.tmp 13), guard := none }]
def c30_r5 : List SIns := [
  { dst := some 17, op := SOp.mv (Operand.tmp 0), guard := none },
  { dst := some 18, op := SOp.mv (Operand.tmp 5), guard := none },
  { dst := some 19, op := SOp.idx 1 (Operand.tmp 17) (Operand.tmp 18), guard := none },
  { dst := some 20, op := SOp.load1 (Operand.tmp 19), guard := none },
  { dst := some 21, op := SOp.mv (Operand.tmp 1), guard := none },
  { dst := some 22, op := SOp.mv (Operand.tmp 5), guard := none },
  { dst := some 23, op := SOp.idx 1 (Operand.tmp 21) (Operand.tmp 22), guard := none },
  { dst := some 24, op := SOp.load1 (Operand.tmp 23), guard := none },
  { dst := some 25, op := SOp.ib (BinOp.neq) (Operand.tmp 20) (Operand.tmp 24), guard := none }]
def c30_r6 : List SIns := [
  { dst := some 4, op := SOp.mv (Operand.const (Value.bool false)), guard := none }]
def c30_r7 : List SIns := [
  { dst := some 15, op := SOp.mv (Operand.tmp 5), guard := none },
  { dst := some 16, op := SOp.ib (BinOp.add) (Operand.tmp 15) (Operand.const (Value.int (IntKind.i64) 1)), guard := none },
  { dst := some 5, op := SOp.mv (Operand.tmp 16), guard := none }]
def c30_l0 : SCode := (.seq (.seq (.reg c30_r4 [0, 1, 5, 14]) (.cond (Operand.tmp 14) .skip (.exit 0))) (.seq (.block 1 (.seq (.draw c30_r5 [[], [], [0, 1], [2, 0, 1], [], [], [4, 5], [6, 4, 5], [3, 7, 2, 0, 1, 6, 4, 5]] [0, 1, 5, 25]) (.cond (Operand.tmp 25) (.seq (.reg c30_r6 [4]) .ret) .skip))) (.reg c30_r7 [0, 1, 5])))
def c30_r8 : List SIns := [
  { dst := some 4, op := SOp.mv (Operand.const (Value.bool true)), guard := none }]
def c30 : SCode := (.seq (.reg c30_r0 [0, 1]) (.seq (.seq (.reg c30_r1 [0, 1, 10]) (.cond (Operand.tmp 10) (.seq (.reg c30_r2 [4]) .ret) .skip)) (.seq (.seq (.reg c30_r3 [0, 1, 5]) (.block 0 (.loop c30_l0))) (.seq (.reg c30_r8 [4]) .ret))))
theorem F30 : Fn Tryd.prog 30 c30 [SRes.tmp 4] 26 := ⟨Tryd.f30, Tryd.f30.body.getD .skip, [[0, 1], [0, 1, 10], [4], [0, 1, 5], [0, 1, 5, 14], [0, 1, 5, 25], [4], [0, 1, 5], [4]], Tryd.func30, by kernel_rfl, by kernel_rfl, by kernel_rfl, by kernel_rfl, by decide⟩

def c31_r0 : List SIns := [
  { dst := some 1, op := SOp.box (Operand.tmp 0), guard := none },
  { dst := some 2, op := SOp.mv (Operand.const (Value.slice none 0 0)), guard := none },
  { dst := some 3, op := SOp.mv (Operand.const (Value.int (IntKind.i64) 0)), guard := none }]
def c31_r1 : List SIns := [
  { dst := some 11, op := SOp.loadN 1 (Operand.tmp 1), guard := none },
  { dst := some 12, op := SOp.call 67 [Operand.tmp 11], guard := none },
  { dst := some 10, op := SOp.mv (Operand.tmp 12), guard := none },
  { dst := some 13, op := SOp.ext (Operand.tmp 10) 0, guard := none },
  { dst := some 14, op := SOp.ext (Operand.tmp 10) 1, guard := none },
  { dst := some 4, op := SOp.alloc [Value.int (IntKind.i64) 0, Value.int (IntKind.i64) 0, Value.int (IntKind.i64) 0, Value.int (IntKind.i64) 0, Value.int (IntKind.i64) 0, Value.int (IntKind.i64) 0, Value.int (IntKind.i64) 0, Value.int (IntKind.i64) 0, Value.int (IntKind.i64) 0, Value.int (IntKind.i64) 0, Value.int (IntKind.i64) 0, Value.int (IntKind.i64) 0, Value.int (IntKind.i64) 0, Value.int (IntKind.i64) 0, Value.int (IntKind.i64) 0, Value.int (IntKind.i64) 0, Value.int (IntKind.i64) 0, Value.int (IntKind.i64) 0, Value.int (IntKind.i64) 0, Value.int (IntKind.i64) 0, Value.int (IntKind.i64) 0, Value.int (IntKind.i64) 0, Value.int (IntKind.i64) 0, Value.int (IntKind.i64) 0, Value.int (IntKind.i64) 0, Value.int (IntKind.i64) 0, Value.int (IntKind.i64) 0, Value.int (IntKind.i64) 0, Value.int (IntKind.i64) 0, Value.int (IntKind.i64) 0, Value.int (IntKind.i64) 0, Value.int (IntKind.i64) 0, Value.int (IntKind.i64) 0, Value.int (IntKind.i64) 0], guard := none },
  { dst := none, op := SOp.store 34 (Operand.tmp 4) (Operand.tmp 13), guard := none },
  { dst := some 5, op := SOp.mv (Operand.tmp 14), guard := none }]
def c31_r2 : List SIns := [
  { dst := some 16, op := SOp.mv (Operand.tmp 5), guard := none },
  { dst := some 17, op := SOp.ib (BinOp.neq) (Operand.tmp 16) (Operand.const (Value.int (IntKind.i64) 0)), guard := none },
  { dst := some 15, op := SOp.mv (Operand.tmp 17), guard := none }]
def c31_r3 : List SIns := [
  { dst := some 18, op := SOp.mv (Operand.tmp 5), guard := none },
  { dst := some 2, op := SOp.mv (Operand.const (Value.slice none 0 0)), guard := none },
  { dst := some 3, op := SOp.mv (Operand.tmp 18), guard := none }]
def c31_r4 : List SIns := [
  { dst := some 20, op := SOp.loadN 34 (Operand.tmp 4), guard := none },
  { dst := some 21, op := SOp.call 79 [Operand.tmp 20], guard := none },
  { dst := some 19, op := SOp.mv (Operand.tmp 21), guard := none }]
def c31_r5 : List SIns := [
  { dst := some 2, op := SOp.mv (Operand.const (Value.slice none 0 0)), guard := none },
  { dst := some 3, op := SOp.mv (Operand.const (Value.int (IntKind.i64) 12)), guard := none }]
def c31_r6 : List SIns := [
  { dst := some 22, op := SOp.loadN 34 (Operand.tmp 4), guard := none },
  { dst := some 23, op := SOp.call 80 [Operand.tmp 22], guard := none },
  { dst := some 6, op := SOp.alloc [Value.slice none 0 0], guard := none },
  { dst := none, op := SOp.store 1 (Operand.tmp 6) (Operand.tmp 23), guard := none }]
def c31_r7 : List SIns := [
  { dst := some 7, op := SOp.alloc [Value.slice none 0 0], guard := none }]
def c31_r8 : List SIns := [
  { dst := some 8, op := SOp.alloc [Value.int (IntKind.i64) 0], guard := none },
  { dst := none, op := SOp.store 1 (Operand.tmp 8) (Operand.const (Value.int (IntKind.i64) 3)), guard := none }]
def c31_r9 : List SIns := [
  { dst := some 9, op := SOp.alloc [Value.nilFunc], guard := none }]
def c31_r10 : List SIns := [
  { dst := some 24, op := SOp.mkfn (Fn.func 81) [] [Operand.tmp 8, Operand.tmp 7, Operand.tmp 6, Operand.tmp 4, Operand.tmp 9], guard := none },
  { dst := none, op := SOp.store 1 (Operand.tmp 9) (Operand.tmp 24), guard := none }]
def c31_r11 : List SIns := [
  { dst := some 25, op := SOp.load1 (Operand.tmp 8), guard := none },
  { dst := some 26, op := SOp.off 33 (Operand.tmp 4), guard := none },
  { dst := some 27, op := SOp.load1 (Operand.tmp 26), guard := none },
  { dst := some 28, op := SOp.ib (BinOp.leq) (Operand.tmp 25) (Operand.tmp 27), guard := none }]
def c31_r12 : List SIns := [
  { dst := some 31, op := SOp.load1 (Operand.tmp 9), guard := none },
  { dst := some 32, op := SOp.callv (Operand.tmp 31) [Operand.const (Value.slice none 0 0), Operand.const (Value.int (IntKind.u32) 0)], guard := none }]
def c31_r13 : List SIns := [
  { dst := some 33, op := SOp.load1 (Operand.tmp 7), guard := none },
  { dst := some 2, op := SOp.mv (Operand.tmp 33), guard := none },
  { dst := some 3, op := SOp.mv (Operand.const (Value.int (IntKind.i64) 0)), guard := none }]
def c31_r14 : List SIns := [
  { dst := some 29, op := SOp.load1 (Operand.tmp 8), guard := none },
  { dst := some 30, op := SOp.ib (BinOp.add) (Operand.tmp 29) (Operand.const (Value.int (IntKind.i64) 2)), guard := none },
  { dst := none, op := SOp.store 1 (Operand.tmp 8) (Operand.tmp 30), guard := none }]
def c31_l0 : SCode := (.seq (.seq (.reg c31_r11 [4, 7, 8, 9, 28]) (.cond (Operand.tmp 28) .skip (.exit 1))) (.seq (.block 2 (.seq (.reg c31_r12 [4, 7, 8, 9, 32]) (.cond (Operand.tmp 32) (.seq (.reg c31_r13 [2, 3]) .ret) .skip))) (.reg c31_r14 [4, 7, 8, 9])))
def c31_r15 : List SIns := [
  { dst := some 2, op := SOp.mv (Operand.const (Value.slice none 0 0)), guard := none },
  { dst := some 3, op := SOp.mv (Operand.const (Value.int (IntKind.i64) 13)), guard := none }]
def c31 : SCode := (.seq (.reg c31_r0 [1]) (.seq (.reg c31_r1 [4, 5]) (.seq (.block 0 (.seq (.reg c31_r2 [4, 5, 15]) (.cond (Operand.tmp 15) (.seq (.reg c31_r3 [2, 3]) .ret) (.seq (.reg c31_r4 [4, 19]) (.cond (Operand.tmp 19) (.seq (.reg c31_r5 [2, 3]) .ret) .skip))))) (.seq (.reg c31_r6 [4, 6]) (.seq (.reg c31_r7 [4, 6, 7]) (.seq (.reg c31_r8 [4, 6, 7, 8]) (.seq (.reg c31_r9 [4, 6, 7, 8, 9]) (.seq (.reg c31_r10 [4, 7, 8, 9]) (.seq (.block 1 (.loop c31_l0)) (.seq (.reg c31_r15 [2, 3]) .ret))))))))))
theorem F31 : Fn Tryd.prog 31 c31 [SRes.tmp 2, SRes.tmp 3] 34 := ⟨Tryd.f31, Tryd.f31.body.getD .skip, [[1], [4, 5], [4, 5, 15], [2, 3], [4, 19], [2, 3], [4, 6], [4, 6, 7], [4, 6, 7, 8], [4, 6, 7, 8, 9], [4, 7, 8, 9], [4, 7, 8, 9, 28], [4, 7, 8, 9, 32], [2, 3], [4, 7, 8, 9], [2, 3]], Tryd.func31, by kernel_rfl, by kernel_rfl, by kernel_rfl, by kernel_rfl, by decide⟩

def c33_r0 : List SIns := [
  { dst := some 1, op := SOp.box (Operand.tmp 0), guard := none },
  { dst := some 2, op := SOp.mv (Operand.const (Value.slice none 0 0)), guard := none },
  { dst := some 3, op := SOp.mv (Operand.const (Value.int (IntKind.i64) 0)), guard := none }]
def c33_r1 : List SIns := [
  { dst := some 7, op := SOp.loadN 1 (Operand.tmp 1), guard := none },
  { dst := some 8, op := SOp.call 67 [Operand.tmp 7], guard := none },
  { dst := some 6, op := SOp.mv (Operand.tmp 8), guard := none },
  { dst := some 9, op := SOp.ext (Operand.tmp 6) 0, guard := none },
  { dst := some 10, op := SOp.ext (Operand.tmp 6) 1, guard := none },
  { dst := some 4, op := SOp.alloc [Value.int (IntKind.i64) 0, Value.int (IntKind.i64) 0, Value.int (IntKind.i64) 0, Value.int (IntKind.i64) 0, Value.int (IntKind.i64) 0, Value.int (IntKind.i64) 0, Value.int (IntKind.i64) 0, Value.int (IntKind.i64) 0, Value.int (IntKind.i64) 0, Value.int (IntKind.i64) 0, Value.int (IntKind.i64) 0, Value.int (IntKind.i64) 0, Value.int (IntKind.i64) 0, Value.int (IntKind.i64) 0, Value.int (IntKind.i64) 0, Value.int (IntKind.i64) 0, Value.int (IntKind.i64) 0, Value.int (IntKind.i64) 0, Value.int (IntKind.i64) 0, Value.int (IntKind.i64) 0, Value.int (IntKind.i64) 0, Value.int (IntKind.i64) 0, Value.int (IntKind.i64) 0, Value.int (IntKind.i64) 0, Value.int (IntKind.i64) 0, Value.int (IntKind.i64) 0, Value.int (IntKind.i64) 0, Value.int (IntKind.i64) 0, Value.int (IntKind.i64) 0, Value.int (IntKind.i64) 0, Value.int (IntKind.i64) 0, Value.int (IntKind.i64) 0, Value.int (IntKind.i64) 0, Value.int (IntKind.i64) 0], guard := none },
  { dst := none, op := SOp.store 34 (Operand.tmp 4) (Operand.tmp 9), guard := none },
  { dst := some 5, op := SOp.mv (Operand.tmp 10), guard := none }]
def c33_r2 : List SIns := [
  { dst := some 11, op := SOp.mv (Operand.tmp 5), guard := none },
  { dst := some 12, op := SOp.ib (BinOp.neq) (Operand.tmp 11) (Operand.const (Value.int (IntKind.i64) 0)), guard := none }]
def c33_r3 : List SIns := [
  { dst := some 13, op := SOp.mv (Operand.tmp 5), guard := none },
  { dst := some 2, op := SOp.mv (Operand.const (Value.slice none 0 0)), guard := none },
  { dst := some 3, op := SOp.mv (Operand.tmp 13), guard := none }]
def c33_r4 : List SIns := [
  { dst := some 14, op := SOp.loadN 34 (Operand.tmp 4), guard := none },
  { dst := some 15, op := SOp.loadN 34 (Operand.tmp 4), guard := none },
  { dst := some 16, op := SOp.mkfn (Fn.func 84) [Operand.tmp 15] [], guard := none },
  { dst := some 17, op := SOp.call 68 [Operand.tmp 14, Operand.tmp 16], guard := none },
  { dst := some 2, op := SOp.mv (Operand.tmp 17), guard := none },
  { dst := some 3, op := SOp.mv (Operand.const (Value.int (IntKind.i64) 0)), guard := none }]
def c33 : SCode := (.seq (.reg c33_r0 [1]) (.seq (.reg c33_r1 [4, 5]) (.seq (.seq (.reg c33_r2 [4, 5, 12]) (.cond (Operand.tmp 12) (.seq (.reg c33_r3 [2, 3]) .ret) .skip)) (.seq (.reg c33_r4 [2, 3]) .ret))))
theorem F33 : Fn Tryd.prog 33 c33 [SRes.tmp 2, SRes.tmp 3] 18 := ⟨Tryd.f33, Tryd.f33.body.getD .skip, [[1], [4, 5], [4, 5, 12], [2, 3], [2, 3]], Tryd.func33, by kernel_rfl, by kernel_rfl, by kernel_rfl, by kernel_rfl, by decide⟩

def c34_r0 : List SIns := [
  { dst := some 0, op := SOp.alloc [Value.slice none 0 0], guard := none }]
def c34_r1 : List SIns := [
  { dst := some 1, op := SOp.mks 2 1 [Value.int (IntKind.i64) 0, Value.int (IntKind.i64) 0] [(0, 1, Operand.const (Value.int (IntKind.i64) 0)), (1, 1, Operand.const (Value.int (IntKind.i64) 2))], guard := none },
  { dst := some 2, op := SOp.call 39 [Operand.tmp 1], guard := none },
  { dst := some 3, op := SOp.mks 2 1 [Value.int (IntKind.i64) 0, Value.int (IntKind.i64) 0] [(0, 1, Operand.const (Value.int (IntKind.i64) 1)), (1, 1, Operand.const (Value.int (IntKind.i64) 3))], guard := none },
  { dst := some 4, op := SOp.call 39 [Operand.tmp 3], guard := none },
  { dst := some 5, op := SOp.mks 2 1 [Value.slice none 0 0, Value.slice none 0 0] [(0, 1, Operand.tmp 2), (1, 1, Operand.tmp 4)], guard := none },
  { dst := some 6, op := SOp.call 41 [Operand.tmp 5], guard := none },
  { dst := none, op := SOp.store 1 (Operand.tmp 0) (Operand.tmp 6), guard := none }]
def c34 : SCode := (.seq (.reg c34_r0 [0]) (.seq (.reg c34_r1 [0]) .ret))
theorem F34 : Fn Tryd.prog 34 c34 [SRes.cell 0 (some 1)] 7 := ⟨Tryd.f34, Tryd.f34.body.getD .skip, [[0], [0]], Tryd.func34, by kernel_rfl, by kernel_rfl, by kernel_rfl, by kernel_rfl, by decide⟩

def c35_r0 : List SIns := [
  { dst := some 0, op := SOp.alloc [Value.slice none 0 0], guard := none }]
def c35_r1 : List SIns := [
  { dst := some 1, op := SOp.mks 4 1 [Value.int (IntKind.i64) 0, Value.int (IntKind.i64) 0, Value.int (IntKind.i64) 0, Value.int (IntKind.i64) 0] [(0, 1, Operand.const (Value.int (IntKind.i64) 0)), (1, 1, Operand.const (Value.int (IntKind.i64) 2)), (2, 1, Operand.const (Value.int (IntKind.i64) 1)), (3, 1, Operand.const (Value.int (IntKind.i64) 3))], guard := none },
  { dst := some 2, op := SOp.call 39 [Operand.tmp 1], guard := none },
  { dst := some 3, op := SOp.mks 1 1 [Value.slice none 0 0] [(0, 1, Operand.tmp 2)], guard := none },
  { dst := some 4, op := SOp.call 41 [Operand.tmp 3], guard := none },
  { dst := none, op := SOp.store 1 (Operand.tmp 0) (Operand.tmp 4), guard := none }]
def c35 : SCode := (.seq (.reg c35_r0 [0]) (.seq (.reg c35_r1 [0]) .ret))
theorem F35 : Fn Tryd.prog 35 c35 [SRes.cell 0 (some 1)] 5 := ⟨Tryd.f35, Tryd.f35.body.getD .skip, [[0], [0]], Tryd.func35, by kernel_rfl, by kernel_rfl, by kernel_rfl, by kernel_rfl, by decide⟩

def c36_r0 : List SIns := [
  { dst := some 0, op := SOp.alloc [Value.slice none 0 0], guard := none }]
def c36_r1 : List SIns := [
  { dst := some 1, op := SOp.mks 2 1 [Value.int (IntKind.i64) 0, Value.int (IntKind.i64) 0] [(0, 1, Operand.const (Value.int (IntKind.i64) 0)), (1, 1, Operand.const (Value.int (IntKind.i64) 1))], guard := none },
  { dst := some 2, op := SOp.call 39 [Operand.tmp 1], guard := none },
  { dst := some 3, op := SOp.mks 1 1 [Value.slice none 0 0] [(0, 1, Operand.tmp 2)], guard := none },
  { dst := some 4, op := SOp.call 41 [Operand.tmp 3], guard := none },
  { dst := none, op := SOp.store 1 (Operand.tmp 0) (Operand.tmp 4), guard := none }]
def c36 : SCode := (.seq (.reg c36_r0 [0]) (.seq (.reg c36_r1 [0]) .ret))
theorem F36 : Fn Tryd.prog 36 c36 [SRes.cell 0 (some 1)] 5 := ⟨Tryd.f36, Tryd.f36.body.getD .skip, [[0], [0]], Tryd.func36, by kernel_rfl, by kernel_rfl, by kernel_rfl, by kernel_rfl, by decide⟩

def c37_r0 : List SIns := [
  { dst := some 1, op := SOp.box (Operand.tmp 0), guard := none },
  { dst := some 2, op := SOp.mv (Operand.const (Value.int (IntKind.i64) 0)), guard := none },
  { dst := some 3, op := SOp.mv (Operand.const (Value.int (IntKind.i64) 0)), guard := none }]
def c37_r1 : List SIns := [
  { dst := some 7, op := SOp.loadN 1 (Operand.tmp 1), guard := none },
  { dst := some 8, op := SOp.call 67 [Operand.tmp 7], guard := none },
  { dst := some 6, op := SOp.mv (Operand.tmp 8), guard := none },
  { dst := some 9, op := SOp.ext (Operand.tmp 6) 0, guard := none },
  { dst := some 10, op := SOp.ext (Operand.tmp 6) 1, guard := none },
  { dst := some 4, op := SOp.alloc [Value.int (IntKind.i64) 0, Value.int (IntKind.i64) 0, Value.int (IntKind.i64) 0, Value.int (IntKind.i64) 0, Value.int (IntKind.i64) 0, Value.int (IntKind.i64) 0, Value.int (IntKind.i64) 0, Value.int (IntKind.i64) 0, Value.int (IntKind.i64) 0, Value.int (IntKind.i64) 0, Value.int (IntKind.i64) 0, Value.int (IntKind.i64) 0, Value.int (IntKind.i64) 0, Value.int (IntKind.i64) 0, Value.int (IntKind.i64) 0, Value.int (IntKind.i64) 0, Value.int (IntKind.i64) 0, Value.int (IntKind.i64) 0, Value.int (IntKind.i64) 0, Value.int (IntKind.i64) 0, Value.int (IntKind.i64) 0, Value.int (IntKind.i64) 0, Value.int (IntKind.i64) 0, Value.int (IntKind.i64) 0, Value.int (IntKind.i64) 0, Value.int (IntKind.i64) 0, Value.int (IntKind.i64) 0, Value.int (IntKind.i64) 0, Value.int (IntKind.i64) 0, Value.int (IntKind.i64) 0, Value.int (IntKind.i64) 0, Value.int (IntKind.i64) 0, Value.int (IntKind.i64) 0, Value.int (IntKind.i64) 0], guard := none },
  { dst := none, op := SOp.store 34 (Operand.tmp 4) (Operand.tmp 9), guard := none },
  { dst := some 5, op := SOp.mv (Operand.tmp 10), guard := none }]
def c37_r2 : List SIns := [
  { dst := some 11, op := SOp.mv (Operand.tmp 5), guard := none },
  { dst := some 12, op := SOp.ib (BinOp.neq) (Operand.tmp 11) (Operand.const (Value.int (IntKind.i64) 0)), guard := none }]
def c37_r3 : List SIns := [
  { dst := some 13, op := SOp.mv (Operand.tmp 5), guard := none },
  { dst := some 2, op := SOp.mv (Operand.const (Value.int (IntKind.i64) 0)), guard := none },
  { dst := some 3, op := SOp.mv (Operand.tmp 13), guard := none }]
def c37_r4 : List SIns := [
  { dst := some 14, op := SOp.loadN 34 (Operand.tmp 4), guard := none },
  { dst := some 15, op := SOp.call 85 [Operand.tmp 14], guard := none },
  { dst := some 16, op := SOp.off 33 (Operand.tmp 4), guard := none },
  { dst := some 17, op := SOp.load1 (Operand.tmp 16), guard := none },
  { dst := some 18, op := SOp.off 0 (Operand.tmp 4), guard := none },
  { dst := some 19, op := SOp.load1 (Operand.tmp 18), guard := none },
  { dst := some 20, op := SOp.ib (BinOp.quo) (Operand.tmp 19) (Operand.const (Value.int (IntKind.i64) 2)), guard := none },
  { dst := some 21, op := SOp.ib (BinOp.sub) (Operand.tmp 17) (Operand.tmp 20), guard := none },
  { dst := some 22, op := SOp.loadN 34 (Operand.tmp 4), guard := none },
  { dst := some 23, op := SOp.loadN 34 (Operand.tmp 4), guard := none },
  { dst := some 24, op := SOp.mkfn (Fn.func 84) [Operand.tmp 23] [], guard := none },
  { dst := some 25, op := SOp.call 68 [Operand.tmp 22, Operand.tmp 24], guard := none },
  { dst := some 26, op := SOp.lenSl (Operand.tmp 25), guard := none },
  { dst := some 27, op := SOp.ib (BinOp.add) (Operand.tmp 21) (Operand.tmp 26), guard := none },
  { dst := some 28, op := SOp.ib (BinOp.quo) (Operand.tmp 27) (Operand.const (Value.int (IntKind.i64) 2)), guard := none },
  { dst := some 29, op := SOp.ib (BinOp.sub) (Operand.tmp 15) (Operand.tmp 28), guard := none },
  { dst := some 2, op := SOp.mv (Operand.tmp 29), guard := none },
  { dst := some 3, op := SOp.mv (Operand.const (Value.int (IntKind.i64) 0)), guard := none }]
def c37 : SCode := (.seq (.reg c37_r0 [1]) (.seq (.reg c37_r1 [4, 5]) (.seq (.seq (.reg c37_r2 [4, 5, 12]) (.cond (Operand.tmp 12) (.seq (.reg c37_r3 [2, 3]) .ret) .skip)) (.seq (.draw c37_r4 [[], [0], [], [2], [], [4], [5, 4], [3, 6, 2, 5, 4], [], [], [9], [8, 10, 1, 9, 0], [11, 8, 10, 1, 9, 0], [7, 12, 3, 6, 2, 5, 4, 11, 8, 10, 1, 9, 0], [13, 7, 12, 3, 6, 2, 5, 4, 11, 8, 10, 1, 9, 0], [14, 13, 7, 12, 3, 6, 2, 5, 4, 11, 8, 10, 1, 9, 0], [15, 14, 13, 7, 12, 3, 6, 2, 5, 4, 11, 8, 10, 1, 9, 0], [16, 15, 14, 13, 7, 12, 3, 6, 2, 5, 4, 11, 8, 10, 1, 9, 0]] [2, 3]) .ret))))
theorem F37 : Fn Tryd.prog 37 c37 [SRes.tmp 2, SRes.tmp 3] 30 := ⟨Tryd.f37, Tryd.f37.body.getD .skip, [[1], [4, 5], [4, 5, 12], [2, 3], [2, 3]], Tryd.func37, by kernel_rfl, by kernel_rfl, by kernel_rfl, by kernel_rfl, by decide⟩

def c38_r0 : List SIns := [
  { dst := some 0, op := SOp.alloc [Value.slice none 0 0], guard := none }]
def c38_r1 : List SIns := [
  { dst := some 1, op := SOp.mks 2 1 [Value.int (IntKind.i64) 0, Value.int (IntKind.i64) 0] [(0, 1, Operand.const (Value.int (IntKind.i64) 0)), (1, 1, Operand.const (Value.int (IntKind.i64) 5))], guard := none },
  { dst := some 2, op := SOp.call 39 [Operand.tmp 1], guard := none },
  { dst := some 3, op := SOp.mks 2 1 [Value.int (IntKind.i64) 0, Value.int (IntKind.i64) 0] [(0, 1, Operand.const (Value.int (IntKind.i64) 1)), (1, 1, Operand.const (Value.int (IntKind.i64) 2))], guard := none },
  { dst := some 4, op := SOp.call 39 [Operand.tmp 3], guard := none },
  { dst := some 5, op := SOp.mks 2 1 [Value.int (IntKind.i64) 0, Value.int (IntKind.i64) 0] [(0, 1, Operand.const (Value.int (IntKind.i64) 3)), (1, 1, Operand.const (Value.int (IntKind.i64) 4))], guard := none },
  { dst := some 6, op := SOp.call 39 [Operand.tmp 5], guard := none },
  { dst := some 7, op := SOp.mks 3 1 [Value.slice none 0 0, Value.slice none 0 0, Value.slice none 0 0] [(0, 1, Operand.tmp 2), (1, 1, Operand.tmp 4), (2, 1, Operand.tmp 6)], guard := none },
  { dst := some 8, op := SOp.call 41 [Operand.tmp 7], guard := none },
  { dst := none, op := SOp.store 1 (Operand.tmp 0) (Operand.tmp 8), guard := none }]
def c38 : SCode := (.seq (.reg c38_r0 [0]) (.seq (.reg c38_r1 [0]) .ret))
theorem F38 : Fn Tryd.prog 38 c38 [SRes.cell 0 (some 1)] 9 := ⟨Tryd.f38, Tryd.f38.body.getD .skip, [[0], [0]], Tryd.func38, by kernel_rfl, by kernel_rfl, by kernel_rfl, by kernel_rfl, by decide⟩

def c39_r0 : List SIns := [
  { dst := some 2, op := SOp.mv (Operand.const (Value.slice none 0 0)), guard := none }]
def c39_r1 : List SIns := [
  { dst := some 3, op := SOp.mv (Operand.tmp 0), guard := none },
  { dst := some 2, op := SOp.mv (Operand.tmp 3), guard := none }]
def c39 : SCode := (.seq (.reg c39_r0 [0]) (.seq (.reg c39_r1 [2]) .ret))
theorem F39 : Fn Tryd.prog 39 c39 [SRes.tmp 2] 4 := ⟨Tryd.f39, Tryd.f39.body.getD .skip, [[0], [2]], Tryd.func39, by kernel_rfl, by kernel_rfl, by kernel_rfl, by kernel_rfl, by decide⟩

def c40_r0 : List SIns := [
  { dst := some 1, op := SOp.box (Operand.tmp 0), guard := none },
  { dst := some 2, op := SOp.mv (Operand.const (Value.int (IntKind.i64) 0)), guard := none }]
def c40_r1 : List SIns := [
  { dst := some 6, op := SOp.loadN 1 (Operand.tmp 1), guard := none },
  { dst := some 7, op := SOp.call 67 [Operand.tmp 6], guard := none },
  { dst := some 5, op := SOp.mv (Operand.tmp 7), guard := none },
  { dst := some 8, op := SOp.ext (Operand.tmp 5) 0, guard := none },
  { dst := some 9, op := SOp.ext (Operand.tmp 5) 1, guard := none },
  { dst := some 3, op := SOp.alloc [Value.int (IntKind.i64) 0, Value.int (IntKind.i64) 0, Value.int (IntKind.i64) 0, Value.int (IntKind.i64) 0, Value.int (IntKind.i64) 0, Value.int (IntKind.i64) 0, Value.int (IntKind.i64) 0, Value.int (IntKind.i64) 0, Value.int (IntKind.i64) 0, Value.int (IntKind.i64) 0, Value.int (IntKind.i64) 0, Value.int (IntKind.i64) 0, Value.int (IntKind.i64) 0, Value.int (IntKind.i64) 0, Value.int (IntKind.i64) 0, Value.int (IntKind.i64) 0, Value.int (IntKind.i64) 0, Value.int (IntKind.i64) 0, Value.int (IntKind.i64) 0, Value.int (IntKind.i64) 0, Value.int (IntKind.i64) 0, Value.int (IntKind.i64) 0, Value.int (IntKind.i64) 0, Value.int (IntKind.i64) 0, Value.int (IntKind.i64) 0, Value.int (IntKind.i64) 0, Value.int (IntKind.i64) 0, Value.int (IntKind.i64) 0, Value.int (IntKind.i64) 0, Value.int (IntKind.i64) 0, Value.int (IntKind.i64) 0, Value.int (IntKind.i64) 0, Value.int (IntKind.i64) 0, Value.int (IntKind.i64) 0], guard := none },
  { dst := none, op := SOp.store 34 (Operand.tmp 3) (Operand.tmp 8), guard := none },
  { dst := some 4, op := SOp.mv (Operand.tmp 9), guard := none }]
def c40_r2 : List SIns := [
  { dst := some 10, op := SOp.mv (Operand.tmp 4), guard := none },
  { dst := some 2, op := SOp.mv (Operand.tmp 10), guard := none }]
def c40 : SCode := (.seq (.reg c40_r0 [1]) (.seq (.reg c40_r1 [4]) (.seq (.reg c40_r2 [2]) .ret)))
theorem F40 : Fn Tryd.prog 40 c40 [SRes.tmp 2] 11 := ⟨Tryd.f40, Tryd.f40.body.getD .skip, [[1], [4], [2]], Tryd.func40, by kernel_rfl, by kernel_rfl, by kernel_rfl, by kernel_rfl, by decide⟩

def c41_r0 : List SIns := [
  { dst := some 2, op := SOp.alloc [Value.slice none 0 0], guard := none }]
def c41_r1 : List SIns := [
  { dst := some 3, op := SOp.mv (Operand.tmp 0), guard := none },
  { dst := some 4, op := SOp.build [Value.slice none 0 0] [(0, 1, Operand.tmp 3)], guard := none },
  { dst := none, op := SOp.store 1 (Operand.tmp 2) (Operand.tmp 4), guard := none }]
def c41 : SCode := (.seq (.reg c41_r0 [0, 2]) (.seq (.reg c41_r1 [2]) .ret))
theorem F41 : Fn Tryd.prog 41 c41 [SRes.cell 2 (some 1)] 5 := ⟨Tryd.f41, Tryd.f41.body.getD .skip, [[0, 2], [2]], Tryd.func41, by kernel_rfl, by kernel_rfl, by kernel_rfl, by kernel_rfl, by decide⟩

def c46_r0 : List SIns := [
  { dst := some 1, op := SOp.box (Operand.tmp 0), guard := none },
  { dst := some 2, op := SOp.mv (Operand.const (Value.int (IntKind.i64) 0)), guard := none },
  { dst := some 3, op := SOp.mv (Operand.const (Value.int (IntKind.i64) 0)), guard := none }]
def c46_r1 : List SIns := [
  { dst := some 7, op := SOp.loadN 1 (Operand.tmp 1), guard := none },
  { dst := some 8, op := SOp.call 67 [Operand.tmp 7], guard := none },
  { dst := some 6, op := SOp.mv (Operand.tmp 8), guard := none },
  { dst := some 9, op := SOp.ext (Operand.tmp 6) 0, guard := none },
  { dst := some 10, op := SOp.ext (Operand.tmp 6) 1, guard := none },
  { dst := some 4, op := SOp.alloc [Value.int (IntKind.i64) 0, Value.int (IntKind.i64) 0, Value.int (IntKind.i64) 0, Value.int (IntKind.i64) 0, Value.int (IntKind.i64) 0, Value.int (IntKind.i64) 0, Value.int (IntKind.i64) 0, Value.int (IntKind.i64) 0, Value.int (IntKind.i64) 0, Value.int (IntKind.i64) 0, Value.int (IntKind.i64) 0, Value.int (IntKind.i64) 0, Value.int (IntKind.i64) 0, Value.int (IntKind.i64) 0, Value.int (IntKind.i64) 0, Value.int (IntKind.i64) 0, Value.int (IntKind.i64) 0, Value.int (IntKind.i64) 0, Value.int (IntKind.i64) 0, Value.int (IntKind.i64) 0, Value.int (IntKind.i64) 0, Value.int (IntKind.i64) 0, Value.int (IntKind.i64) 0, Value.int (IntKind.i64) 0, Value.int (IntKind.i64) 0, Value.int (IntKind.i64) 0, Value.int (IntKind.i64) 0, Value.int (IntKind.i64) 0, Value.int (IntKind.i64) 0, Value.int (IntKind.i64) 0, Value.int (IntKind.i64) 0, Value.int (IntKind.i64) 0, Value.int (IntKind.i64) 0, Value.int (IntKind.i64) 0], guard := none },
  { dst := none, op := SOp.store 34 (Operand.tmp 4) (Operand.tmp 9), guard := none },
  { dst := some 5, op := SOp.mv (Operand.tmp 10), guard := none }]
def c46_r2 : List SIns := [
  { dst := some 11, op := SOp.mv (Operand.tmp 5), guard := none },
  { dst := some 12, op := SOp.ib (BinOp.neq) (Operand.tmp 11) (Operand.const (Value.int (IntKind.i64) 0)), guard := none }]
def c46_r3 : List SIns := [
  { dst := some 13, op := SOp.mv (Operand.tmp 5), guard := none },
  { dst := some 2, op := SOp.mv (Operand.const (Value.int (IntKind.i64) 0)), guard := none },
  { dst := some 3, op := SOp.mv (Operand.tmp 13), guard := none }]
def c46_r4 : List SIns := [
  { dst := some 14, op := SOp.loadN 34 (Operand.tmp 4), guard := none },
  { dst := some 15, op := SOp.call 85 [Operand.tmp 14], guard := none },
  { dst := some 2, op := SOp.mv (Operand.tmp 15), guard := none },
  { dst := some 3, op := SOp.mv (Operand.const (Value.int (IntKind.i64) 0)), guard := none }]
def c46 : SCode := (.seq (.reg c46_r0 [1]) (.seq (.reg c46_r1 [4, 5]) (.seq (.seq (.reg c46_r2 [4, 5, 12]) (.cond (Operand.tmp 12) (.seq (.reg c46_r3 [2, 3]) .ret) .skip)) (.seq (.reg c46_r4 [2, 3]) .ret))))
theorem F46 : Fn Tryd.prog 46 c46 [SRes.tmp 2, SRes.tmp 3] 16 := ⟨Tryd.f46, Tryd.f46.body.getD .skip, [[1], [4, 5], [4, 5, 12], [2, 3], [2, 3]], Tryd.func46, by kernel_rfl, by kernel_rfl, by kernel_rfl, by kernel_rfl, by decide⟩

def c67_r0 : List SIns := [
  { dst := some 1, op := SOp.box (Operand.tmp 0), guard := none },
  { dst := some 2, op := SOp.alloc [Value.int (IntKind.i64) 0, Value.int (IntKind.i64) 0, Value.int (IntKind.i64) 0, Value.int (IntKind.i64) 0, Value.int (IntKind.i64) 0, Value.int (IntKind.i64) 0, Value.int (IntKind.i64) 0, Value.int (IntKind.i64) 0, Value.int (IntKind.i64) 0, Value.int (IntKind.i64) 0, Value.int (IntKind.i64) 0, Value.int (IntKind.i64) 0, Value.int (IntKind.i64) 0, Value.int (IntKind.i64) 0, Value.int (IntKind.i64) 0, Value.int (IntKind.i64) 0, Value.int (IntKind.i64) 0, Value.int (IntKind.i64) 0, Value.int (IntKind.i64) 0, Value.int (IntKind.i64) 0, Value.int (IntKind.i64) 0, Value.int (IntKind.i64) 0, Value.int (IntKind.i64) 0, Value.int (IntKind.i64) 0, Value.int (IntKind.i64) 0, Value.int (IntKind.i64) 0, Value.int (IntKind.i64) 0, Value.int (IntKind.i64) 0, Value.int (IntKind.i64) 0, Value.int (IntKind.i64) 0, Value.int (IntKind.i64) 0, Value.int (IntKind.i64) 0, Value.int (IntKind.i64) 0, Value.int (IntKind.i64) 0], guard := none },
  { dst := some 3, op := SOp.mv (Operand.const (Value.int (IntKind.i64) 0)), guard := none }]
def c67_r1 : List SIns := [
  { dst := some 4, op := SOp.mv (Operand.const (Value.int (IntKind.i64) 0)), guard := none }]
def c67_r2 : List SIns := [
  { dst := some 12, op := SOp.off 0 (Operand.tmp 1), guard := none },
  { dst := some 13, op := SOp.load1 (Operand.tmp 12), guard := none },
  { dst := some 14, op := SOp.lenSl (Operand.tmp 13), guard := none },
  { dst := some 15, op := SOp.mv (Operand.const (Value.int (IntKind.i64) 0)), guard := none }]
def c67_r3 : List SIns := [
  { dst := some 16, op := SOp.ib (BinOp.lss) (Operand.tmp 15) (Operand.tmp 14), guard := none }]
def c67_r4 : List SIns := [
  { dst := some 17, op := SOp.idx 1 (Operand.tmp 13) (Operand.tmp 15), guard := none },
  { dst := some 18, op := SOp.load1 (Operand.tmp 17), guard := none },
  { dst := some 6, op := SOp.mv (Operand.tmp 18), guard := none }]
def c67_r5 : List SIns := [
  { dst := some 19, op := SOp.mv (Operand.tmp 4), guard := none },
  { dst := some 20, op := SOp.mv (Operand.tmp 6), guard := none },
  { dst := some 21, op := SOp.lenSl (Operand.tmp 20), guard := none },
  { dst := some 22, op := SOp.ib (BinOp.add) (Operand.tmp 19) (Operand.tmp 21), guard := none },
  { dst := some 4, op := SOp.mv (Operand.tmp 22), guard := none }]
def c67_r6 : List SIns := [
  { dst := some 23, op := SOp.ib (BinOp.add) (Operand.tmp 15) (Operand.const (Value.int (IntKind.i64) 1)), guard := none },
  { dst := some 15, op := SOp.mv (Operand.tmp 23), guard := none }]
def c67_l0 : SCode := (.seq (.reg c67_r3 [1, 2, 4, 13, 14, 15, 16]) (.seq (.cond (Operand.tmp 16) .skip (.exit 0)) (.seq (.block 1 (.seq (.reg c67_r4 [1, 2, 4, 6, 13, 14, 15]) (.reg c67_r5 [1, 2, 4, 13, 14, 15]))) (.reg c67_r6 [1, 2, 4, 13, 14, 15]))))
def c67_r7 : List SIns := [
  { dst := some 24, op := SOp.mv (Operand.tmp 4), guard := none },
  { dst := some 25, op := SOp.ib (BinOp.gtr) (Operand.tmp 24) (Operand.const (Value.int (IntKind.i64) 16)), guard := none }]
def c67_r8 : List SIns := [
  { dst := some 26, op := SOp.build [Value.int (IntKind.i64) 0, Value.int (IntKind.i64) 0, Value.int (IntKind.i64) 0, Value.int (IntKind.i64) 0, Value.int (IntKind.i64) 0, Value.int (IntKind.i64) 0, Value.int (IntKind.i64) 0, Value.int (IntKind.i64) 0, Value.int (IntKind.i64) 0, Value.int (IntKind.i64) 0, Value.int (IntKind.i64) 0, Value.int (IntKind.i64) 0, Value.int (IntKind.i64) 0, Value.int (IntKind.i64) 0, Value.int (IntKind.i64) 0, Value.int (IntKind.i64) 0, Value.int (IntKind.i64) 0, Value.int (IntKind.i64) 0, Value.int (IntKind.i64) 0, Value.int (IntKind.i64) 0, Value.int (IntKind.i64) 0, Value.int (IntKind.i64) 0, Value.int (IntKind.i64) 0, Value.int (IntKind.i64) 0, Value.int (IntKind.i64) 0, Value.int (IntKind.i64) 0, Value.int (IntKind.i64) 0, Value.int (IntKind.i64) 0, Value.int (IntKind.i64) 0, Value.int (IntKind.i64) 0, Value.int (IntKind.i64) 0, Value.int (IntKind.i64) 0, Value.int (IntKind.i64) 0, Value.int (IntKind.i64) 0] [], guard := none },
  { dst := none, op := SOp.store 34 (Operand.tmp 2) (Operand.tmp 26), guard := none },
  { dst := some 3, op := SOp.mv (Operand.const (Value.int (IntKind.i64) 3)), guard := none }]
def c67_r9 : List SIns := [
  { dst := some 7, op := SOp.alloc [Value.bool false, Value.bool false, Value.bool false, Value.bool false, Value.bool false, Value.bool false, Value.bool false, Value.bool false, Value.bool false, Value.bool false, Value.bool false, Value.bool false, Value.bool false, Value.bool false, Value.bool false, Value.bool false], guard := none }]
def c67_r10 : List SIns := [
  { dst := some 27, op := SOp.off 0 (Operand.tmp 1), guard := none },
  { dst := some 28, op := SOp.load1 (Operand.tmp 27), guard := none },
  { dst := some 29, op := SOp.lenSl (Operand.tmp 28), guard := none },
  { dst := some 30, op := SOp.mv (Operand.const (Value.int (IntKind.i64) 0)), guard := none }]
def c67_r11 : List SIns := [
  { dst := some 31, op := SOp.ib (BinOp.lss) (Operand.tmp 30) (Operand.tmp 29), guard := none }]
def c67_r12 : List SIns := [
  { dst := some 32, op := SOp.idx 1 (Operand.tmp 28) (Operand.tmp 30), guard := none },
  { dst := some 33, op := SOp.load1 (Operand.tmp 32), guard := none },
  { dst := some 9, op := SOp.mv (Operand.tmp 33), guard := none }]
def c67_r13 : List SIns := [
  { dst := some 34, op := SOp.mv (Operand.tmp 9), guard := none },
  { dst := some 35, op := SOp.lenSl (Operand.tmp 34), guard := none },
  { dst := some 36, op := SOp.ib (BinOp.eql) (Operand.tmp 35) (Operand.const (Value.int (IntKind.i64) 0)), guard := none }]
def c67_r14 : List SIns := [
  { dst := some 37, op := SOp.build [Value.int (IntKind.i64) 0, Value.int (IntKind.i64) 0, Value.int (IntKind.i64) 0, Value.int (IntKind.i64) 0, Value.int (IntKind.i64) 0, Value.int (IntKind.i64) 0, Value.int (IntKind.i64) 0, Value.int (IntKind.i64) 0, Value.int (IntKind.i64) 0, Value.int (IntKind.i64) 0, Value.int (IntKind.i64) 0, Value.int (IntKind.i64) 0, Value.int (IntKind.i64) 0, Value.int (IntKind.i64) 0, Value.int (IntKind.i64) 0, Value.int (IntKind.i64) 0, Value.int (IntKind.i64) 0, Value.int (IntKind.i64) 0, Value.int (IntKind.i64) 0, Value.int (IntKind.i64) 0, Value.int (IntKind.i64) 0, Value.int (IntKind.i64) 0, Value.int (IntKind.i64) 0, Value.int (IntKind.i64) 0, Value.int (IntKind.i64) 0, Value.int (IntKind.i64) 0, Value.int (IntKind.i64) 0, Value.int (IntKind.i64) 0, Value.int (IntKind.i64) 0, Value.int (IntKind.i64) 0, Value.int (IntKind.i64) 0, Value.int (IntKind.i64) 0, Value.int (IntKind.i64) 0, Value.int (IntKind.i64) 0] [], guard := none },
  { dst := none, op := SOp.store 34 (Operand.tmp 2) (Operand.tmp 37), guard := none },
  { dst := some 3, op := SOp.mv (Operand.const (Value.int (IntKind.i64) 4)), guard := none }]
def c67_r15 : List SIns := [
  { dst := some 38, op := SOp.mv (Operand.tmp 9), guard := none },
  { dst := some 39, op := SOp.lenSl (Operand.tmp 38), guard := none },
  { dst := some 40, op := SOp.mv (Operand.const (Value.int (IntKind.i64) 0)), guard := none }]
def c67_r16 : List SIns := [
  { dst := some 41, op := SOp.ib (BinOp.lss) (Operand.tmp 40) (Operand.tmp 39), guard := none }]
def c67_r17 : List SIns := [
  { dst := some 42, op := SOp.idx 1 (Operand.tmp 38) (Operand.tmp 40), guard := none },
  { dst := some 43, op := SOp.load1 (Operand.tmp 42), guard := none },
  { dst := some 11, op := SOp.mv (Operand.tmp 43), guard := none }]
def c67_r18 : List SIns := [
  { dst := some 45, op := SOp.mv (Operand.tmp 11), guard := none },
  { dst := some 46, op := SOp.ib (BinOp.lss) (Operand.tmp 45) (Operand.const (Value.int (IntKind.i64) 0)), guard := none },
  { dst := some 47, op := SOp.mv (Operand.tmp 46), guard := none },
  { dst := some 48, op := SOp.mv (Operand.tmp 11), guard := some (47, false) },
  { dst := some 49, op := SOp.mv (Operand.tmp 4), guard := some (47, false) },
  { dst := some 50, op := SOp.ib (BinOp.geq) (Operand.tmp 48) (Operand.tmp 49), guard := some (47, false) },
  { dst := some 51, op := SOp.pick (Operand.tmp 47) (Operand.const (Value.bool true)) (Operand.tmp 50), guard := none },
  { dst := some 44, op := SOp.mv (Operand.tmp 51), guard := none }]
def c67_r19 : List SIns := [
  { dst := some 52, op := SOp.build [Value.int (IntKind.i64) 0, Value.int (IntKind.i64) 0, Value.int (IntKind.i64) 0, Value.int (IntKind.i64) 0, Value.int (IntKind.i64) 0, Value.int (IntKind.i64) 0, Value.int (IntKind.i64) 0, Value.int (IntKind.i64) 0, Value.int (IntKind.i64) 0, Value.int (IntKind.i64) 0, Value.int (IntKind.i64) 0, Value.int (IntKind.i64) 0, Value.int (IntKind.i64) 0, Value.int (IntKind.i64) 0, Value.int (IntKind.i64) 0, Value.int (IntKind.i64) 0, Value.int (IntKind.i64) 0, Value.int (IntKind.i64) 0, Value.int (IntKind.i64) 0, Value.int (IntKind.i64) 0, Value.int (IntKind.i64) 0, Value.int (IntKind.i64) 0, Value.int (IntKind.i64) 0, Value.int (IntKind.i64) 0, Value.int (IntKind.i64) 0, Value.int (IntKind.i64) 0, Value.int (IntKind.i64) 0, Value.int (IntKind.i64) 0, Value.int (IntKind.i64) 0, Value.int (IntKind.i64) 0, Value.int (IntKind.i64) 0, Value.int (IntKind.i64) 0, Value.int (IntKind.i64) 0, Value.int (IntKind.i64) 0] [], guard := none },
  { dst := none, op := SOp.store 34 (Operand.tmp 2) (Operand.tmp 52), guard := none },
  { dst := some 3, op := SOp.mv (Operand.const (Value.int (IntKind.i64) 2)), guard := none }]
def c67_r20 : List SIns := [
  { dst := some 54, op := SOp.mv (Operand.tmp 11), guard := none },
  { dst := some 55, op := SOp.idxA 16 1 (Operand.tmp 7) (Operand.tmp 54), guard := none },
  { dst := some 56, op := SOp.load1 (Operand.tmp 55), guard := none },
  { dst := some 53, op := SOp.mv (Operand.tmp 56), guard := none }]
def c67_r21 : List SIns := [
  { dst := some 57, op := SOp.build [Value.int (IntKind.i64) 0, Value.int (IntKind.i64) 0, Value.int (IntKind.i64) 0, Value.int (IntKind.i64) 0, Value.int (IntKind.i64) 0, Value.int (IntKind.i64) 0, Value.int (IntKind.i64) 0, Value.int (IntKind.i64) 0, Value.int (IntKind.i64) 0, Value.int (IntKind.i64) 0, Value.int (IntKind.i64) 0, Value.int (IntKind.i64) 0, Value.int (IntKind.i64) 0, Value.int (IntKind.i64) 0, Value.int (IntKind.i64) 0, Value.int (IntKind.i64) 0, Value.int (IntKind.i64) 0, Value.int (IntKind.i64) 0, Value.int (IntKind.i64) 0, Value.int (IntKind.i64) 0, Value.int (IntKind.i64) 0, Value.int (IntKind.i64) 0, Value.int (IntKind.i64) 0, Value.int (IntKind.i64) 0, Value.int (IntKind.i64) 0, Value.int (IntKind.i64) 0, Value.int (IntKind.i64) 0, Value.int (IntKind.i64) 0, Value.int (IntKind.i64) 0, Value.int (IntKind.i64) 0, Value.int (IntKind.i64) 0, Value.int (IntKind.i64) 0, Value.int (IntKind.i64) 0, Value.int (IntKind.i64) 0] [], guard := none },
  { dst := none, op := SOp.store 34 (Operand.tmp 2) (Operand.tmp 57), guard := none },
  { dst := some 3, op := SOp.mv (Operand.const (Value.int (IntKind.i64) 6)), guard := none }]
def c67_r22 : List SIns := [
  { dst := some 58, op := SOp.mv (Operand.tmp 11), guard := none },
  { dst := some 59, op := SOp.idxA 16 1 (Operand.tmp 7) (Operand.tmp 58), guard := none },
  { dst := none, op := SOp.store 1 (Operand.tmp 59) (Operand.const (Value.bool true)), guard := none }]
def c67_r23 : List SIns := [
  { dst := some 60, op := SOp.ib (BinOp.add) (Operand.tmp 40) (Operand.const (Value.int (IntKind.i64) 1)), guard := none },
  { dst := some 40, op := SOp.mv (Operand.tmp 60), guard := none }]
def c67_l1 : SCode := (.seq (.reg c67_r16 [1, 2, 4, 7, 28, 29, 30, 38, 39, 40, 41]) (.seq (.cond (Operand.tmp 41) .skip (.exit 4)) (.seq (.block 5 (.seq (.reg c67_r17 [1, 2, 4, 7, 11, 28, 29, 30, 38, 39, 40]) (.seq (.block 6 (.seq (.reg c67_r18 [1, 2, 4, 7, 11, 28, 29, 30, 38, 39, 40, 44]) (.cond (Operand.tmp 44) (.seq (.reg c67_r19 [2, 3]) .ret) (.seq (.reg c67_r20 [1, 2, 4, 7, 11, 28, 29, 30, 38, 39, 40, 53]) (.cond (Operand.tmp 53) (.seq (.reg c67_r21 [2, 3]) .ret) .skip))))) (.reg c67_r22 [1, 2, 4, 7, 28, 29, 30, 38, 39, 40])))) (.reg c67_r23 [1, 2, 4, 7, 28, 29, 30, 38, 39, 40]))))
def c67_r24 : List SIns := [
  { dst := some 61, op := SOp.ib (BinOp.add) (Operand.tmp 30) (Operand.const (Value.int (IntKind.i64) 1)), guard := none },
  { dst := some 30, op := SOp.mv (Operand.tmp 61), guard := none }]
def c67_l2 : SCode := (.seq (.reg c67_r11 [1, 2, 4, 7, 28, 29, 30, 31]) (.seq (.cond (Operand.tmp 31) .skip (.exit 2)) (.seq (.block 3 (.seq (.reg c67_r12 [1, 2, 4, 7, 9, 28, 29, 30]) (.seq (.seq (.reg c67_r13 [1, 2, 4, 7, 9, 28, 29, 30, 36]) (.cond (Operand.tmp 36) (.seq (.reg c67_r14 [2, 3]) .ret) .skip)) (.seq (.reg c67_r15 [1, 2, 4, 7, 28, 29, 30, 38, 39, 40]) (.block 4 (.loop c67_l1)))))) (.reg c67_r24 [1, 2, 4, 7, 28, 29, 30]))))
def c67_r25 : List SIns := [
  { dst := some 62, op := SOp.mv (Operand.tmp 4), guard := none },
  { dst := some 63, op := SOp.ib (BinOp.rem) (Operand.tmp 62) (Operand.const (Value.int (IntKind.i64) 2)), guard := none },
  { dst := some 64, op := SOp.ib (BinOp.eql) (Operand.tmp 63) (Operand.const (Value.int (IntKind.i64) 1)), guard := none }]
def c67_r26 : List SIns := [
  { dst := some 65, op := SOp.build [Value.int (IntKind.i64) 0, Value.int (IntKind.i64) 0, Value.int (IntKind.i64) 0, Value.int (IntKind.i64) 0, Value.int (IntKind.i64) 0, Value.int (IntKind.i64) 0, Value.int (IntKind.i64) 0, Value.int (IntKind.i64) 0, Value.int (IntKind.i64) 0, Value.int (IntKind.i64) 0, Value.int (IntKind.i64) 0, Value.int (IntKind.i64) 0, Value.int (IntKind.i64) 0, Value.int (IntKind.i64) 0, Value.int (IntKind.i64) 0, Value.int (IntKind.i64) 0, Value.int (IntKind.i64) 0, Value.int (IntKind.i64) 0, Value.int (IntKind.i64) 0, Value.int (IntKind.i64) 0, Value.int (IntKind.i64) 0, Value.int (IntKind.i64) 0, Value.int (IntKind.i64) 0, Value.int (IntKind.i64) 0, Value.int (IntKind.i64) 0, Value.int (IntKind.i64) 0, Value.int (IntKind.i64) 0, Value.int (IntKind.i64) 0, Value.int (IntKind.i64) 0, Value.int (IntKind.i64) 0, Value.int (IntKind.i64) 0, Value.int (IntKind.i64) 0, Value.int (IntKind.i64) 0, Value.int (IntKind.i64) 0] [], guard := none },
  { dst := none, op := SOp.store 34 (Operand.tmp 2) (Operand.tmp 65), guard := none },
  { dst := some 3, op := SOp.mv (Operand.const (Value.int (IntKind.i64) 5)), guard := none }]
def c67_r27 : List SIns := [
  { dst := some 66, op := SOp.off 0 (Operand.tmp 1), guard := none },
  { dst := some 67, op := SOp.load1 (Operand.tmp 66), guard := none },
  { dst := some 68, op := SOp.call 70 [Operand.tmp 67], guard := none },
  { dst := none, op := SOp.store 34 (Operand.tmp 2) (Operand.tmp 68), guard := none },
  { dst := some 3, op := SOp.mv (Operand.const (Value.int (IntKind.i64) 0)), guard := none }]
def c67 : SCode := (.seq (.reg c67_r0 [1, 2]) (.seq (.reg c67_r1 [1, 2, 4]) (.seq (.seq (.reg c67_r2 [1, 2, 4, 13, 14, 15]) (.block 0 (.loop c67_l0))) (.seq (.seq (.reg c67_r7 [1, 2, 4, 25]) (.cond (Operand.tmp 25) (.seq (.reg c67_r8 [2, 3]) .ret) .skip)) (.seq (.reg c67_r9 [1, 2, 4, 7]) (.seq (.seq (.reg c67_r10 [1, 2, 4, 7, 28, 29, 30]) (.block 2 (.loop c67_l2))) (.seq (.seq (.reg c67_r25 [1, 2, 64]) (.cond (Operand.tmp 64) (.seq (.reg c67_r26 [2, 3]) .ret) .skip)) (.seq (.reg c67_r27 [2, 3]) .ret))))))))
theorem F67 : Fn Tryd.prog 67 c67 [SRes.cell 2 (some 34), SRes.tmp 3] 69 := ⟨Tryd.f67, Tryd.f67.body.getD .skip, [[1, 2], [1, 2, 4], [1, 2, 4, 13, 14, 15], [1, 2, 4, 13, 14, 15, 16], [1, 2, 4, 6, 13, 14, 15], [1, 2, 4, 13, 14, 15], [1, 2, 4, 13, 14, 15], [1, 2, 4, 25], [2, 3], [1, 2, 4, 7], [1, 2, 4, 7, 28, 29, 30], [1, 2, 4, 7, 28, 29, 30, 31], [1, 2, 4, 7, 9, 28, 29, 30], [1, 2, 4, 7, 9, 28, 29, 30, 36], [2, 3], [1, 2, 4, 7, 28, 29, 30, 38, 39, 40], [1, 2, 4, 7, 28, 29, 30, 38, 39, 40, 41], [1, 2, 4, 7, 11, 28, 29, 30, 38, 39, 40], [1, 2, 4, 7, 11, 28, 29, 30, 38, 39, 40, 44], [2, 3], [1, 2, 4, 7, 11, 28, 29, 30, 38, 39, 40, 53], [2, 3], [1, 2, 4, 7, 28, 29, 30, 38, 39, 40], [1, 2, 4, 7, 28, 29, 30, 38, 39, 40], [1, 2, 4, 7, 28, 29, 30], [1, 2, 64], [2, 3], [2, 3]], Tryd.func67, by kernel_rfl, by kernel_rfl, by kernel_rfl, by kernel_rfl, by decide⟩

def c68_r0 : List SIns := [
  { dst := some 2, op := SOp.box (Operand.tmp 0), guard := none },
  { dst := some 4, op := SOp.mv (Operand.const (Value.slice none 0 0)), guard := none }]
def c68_r1 : List SIns := [
  { dst := some 5, op := SOp.mv (Operand.const (Value.slice none 0 0)), guard := none }]
def c68_r2 : List SIns := [
  { dst := some 6, op := SOp.alloc [Value.bool false, Value.bool false, Value.bool false, Value.bool false, Value.bool false, Value.bool false, Value.bool false, Value.bool false, Value.bool false, Value.bool false, Value.bool false, Value.bool false, Value.bool false, Value.bool false, Value.bool false, Value.bool false], guard := none }]
def c68_r3 : List SIns := [
  { dst := some 10, op := SOp.off 0 (Operand.tmp 2), guard := none },
  { dst := some 11, op := SOp.load1 (Operand.tmp 10), guard := none },
  { dst := some 12, op := SOp.mv (Operand.const (Value.int (IntKind.i64) 0)), guard := none }]
def c68_r4 : List SIns := [
  { dst := some 13, op := SOp.ib (BinOp.lss) (Operand.tmp 12) (Operand.tmp 11), guard := none }]
def c68_r5 : List SIns := [
  { dst := some 14, op := SOp.mv (Operand.tmp 12), guard := none },
  { dst := some 7, op := SOp.mv (Operand.tmp 14), guard := none }]
def c68_r6 : List SIns := [
  { dst := some 15, op := SOp.mv (Operand.tmp 7), guard := none },
  { dst := some 16, op := SOp.idxA 16 1 (Operand.tmp 6) (Operand.tmp 15), guard := none },
  { dst := some 17, op := SOp.load1 (Operand.tmp 16), guard := none }]
def c68_r7 : List SIns := [
  { dst := some 8, op := SOp.mv (Operand.const (Value.slice none 0 0)), guard := none }]
def c68_r8 : List SIns := [
  { dst := some 18, op := SOp.mv (Operand.tmp 7), guard := none },
  { dst := some 9, op := SOp.mv (Operand.tmp 18), guard := none }]
def c68_r9 : List SIns := [
  { dst := some 19, op := SOp.mv (Operand.tmp 9), guard := none },
  { dst := some 20, op := SOp.idxA 16 1 (Operand.tmp 6) (Operand.tmp 19), guard := none },
  { dst := none, op := SOp.store 1 (Operand.tmp 20) (Operand.const (Value.bool true)), guard := none }]
def c68_r10 : List SIns := [
  { dst := some 21, op := SOp.mv (Operand.tmp 8), guard := none },
  { dst := some 22, op := SOp.mv (Operand.tmp 9), guard := none },
  { dst := some 23, op := SOp.mks 1 1 [Value.int (IntKind.i64) 0] [(0, 1, Operand.tmp 22)], guard := none },
  { dst := some 24, op := SOp.app 1 8 (Operand.tmp 21) (Operand.tmp 23), guard := none },
  { dst := some 8, op := SOp.mv (Operand.tmp 24), guard := none }]
def c68_r11 : List SIns := [
  { dst := some 25, op := SOp.mv (Operand.tmp 1), guard := none },
  { dst := some 26, op := SOp.mv (Operand.tmp 9), guard := none },
  { dst := some 27, op := SOp.callv (Operand.tmp 25) [Operand.tmp 26], guard := none },
  { dst := some 9, op := SOp.mv (Operand.tmp 27), guard := none }]
def c68_r12 : List SIns := [
  { dst := some 28, op := SOp.mv (Operand.tmp 9), guard := none },
  { dst := some 29, op := SOp.mv (Operand.tmp 7), guard := none },
  { dst := some 30, op := SOp.ib (BinOp.neq) (Operand.tmp 28) (Operand.tmp 29), guard := none }]
def c68_r13 : List SIns := [
  { dst := some 31, op := SOp.mv (Operand.tmp 5), guard := none },
  { dst := some 32, op := SOp.mv (Operand.tmp 8), guard := none },
  { dst := some 33, op := SOp.mks 1 1 [Value.slice none 0 0] [(0, 1, Operand.tmp 32)], guard := none },
  { dst := some 34, op := SOp.app 1 24 (Operand.tmp 31) (Operand.tmp 33), guard := none },
  { dst := some 5, op := SOp.mv (Operand.tmp 34), guard := none }]
def c68_l0 : SCode := (.block 1000000 (.seq (.seq (.reg c68_r9 [1, 5, 6, 7, 8, 9, 11, 12]) (.seq (.reg c68_r10 [1, 5, 6, 7, 8, 9, 11, 12]) (.seq (.seq (.reg c68_r11 [1, 5, 6, 7, 8, 9, 11, 12]) (.seq (.reg c68_r12 [1, 5, 6, 7, 8, 9, 11, 12, 30]) (.cond (Operand.tmp 30) (.exit 1000000) .skip))) (.reg c68_r13 [1, 5, 6, 11, 12])))) (.exit 1000001)))
def c68_r14 : List SIns := [
  { dst := some 35, op := SOp.ib (BinOp.add) (Operand.tmp 12) (Operand.const (Value.int (IntKind.i64) 1)), guard := none },
  { dst := some 12, op := SOp.mv (Operand.tmp 35), guard := none }]
def c68_l1 : SCode := (.seq (.reg c68_r4 [1, 5, 6, 11, 12, 13]) (.seq (.cond (Operand.tmp 13) .skip (.exit 0)) (.seq (.block 1 (.seq (.reg c68_r5 [1, 5, 6, 7, 11, 12]) (.seq (.seq (.reg c68_r6 [1, 5, 6, 7, 11, 12, 17]) (.cond (Operand.tmp 17) (.exit 1) .skip)) (.seq (.reg c68_r7 [1, 5, 6, 7, 8, 11, 12]) (.seq (.reg c68_r8 [1, 5, 6, 7, 8, 9, 11, 12]) (.block 1000001 (.loop c68_l0))))))) (.reg c68_r14 [1, 5, 6, 11, 12]))))
def c68_r15 : List SIns := [
  { dst := some 36, op := SOp.mv (Operand.tmp 5), guard := none },
  { dst := some 4, op := SOp.mv (Operand.tmp 36), guard := none }]
def c68 : SCode := (.seq (.reg c68_r0 [1, 2]) (.seq (.reg c68_r1 [1, 2, 5]) (.seq (.reg c68_r2 [1, 2, 5, 6]) (.seq (.seq (.reg c68_r3 [1, 5, 6, 11, 12]) (.block 0 (.loop c68_l1))) (.seq (.reg c68_r15 [4]) .ret)))))
theorem F68 : Fn Tryd.prog 68 c68 [SRes.tmp 4] 37 := ⟨Tryd.f68, Tryd.f68.body.getD .skip, [[1, 2], [1, 2, 5], [1, 2, 5, 6], [1, 5, 6, 11, 12], [1, 5, 6, 11, 12, 13], [1, 5, 6, 7, 11, 12], [1, 5, 6, 7, 11, 12, 17], [1, 5, 6, 7, 8, 11, 12], [1, 5, 6, 7, 8, 9, 11, 12], [1, 5, 6, 7, 8, 9, 11, 12], [1, 5, 6, 7, 8, 9, 11, 12], [1, 5, 6, 7, 8, 9, 11, 12], [1, 5, 6, 7, 8, 9, 11, 12, 30], [1, 5, 6, 11, 12], [1, 5, 6, 11, 12], [4]], Tryd.func68, by kernel_rfl, by kernel_rfl, by kernel_rfl, by kernel_rfl, by decide⟩

def c69_r0 : List SIns := [
  { dst := some 3, op := SOp.mv (Operand.const (Value.int (IntKind.i64) 0)), guard := none }]
def c69_r1 : List SIns := [
  { dst := some 4, op := SOp.mv (Operand.tmp 0), guard := none },
  { dst := some 5, op := SOp.idxA 16 1 (Operand.tmp 1) (Operand.tmp 4), guard := none },
  { dst := some 6, op := SOp.load1 (Operand.tmp 5), guard := none },
  { dst := some 3, op := SOp.mv (Operand.tmp 6), guard := none }]
def c69 : SCode := (.seq (.reg c69_r0 [0, 1]) (.seq (.reg c69_r1 [3]) .ret))
theorem F69 : Fn Tryd.prog 69 c69 [SRes.tmp 3] 7 := ⟨Tryd.f69, Tryd.f69.body.getD .skip, [[0, 1], [3]], Tryd.func69, by kernel_rfl, by kernel_rfl, by kernel_rfl, by kernel_rfl, by decide⟩

def c70_r0 : List SIns := [
  { dst := some 2, op := SOp.alloc [Value.int (IntKind.i64) 0, Value.int (IntKind.i64) 0, Value.int (IntKind.i64) 0, Value.int (IntKind.i64) 0, Value.int (IntKind.i64) 0, Value.int (IntKind.i64) 0, Value.int (IntKind.i64) 0, Value.int (IntKind.i64) 0, Value.int (IntKind.i64) 0, Value.int (IntKind.i64) 0, Value.int (IntKind.i64) 0, Value.int (IntKind.i64) 0, Value.int (IntKind.i64) 0, Value.int (IntKind.i64) 0, Value.int (IntKind.i64) 0, Value.int (IntKind.i64) 0, Value.int (IntKind.i64) 0, Value.int (IntKind.i64) 0, Value.int (IntKind.i64) 0, Value.int (IntKind.i64) 0, Value.int (IntKind.i64) 0, Value.int (IntKind.i64) 0, Value.int (IntKind.i64) 0, Value.int (IntKind.i64) 0, Value.int (IntKind.i64) 0, Value.int (IntKind.i64) 0, Value.int (IntKind.i64) 0, Value.int (IntKind.i64) 0, Value.int (IntKind.i64) 0, Value.int (IntKind.i64) 0, Value.int (IntKind.i64) 0, Value.int (IntKind.i64) 0, Value.int (IntKind.i64) 0, Value.int (IntKind.i64) 0], guard := none }]
def c70_r1 : List SIns := [
  { dst := some 3, op := SOp.alloc [Value.int (IntKind.i64) 0, Value.int (IntKind.i64) 0, Value.int (IntKind.i64) 0, Value.int (IntKind.i64) 0, Value.int (IntKind.i64) 0, Value.int (IntKind.i64) 0, Value.int (IntKind.i64) 0, Value.int (IntKind.i64) 0, Value.int (IntKind.i64) 0, Value.int (IntKind.i64) 0, Value.int (IntKind.i64) 0, Value.int (IntKind.i64) 0, Value.int (IntKind.i64) 0, Value.int (IntKind.i64) 0, Value.int (IntKind.i64) 0, Value.int (IntKind.i64) 0, Value.int (IntKind.i64) 0, Value.int (IntKind.i64) 0, Value.int (IntKind.i64) 0, Value.int (IntKind.i64) 0, Value.int (IntKind.i64) 0, Value.int (IntKind.i64) 0, Value.int (IntKind.i64) 0, Value.int (IntKind.i64) 0, Value.int (IntKind.i64) 0, Value.int (IntKind.i64) 0, Value.int (IntKind.i64) 0, Value.int (IntKind.i64) 0, Value.int (IntKind.i64) 0, Value.int (IntKind.i64) 0, Value.int (IntKind.i64) 0, Value.int (IntKind.i64) 0, Value.int (IntKind.i64) 0, Value.int (IntKind.i64) 0], guard := none }]
def c70_r2 : List SIns := [
  { dst := some 8, op := SOp.mv (Operand.tmp 0), guard := none },
  { dst := some 9, op := SOp.lenSl (Operand.tmp 8), guard := none },
  { dst := some 10, op := SOp.mv (Operand.const (Value.int (IntKind.i64) 0)), guard := none }]
def c70_r3 : List SIns := [
  { dst := some 11, op := SOp.ib (BinOp.lss) (Operand.tmp 10) (Operand.tmp 9), guard := none }]
def c70_r4 : List SIns := [
  { dst := some 12, op := SOp.idx 1 (Operand.tmp 8) (Operand.tmp 10), guard := none },
  { dst := some 13, op := SOp.load1 (Operand.tmp 12), guard := none },
  { dst := some 5, op := SOp.mv (Operand.tmp 13), guard := none }]
def c70_r5 : List SIns := [
  { dst := some 14, op := SOp.mv (Operand.tmp 5), guard := none },
  { dst := some 15, op := SOp.lenSl (Operand.tmp 14), guard := none },
  { dst := some 16, op := SOp.ib (BinOp.eql) (Operand.tmp 15) (Operand.const (Value.int (IntKind.i64) 0)), guard := none }]
def c70_r6 : List SIns := [
  { dst := some 17, op := SOp.mv (Operand.tmp 5), guard := none },
  { dst := some 18, op := SOp.lenSl (Operand.tmp 17), guard := none },
  { dst := some 19, op := SOp.mv (Operand.const (Value.int (IntKind.i64) 0)), guard := none }]
def c70_r7 : List SIns := [
  { dst := some 20, op := SOp.ib (BinOp.lss) (Operand.tmp 19) (Operand.tmp 18), guard := none }]
def c70_r8 : List SIns := [
  { dst := some 21, op := SOp.mv (Operand.tmp 19), guard := none },
  { dst := some 22, op := SOp.idx 1 (Operand.tmp 17) (Operand.tmp 19), guard := none },
  { dst := some 23, op := SOp.load1 (Operand.tmp 22), guard := none },
  { dst := some 6, op := SOp.mv (Operand.tmp 21), guard := none },
  { dst := some 7, op := SOp.mv (Operand.tmp 23), guard := none }]
def c70_r9 : List SIns := [
  { dst := some 24, op := SOp.mv (Operand.tmp 7), guard := none },
  { dst := some 25, op := SOp.mv (Operand.tmp 5), guard := none },
  { dst := some 26, op := SOp.mv (Operand.tmp 6), guard := none },
  { dst := some 27, op := SOp.ib (BinOp.add) (Operand.tmp 26) (Operand.const (Value.int (IntKind.i64) 1)), guard := none },
  { dst := some 28, op := SOp.mv (Operand.tmp 5), guard := none },
  { dst := some 29, op := SOp.lenSl (Operand.tmp 28), guard := none },
  { dst := some 30, op := SOp.ib (BinOp.rem) (Operand.tmp 27) (Operand.tmp 29), guard := none },
  { dst := some 31, op := SOp.idx 1 (Operand.tmp 25) (Operand.tmp 30), guard := none },
  { dst := some 32, op := SOp.load1 (Operand.tmp 31), guard := none },
  { dst := some 33, op := SOp.off 1 (Operand.tmp 3), guard := none },
  { dst := some 34, op := SOp.idxA 16 1 (Operand.tmp 33) (Operand.tmp 24), guard := none },
  { dst := none, op := SOp.store 1 (Operand.tmp 34) (Operand.tmp 32), guard := none }]
def c70_r10 : List SIns := [
  { dst := some 35, op := SOp.mv (Operand.tmp 7), guard := none },
  { dst := some 36, op := SOp.off 33 (Operand.tmp 3), guard := none },
  { dst := some 37, op := SOp.load1 (Operand.tmp 36), guard := none },
  { dst := some 38, op := SOp.off 17 (Operand.tmp 3), guard := none },
  { dst := some 39, op := SOp.idxA 16 1 (Operand.tmp 38) (Operand.tmp 35), guard := none },
  { dst := none, op := SOp.store 1 (Operand.tmp 39) (Operand.tmp 37), guard := none }]
def c70_r11 : List SIns := [
  { dst := some 40, op := SOp.ib (BinOp.add) (Operand.tmp 19) (Operand.const (Value.int (IntKind.i64) 1)), guard := none },
  { dst := some 19, op := SOp.mv (Operand.tmp 40), guard := none }]
def c70_l0 : SCode := (.seq (.reg c70_r7 [2, 3, 5, 8, 9, 10, 17, 18, 19, 20]) (.seq (.cond (Operand.tmp 20) .skip (.exit 2)) (.seq (.block 3 (.seq (.reg c70_r8 [2, 3, 5, 6, 7, 8, 9, 10, 17, 18, 19]) (.seq (.reg c70_r9 [2, 3, 5, 7, 8, 9, 10, 17, 18, 19]) (.reg c70_r10 [2, 3, 5, 8, 9, 10, 17, 18, 19])))) (.reg c70_r11 [2, 3, 5, 8, 9, 10, 17, 18, 19]))))
def c70_r12 : List SIns := [
  { dst := some 41, op := SOp.off 0 (Operand.tmp 3), guard := none },
  { dst := some 42, op := SOp.load1 (Operand.tmp 41), guard := none },
  { dst := some 43, op := SOp.mv (Operand.tmp 5), guard := none },
  { dst := some 44, op := SOp.lenSl (Operand.tmp 43), guard := none },
  { dst := some 45, op := SOp.ib (BinOp.add) (Operand.tmp 42) (Operand.tmp 44), guard := none },
  { dst := some 46, op := SOp.off 0 (Operand.tmp 3), guard := none },
  { dst := none, op := SOp.store 1 (Operand.tmp 46) (Operand.tmp 45), guard := none }]
def c70_r13 : List SIns := [
  { dst := some 47, op := SOp.off 33 (Operand.tmp 3), guard := none },
  { dst := some 48, op := SOp.load1 (Operand.tmp 47), guard := none },
  { dst := some 49, op := SOp.ib (BinOp.add) (Operand.tmp 48) (Operand.const (Value.int (IntKind.i64) 1)), guard := none },
  { dst := some 50, op := SOp.off 33 (Operand.tmp 3), guard := none },
  { dst := none, op := SOp.store 1 (Operand.tmp 50) (Operand.tmp 49), guard := none }]
def c70_r14 : List SIns := [
  { dst := some 51, op := SOp.ib (BinOp.add) (Operand.tmp 10) (Operand.const (Value.int (IntKind.i64) 1)), guard := none },
  { dst := some 10, op := SOp.mv (Operand.tmp 51), guard := none }]
def c70_l1 : SCode := (.seq (.reg c70_r3 [2, 3, 8, 9, 10, 11]) (.seq (.cond (Operand.tmp 11) .skip (.exit 0)) (.seq (.block 1 (.seq (.reg c70_r4 [2, 3, 5, 8, 9, 10]) (.seq (.seq (.reg c70_r5 [2, 3, 5, 8, 9, 10, 16]) (.cond (Operand.tmp 16) (.exit 1) .skip)) (.seq (.seq (.reg c70_r6 [2, 3, 5, 8, 9, 10, 17, 18, 19]) (.block 2 (.loop c70_l0))) (.seq (.reg c70_r12 [2, 3, 8, 9, 10]) (.reg c70_r13 [2, 3, 8, 9, 10])))))) (.reg c70_r14 [2, 3, 8, 9, 10]))))
def c70_r15 : List SIns := [
  { dst := some 52, op := SOp.loadN 34 (Operand.tmp 3), guard := none },
  { dst := none, op := SOp.store 34 (Operand.tmp 2) (Operand.tmp 52), guard := none }]
def c70 : SCode := (.seq (.reg c70_r0 [0, 2]) (.seq (.reg c70_r1 [0, 2, 3]) (.seq (.seq (.reg c70_r2 [2, 3, 8, 9, 10]) (.block 0 (.loop c70_l1))) (.seq (.reg c70_r15 [2]) .ret))))
theorem F70 : Fn Tryd.prog 70 c70 [SRes.cell 2 (some 34)] 53 := ⟨Tryd.f70, Tryd.f70.body.getD .skip, [[0, 2], [0, 2, 3], [2, 3, 8, 9, 10], [2, 3, 8, 9, 10, 11], [2, 3, 5, 8, 9, 10], [2, 3, 5, 8, 9, 10, 16], [2, 3, 5, 8, 9, 10, 17, 18, 19], [2, 3, 5, 8, 9, 10, 17, 18, 19, 20], [2, 3, 5, 6, 7, 8, 9, 10, 17, 18, 19], [2, 3, 5, 7, 8, 9, 10, 17, 18, 19], [2, 3, 5, 8, 9, 10, 17, 18, 19], [2, 3, 5, 8, 9, 10, 17, 18, 19], [2, 3, 8, 9, 10], [2, 3, 8, 9, 10], [2, 3, 8, 9, 10], [2]], Tryd.func70, by kernel_rfl, by kernel_rfl, by kernel_rfl, by kernel_rfl, by decide⟩

def c71_r0 : List SIns := [
  { dst := some 2, op := SOp.box (Operand.tmp 0), guard := none },
  { dst := some 4, op := SOp.mv (Operand.const (Value.int (IntKind.i64) 0)), guard := none }]
def c71_r1 : List SIns := [
  { dst := some 5, op := SOp.mv (Operand.tmp 1), guard := none },
  { dst := some 6, op := SOp.off 1 (Operand.tmp 2), guard := none },
  { dst := some 7, op := SOp.idxA 16 1 (Operand.tmp 6) (Operand.tmp 5), guard := none },
  { dst := some 8, op := SOp.load1 (Operand.tmp 7), guard := none },
  { dst := some 4, op := SOp.mv (Operand.tmp 8), guard := none }]
def c71 : SCode := (.seq (.reg c71_r0 [1, 2]) (.seq (.reg c71_r1 [4]) .ret))
theorem F71 : Fn Tryd.prog 71 c71 [SRes.tmp 4] 9 := ⟨Tryd.f71, Tryd.f71.body.getD .skip, [[1, 2], [4]], Tryd.func71, by kernel_rfl, by kernel_rfl, by kernel_rfl, by kernel_rfl, by decide⟩

def c73_r0 : List SIns := [
  { dst := some 4, op := SOp.mv (Operand.const (Value.bool false)), guard := none }]
def c73_r1 : List SIns := [
  { dst := some 5, op := SOp.mv (Operand.tmp 0), guard := none },
  { dst := some 6, op := SOp.mv (Operand.tmp 1), guard := none },
  { dst := some 7, op := SOp.call 99 [Operand.tmp 5, Operand.tmp 6], guard := none },
  { dst := some 8, op := SOp.ib (BinOp.geq) (Operand.tmp 7) (Operand.const (Value.int (IntKind.i64) 0)), guard := none },
  { dst := some 4, op := SOp.mv (Operand.tmp 8), guard := none }]
def c73 : SCode := (.seq (.reg c73_r0 [0, 1]) (.seq (.reg c73_r1 [4]) .ret))
theorem F73 : Fn Tryd.prog 73 c73 [SRes.tmp 4] 9 := ⟨Tryd.f73, Tryd.f73.body.getD .skip, [[0, 1], [4]], Tryd.func73, by kernel_rfl, by kernel_rfl, by kernel_rfl, by kernel_rfl, by decide⟩

def c74_r0 : List SIns := [
  { dst := some 2, op := SOp.mv (Operand.const (Value.bool false)), guard := none }]
def c74_r1 : List SIns := [
  { dst := some 3, op := SOp.mv (Operand.tmp 0), guard := none },
  { dst := some 4, op := SOp.ib (BinOp.lss) (Operand.tmp 3) (Operand.const (Value.int (IntKind.i64) 0)), guard := none },
  { dst := some 2, op := SOp.mv (Operand.tmp 4), guard := none }]
def c74 : SCode := (.seq (.reg c74_r0 [0]) (.seq (.reg c74_r1 [2]) .ret))
theorem F74 : Fn Tryd.prog 74 c74 [SRes.tmp 2] 5 := ⟨Tryd.f74, Tryd.f74.body.getD .skip, [[0], [2]], Tryd.func74, by kernel_rfl, by kernel_rfl, by kernel_rfl, by kernel_rfl, by decide⟩

def c76_r0 : List SIns := [
  { dst := some 1, op := SOp.box (Operand.tmp 0), guard := none },
  { dst := some 2, op := SOp.mv (Operand.const (Value.slice none 0 0)), guard := none },
  { dst := some 3, op := SOp.mv (Operand.const (Value.int (IntKind.i64) 0)), guard := none },
  { dst := some 4, op := SOp.mv (Operand.const (Value.int (IntKind.i64) 0)), guard := none }]
def c76_r1 : List SIns := [
  { dst := some 10, op := SOp.loadN 1 (Operand.tmp 1), guard := none },
  { dst := some 11, op := SOp.call 67 [Operand.tmp 10], guard := none },
  { dst := some 9, op := SOp.mv (Operand.tmp 11), guard := none },
  { dst := some 12, op := SOp.ext (Operand.tmp 9) 0, guard := none },
  { dst := some 13, op := SOp.ext (Operand.tmp 9) 1, guard := none },
  { dst := some 5, op := SOp.alloc [Value.int (IntKind.i64) 0, Value.int (IntKind.i64) 0, Value.int (IntKind.i64) 0, Value.int (IntKind.i64) 0, Value.int (IntKind.i64) 0, Value.int (IntKind.i64) 0, Value.int (IntKind.i64) 0, Value.int (IntKind.i64) 0, Value.int (IntKind.i64) 0, Value.int (IntKind.i64) 0, Value.int (IntKind.i64) 0, Value.int (IntKind.i64) 0, Value.int (IntKind.i64) 0, Value.int (IntKind.i64) 0, Value.int (IntKind.i64) 0, Value.int (IntKind.i64) 0, Value.int (IntKind.i64) 0, Value.int (IntKind.i64) 0, Value.int (IntKind.i64) 0, Value.int (IntKind.i64) 0, Value.int (IntKind.i64) 0, Value.int (IntKind.i64) 0, Value.int (IntKind.i64) 0, Value.int (IntKind.i64) 0, Value.int (IntKind.i64) 0, Value.int (IntKind.i64) 0, Value.int (IntKind.i64) 0, Value.int (IntKind.i64) 0, Value.int (IntKind.i64) 0, Value.int (IntKind.i64) 0, Value.int (IntKind.i64) 0, Value.int (IntKind.i64) 0, Value.int (IntKind.i64) 0, Value.int (IntKind.i64) 0], guard := none },
  { dst := none, op := SOp.store 34 (Operand.tmp 5) (Operand.tmp 12), guard := none },
  { dst := some 6, op := SOp.mv (Operand.tmp 13), guard := none }]
def c76_r2 : List SIns := [
  { dst := some 15, op := SOp.mv (Operand.tmp 6), guard := none },
  { dst := some 16, op := SOp.ib (BinOp.neq) (Operand.tmp 15) (Operand.const (Value.int (IntKind.i64) 0)), guard := none },
  { dst := some 14, op := SOp.mv (Operand.tmp 16), guard := none }]
def c76_r3 : List SIns := [
  { dst := some 17, op := SOp.mv (Operand.tmp 6), guard := none },
  { dst := some 2, op := SOp.mv (Operand.const (Value.slice none 0 0)), guard := none },
  { dst := some 3, op := SOp.mv (Operand.const (Value.int (IntKind.i64) 0)), guard := none },
  { dst := some 4, op := SOp.mv (Operand.tmp 17), guard := none }]
def c76_r4 : List SIns := [
  { dst := some 19, op := SOp.loadN 34 (Operand.tmp 5), guard := none },
  { dst := some 20, op := SOp.call 79 [Operand.tmp 19], guard := none },
  { dst := some 18, op := SOp.mv (Operand.tmp 20), guard := none }]
def c76_r5 : List SIns := [
  { dst := some 2, op := SOp.mv (Operand.const (Value.slice none 0 0)), guard := none },
  { dst := some 3, op := SOp.mv (Operand.const (Value.int (IntKind.i64) 0)), guard := none },
  { dst := some 4, op := SOp.mv (Operand.const (Value.int (IntKind.i64) 12)), guard := none }]
def c76_r6 : List SIns := [
  { dst := some 22, op := SOp.off 33 (Operand.tmp 5), guard := none },
  { dst := some 23, op := SOp.load1 (Operand.tmp 22), guard := none },
  { dst := some 24, op := SOp.ib (BinOp.eql) (Operand.tmp 23) (Operand.const (Value.int (IntKind.i64) 0)), guard := none },
  { dst := some 21, op := SOp.mv (Operand.tmp 24), guard := none }]
def c76_r7 : List SIns := [
  { dst := some 2, op := SOp.mv (Operand.const (Value.slice none 0 0)), guard := none },
  { dst := some 3, op := SOp.mv (Operand.const (Value.int (IntKind.i64) 0)), guard := none },
  { dst := some 4, op := SOp.mv (Operand.const (Value.int (IntKind.i64) 0)), guard := none }]
def c76_r8 : List SIns := [
  { dst := some 7, op := SOp.mv (Operand.const (Value.int (IntKind.i64) 1)), guard := none }]
def c76_r9 : List SIns := [
  { dst := some 27, op := SOp.loadN 34 (Operand.tmp 5), guard := none },
  { dst := some 28, op := SOp.mv (Operand.tmp 7), guard := none },
  { dst := some 29, op := SOp.call 100 [Operand.tmp 27, Operand.tmp 28], guard := none },
  { dst := some 8, op := SOp.mv (Operand.tmp 29), guard := none }]
def c76_r10 : List SIns := [
  { dst := some 30, op := SOp.mv (Operand.tmp 8), guard := none },
  { dst := some 31, op := SOp.eqn true (TypeDesc.slice 3) (Operand.tmp 30), guard := none }]
def c76_r11 : List SIns := [
  { dst := some 32, op := SOp.mv (Operand.tmp 8), guard := none },
  { dst := some 33, op := SOp.mv (Operand.tmp 7), guard := none },
  { dst := some 2, op := SOp.mv (Operand.tmp 32), guard := none },
  { dst := some 3, op := SOp.mv (Operand.tmp 33), guard := none },
  { dst := some 4, op := SOp.mv (Operand.const (Value.int (IntKind.i64) 0)), guard := none }]
def c76_r12 : List SIns := [
  { dst := some 25, op := SOp.mv (Operand.tmp 7), guard := none },
  { dst := some 26, op := SOp.ib (BinOp.add) (Operand.tmp 25) (Operand.const (Value.int (IntKind.i64) 1)), guard := none },
  { dst := some 7, op := SOp.mv (Operand.tmp 26), guard := none }]
def c76_l0 : SCode := (.seq (.block 2 (.seq (.reg c76_r9 [5, 7, 8]) (.seq (.reg c76_r10 [5, 7, 8, 31]) (.cond (Operand.tmp 31) (.seq (.reg c76_r11 [2, 3, 4]) .ret) .skip)))) (.reg c76_r12 [5, 7]))
def c76 : SCode := (.seq (.reg c76_r0 [1]) (.seq (.reg c76_r1 [5, 6]) (.seq (.block 0 (.seq (.reg c76_r2 [5, 6, 14]) (.cond (Operand.tmp 14) (.seq (.reg c76_r3 [2, 3, 4]) .ret) (.seq (.reg c76_r4 [5, 18]) (.cond (Operand.tmp 18) (.seq (.reg c76_r5 [2, 3, 4]) .ret) (.seq (.reg c76_r6 [5, 21]) (.cond (Operand.tmp 21) (.seq (.reg c76_r7 [2, 3, 4]) .ret) .skip))))))) (.seq (.reg c76_r8 [5, 7]) (.block 1 (.loop c76_l0))))))
theorem F76 : Fn Tryd.prog 76 c76 [SRes.tmp 2, SRes.tmp 3, SRes.tmp 4] 34 := ⟨Tryd.f76, Tryd.f76.body.getD .skip, [[1], [5, 6], [5, 6, 14], [2, 3, 4], [5, 18], [2, 3, 4], [5, 21], [2, 3, 4], [5, 7], [5, 7, 8], [5, 7, 8, 31], [2, 3, 4], [5, 7]], Tryd.func76, by kernel_rfl, by kernel_rfl, by kernel_rfl, by kernel_rfl, by decide⟩

def c79_r0 : List SIns := [
  { dst := some 1, op := SOp.box (Operand.tmp 0), guard := none },
  { dst := some 2, op := SOp.mv (Operand.const (Value.bool false)), guard := none }]
def c79_r1 : List SIns := [
  { dst := some 5, op := SOp.loadN 34 (Operand.tmp 1), guard := none },
  { dst := some 6, op := SOp.call 80 [Operand.tmp 5], guard := none },
  { dst := some 7, op := SOp.lenSl (Operand.tmp 6), guard := none },
  { dst := some 8, op := SOp.mv (Operand.const (Value.int (IntKind.i64) 0)), guard := none }]
def c79_r2 : List SIns := [
  { dst := some 9, op := SOp.ib (BinOp.lss) (Operand.tmp 8) (Operand.tmp 7), guard := none }]
def c79_r3 : List SIns := [
  { dst := some 10, op := SOp.mv (Operand.tmp 8), guard := none },
  { dst := some 11, op := SOp.idx 1 (Operand.tmp 6) (Operand.tmp 8), guard := none },
  { dst := some 12, op := SOp.load1 (Operand.tmp 11), guard := none },
  { dst := some 3, op := SOp.mv (Operand.tmp 10), guard := none },
  { dst := some 4, op := SOp.mv (Operand.tmp 12), guard := none }]
def c79_r4 : List SIns := [
  { dst := some 13, op := SOp.mv (Operand.tmp 4), guard := none },
  { dst := some 14, op := SOp.mv (Operand.tmp 3), guard := none },
  { dst := some 15, op := SOp.bin (BinOp.shr) 65 (Operand.tmp 13) (Operand.tmp 14), guard := none },
  { dst := some 16, op := SOp.bin (BinOp.and) 65 (Operand.tmp 15) (Operand.const (Value.int (IntKind.u32) 1)), guard := none },
  { dst := some 17, op := SOp.ib (BinOp.eql) (Operand.tmp 16) (Operand.const (Value.int (IntKind.u32) 1)), guard := none }]
def c79_r5 : List SIns := [
  { dst := some 2, op := SOp.mv (Operand.const (Value.bool true)), guard := none }]
def c79_r6 : List SIns := [
  { dst := some 18, op := SOp.ib (BinOp.add) (Operand.tmp 8) (Operand.const (Value.int (IntKind.i64) 1)), guard := none },
  { dst := some 8, op := SOp.mv (Operand.tmp 18), guard := none }]
def c79_l0 : SCode := (.seq (.reg c79_r2 [6, 7, 8, 9]) (.seq (.cond (Operand.tmp 9) .skip (.exit 0)) (.seq (.block 1 (.seq (.reg c79_r3 [3, 4, 6, 7, 8]) (.seq (.reg c79_r4 [6, 7, 8, 17]) (.cond (Operand.tmp 17) (.seq (.reg c79_r5 [2]) .ret) .skip)))) (.reg c79_r6 [6, 7, 8]))))
def c79_r7 : List SIns := [
  { dst := some 2, op := SOp.mv (Operand.const (Value.bool false)), guard := none }]
def c79 : SCode := (.seq (.reg c79_r0 [1]) (.seq (.seq (.reg c79_r1 [6, 7, 8]) (.block 0 (.loop c79_l0))) (.seq (.reg c79_r7 [2]) .ret)))
theorem F79 : Fn Tryd.prog 79 c79 [SRes.tmp 2] 19 := ⟨Tryd.f79, Tryd.f79.body.getD .skip, [[1], [6, 7, 8], [6, 7, 8, 9], [3, 4, 6, 7, 8], [6, 7, 8, 17], [2], [6, 7, 8], [2]], Tryd.func79, by kernel_rfl, by kernel_rfl, by kernel_rfl, by kernel_rfl, by decide⟩

def c80_r0 : List SIns := [
  { dst := some 1, op := SOp.box (Operand.tmp 0), guard := none },
  { dst := some 2, op := SOp.mv (Operand.const (Value.slice none 0 0)), guard := none }]
def c80_r1 : List SIns := [
  { dst := some 5, op := SOp.off 33 (Operand.tmp 1), guard := none },
  { dst := some 6, op := SOp.load1 (Operand.tmp 5), guard := none },
  { dst := some 7, op := SOp.mk 4 (Value.int (IntKind.u32) 0) (Operand.tmp 6) (Operand.tmp 6), guard := none },
  { dst := some 3, op := SOp.mv (Operand.tmp 7), guard := none }]
def c80_r2 : List SIns := [
  { dst := some 8, op := SOp.off 0 (Operand.tmp 1), guard := none },
  { dst := some 9, op := SOp.load1 (Operand.tmp 8), guard := none },
  { dst := some 10, op := SOp.mv (Operand.const (Value.int (IntKind.i64) 0)), guard := none }]
def c80_r3 : List SIns := [
  { dst := some 11, op := SOp.ib (BinOp.lss) (Operand.tmp 10) (Operand.tmp 9), guard := none }]
def c80_r4 : List SIns := [
  { dst := some 12, op := SOp.mv (Operand.tmp 10), guard := none },
  { dst := some 4, op := SOp.mv (Operand.tmp 12), guard := none }]
def c80_r5 : List SIns := [
  { dst := some 13, op := SOp.mv (Operand.tmp 3), guard := none },
  { dst := some 14, op := SOp.mv (Operand.tmp 4), guard := none },
  { dst := some 15, op := SOp.off 17 (Operand.tmp 1), guard := none },
  { dst := some 16, op := SOp.idxA 16 1 (Operand.tmp 15) (Operand.tmp 14), guard := none },
  { dst := some 17, op := SOp.load1 (Operand.tmp 16), guard := none },
  { dst := some 18, op := SOp.idx 1 (Operand.tmp 13) (Operand.tmp 17), guard := none },
  { dst := some 19, op := SOp.load1 (Operand.tmp 18), guard := none },
  { dst := some 20, op := SOp.mv (Operand.tmp 4), guard := none },
  { dst := some 21, op := SOp.idxA 16 1 (Operand.global 0) (Operand.tmp 20), guard := none },
  { dst := some 22, op := SOp.load1 (Operand.tmp 21), guard := none },
  { dst := some 23, op := SOp.off 17 (Operand.tmp 1), guard := none },
  { dst := some 24, op := SOp.idxA 16 1 (Operand.tmp 23) (Operand.tmp 22), guard := none },
  { dst := some 25, op := SOp.load1 (Operand.tmp 24), guard := none },
  { dst := some 26, op := SOp.bin (BinOp.shl) 65 (Operand.const (Value.int (IntKind.u32) 1)) (Operand.tmp 25), guard := none },
  { dst := some 27, op := SOp.bin (BinOp.or) 65 (Operand.tmp 19) (Operand.tmp 26), guard := none },
  { dst := some 28, op := SOp.idx 1 (Operand.tmp 13) (Operand.tmp 17), guard := none },
  { dst := none, op := SOp.store 1 (Operand.tmp 28) (Operand.tmp 27), guard := none }]
def c80_r6 : List SIns := [
  { dst := some 29, op := SOp.ib (BinOp.add) (Operand.tmp 10) (Operand.const (Value.int (IntKind.i64) 1)), guard := none },
  { dst := some 10, op := SOp.mv (Operand.tmp 29), guard := none }]
def c80_l0 : SCode := (.seq (.reg c80_r3 [1, 3, 9, 10, 11]) (.seq (.cond (Operand.tmp 11) .skip (.exit 0)) (.seq (.block 1 (.seq (.reg c80_r4 [1, 3, 4, 9, 10]) (.draw c80_r5 [[], [], [], [2, 1], [3, 2, 1], [0, 4, 3, 2, 1], [5, 0, 4, 3, 2, 1], [], [7], [8, 7], [], [10, 9, 8, 7], [11, 10, 9, 8, 7], [12, 11, 10, 9, 8, 7], [6, 13, 5, 0, 4, 3, 2, 1, 12, 11, 10, 9, 8, 7], [14, 6, 13, 5, 0, 4, 3, 2, 1, 12, 11, 10, 9, 8, 7], [15, 14, 6, 13, 5, 0, 4, 3, 2, 1, 12, 11, 10, 9, 8, 7]] [1, 3, 9, 10]))) (.reg c80_r6 [1, 3, 9, 10]))))
def c80_r7 : List SIns := [
  { dst := some 30, op := SOp.mv (Operand.tmp 3), guard := none },
  { dst := some 2, op := SOp.mv (Operand.tmp 30), guard := none }]
def c80 : SCode := (.seq (.reg c80_r0 [1]) (.seq (.reg c80_r1 [1, 3]) (.seq (.seq (.reg c80_r2 [1, 3, 9, 10]) (.block 0 (.loop c80_l0))) (.seq (.reg c80_r7 [2]) .ret))))
theorem F80 : Fn Tryd.prog 80 c80 [SRes.tmp 2] 31 := ⟨Tryd.f80, Tryd.f80.body.getD .skip, [[1], [1, 3], [1, 3, 9, 10], [1, 3, 9, 10, 11], [1, 3, 4, 9, 10], [1, 3, 9, 10], [1, 3, 9, 10], [2]], Tryd.func80, by kernel_rfl, by kernel_rfl, by kernel_rfl, by kernel_rfl, by decide⟩

def c81_r0 : List SIns := [
  { dst := some 9, op := SOp.mv (Operand.const (Value.bool false)), guard := none }]
def c81_r1 : List SIns := [
  { dst := some 12, op := SOp.mv (Operand.tmp 0), guard := none },
  { dst := some 13, op := SOp.lenSl (Operand.tmp 12), guard := none },
  { dst := some 10, op := SOp.mv (Operand.tmp 13), guard := none }]
def c81_r2 : List SIns := [
  { dst := some 14, op := SOp.mv (Operand.tmp 10), guard := none },
  { dst := some 15, op := SOp.load1 (Operand.tmp 2), guard := none },
  { dst := some 16, op := SOp.ib (BinOp.eql) (Operand.tmp 14) (Operand.tmp 15), guard := none }]
def c81_r3 : List SIns := [
  { dst := some 17, op := SOp.mv (Operand.tmp 0), guard := none },
  { dst := none, op := SOp.store 1 (Operand.tmp 3) (Operand.tmp 17), guard := none }]
def c81_r4 : List SIns := [
  { dst := some 18, op := SOp.load1 (Operand.tmp 4), guard := none },
  { dst := some 19, op := SOp.mv (Operand.tmp 0), guard := none },
  { dst := some 20, op := SOp.idx 1 (Operand.tmp 19) (Operand.const (Value.int (IntKind.i64) 0)), guard := none },
  { dst := some 21, op := SOp.load1 (Operand.tmp 20), guard := none },
  { dst := some 22, op := SOp.idx 1 (Operand.tmp 18) (Operand.tmp 21), guard := none },
  { dst := some 23, op := SOp.load1 (Operand.tmp 22), guard := none },
  { dst := some 24, op := SOp.mv (Operand.tmp 0), guard := none },
  { dst := some 25, op := SOp.mv (Operand.tmp 10), guard := none },
  { dst := some 26, op := SOp.ib (BinOp.sub) (Operand.tmp 25) (Operand.const (Value.int (IntKind.i64) 1)), guard := none },
  { dst := some 27, op := SOp.idx 1 (Operand.tmp 24) (Operand.tmp 26), guard := none },
  { dst := some 28, op := SOp.load1 (Operand.tmp 27), guard := none },
  { dst := some 29, op := SOp.bin (BinOp.shr) 65 (Operand.tmp 23) (Operand.tmp 28), guard := none },
  { dst := some 30, op := SOp.bin (BinOp.and) 65 (Operand.tmp 29) (Operand.const (Value.int (IntKind.u32) 1)), guard := none },
  { dst := some 31, op := SOp.ib (BinOp.eql) (Operand.tmp 30) (Operand.const (Value.int (IntKind.u32) 1)), guard := none },
  { dst := some 9, op := SOp.mv (Operand.tmp 31), guard := none }]
def c81_r5 : List SIns := [
  { dst := some 32, op := SOp.off 33 (Operand.tmp 5), guard := none },
  { dst := some 33, op := SOp.load1 (Operand.tmp 32), guard := none },
  { dst := some 34, op := SOp.mv (Operand.const (Value.int (IntKind.i64) 0)), guard := none }]
def c81_r6 : List SIns := [
  { dst := some 35, op := SOp.ib (BinOp.lss) (Operand.tmp 34) (Operand.tmp 33), guard := none }]
def c81_r7 : List SIns := [
  { dst := some 36, op := SOp.mv (Operand.tmp 34), guard := none },
  { dst := some 11, op := SOp.mv (Operand.tmp 36), guard := none }]
def c81_r8 : List SIns := [
  { dst := some 37, op := SOp.mv (Operand.tmp 1), guard := none },
  { dst := some 38, op := SOp.mv (Operand.tmp 11), guard := none },
  { dst := some 39, op := SOp.bin (BinOp.shr) 65 (Operand.tmp 37) (Operand.tmp 38), guard := none },
  { dst := some 40, op := SOp.bin (BinOp.and) 65 (Operand.tmp 39) (Operand.const (Value.int (IntKind.u32) 1)), guard := none },
  { dst := some 41, op := SOp.ib (BinOp.eql) (Operand.tmp 40) (Operand.const (Value.int (IntKind.u32) 0)), guard := none },
  { dst := some 42, op := SOp.mv (Operand.tmp 41), guard := none },
  { dst := some 43, op := SOp.mv (Operand.tmp 10), guard := some (42, true) },
  { dst := some 44, op := SOp.ib (BinOp.eql) (Operand.tmp 43) (Operand.const (Value.int (IntKind.i64) 0)), guard := some (42, true) },
  { dst := some 45, op := SOp.mv (Operand.tmp 44), guard := some (42, true) },
  { dst := some 46, op := SOp.load1 (Operand.tmp 4), guard := some (45, false) },
  { dst := some 47, op := SOp.mv (Operand.tmp 0), guard := some (45, false) },
  { dst := some 48, op := SOp.mv (Operand.tmp 10), guard := some (45, false) },
  { dst := some 49, op := SOp.ib (BinOp.sub) (Operand.tmp 48) (Operand.const (Value.int (IntKind.i64) 1)), guard := some (45, false) },
  { dst := some 50, op := SOp.idx 1 (Operand.tmp 47) (Operand.tmp 49), guard := some (45, false) },
  { dst := some 51, op := SOp.load1 (Operand.tmp 50), guard := some (45, false) },
  { dst := some 52, op := SOp.idx 1 (Operand.tmp 46) (Operand.tmp 51), guard := some (45, false) },
  { dst := some 53, op := SOp.load1 (Operand.tmp 52), guard := some (45, false) },
  { dst := some 54, op := SOp.mv (Operand.tmp 11), guard := some (45, false) },
  { dst := some 55, op := SOp.bin (BinOp.shr) 65 (Operand.tmp 53) (Operand.tmp 54), guard := some (45, false) },
  { dst := some 56, op := SOp.bin (BinOp.and) 65 (Operand.tmp 55) (Operand.const (Value.int (IntKind.u32) 1)), guard := some (45, false) },
  { dst := some 57, op := SOp.ib (BinOp.eql) (Operand.tmp 56) (Operand.const (Value.int (IntKind.u32) 1)), guard := some (45, false) },
  { dst := some 58, op := SOp.pick (Operand.tmp 45) (Operand.const (Value.bool true)) (Operand.tmp 57), guard := some (42, true) },
  { dst := some 59, op := SOp.pick (Operand.tmp 42) (Operand.tmp 58) (Operand.const (Value.bool false)), guard := none },
  { dst := some 60, op := SOp.mv (Operand.tmp 59), guard := none },
  { dst := some 61, op := SOp.load1 (Operand.tmp 6), guard := some (60, true) },
  { dst := some 62, op := SOp.mv (Operand.tmp 0), guard := some (60, true) },
  { dst := some 63, op := SOp.call 82 [Operand.tmp 62], guard := some (60, true) },
  { dst := some 64, op := SOp.mv (Operand.tmp 11), guard := some (60, true) },
  { dst := some 65, op := SOp.mks 1 1 [Value.int (IntKind.i64) 0] [(0, 1, Operand.tmp 64)], guard := some (60, true) },
  { dst := some 66, op := SOp.app 1 8 (Operand.tmp 63) (Operand.tmp 65), guard := some (60, true) },
  { dst := some 67, op := SOp.mv (Operand.tmp 1), guard := some (60, true) },
  { dst := some 68, op := SOp.mv (Operand.tmp 11), guard := some (60, true) },
  { dst := some 69, op := SOp.bin (BinOp.shl) 65 (Operand.const (Value.int (IntKind.u32) 1)) (Operand.tmp 68), guard := some (60, true) },
  { dst := some 70, op := SOp.bin (BinOp.or) 65 (Operand.tmp 67) (Operand.tmp 69), guard := some (60, true) },
  { dst := some 71, op := SOp.callv (Operand.tmp 61) [Operand.tmp 66, Operand.tmp 70], guard := some (60, true) },
  { dst := some 72, op := SOp.pick (Operand.tmp 60) (Operand.tmp 71) (Operand.const (Value.bool false)), guard := none }]
def c81_r9 : List SIns := [
  { dst := some 9, op := SOp.mv (Operand.const (Value.bool true)), guard := none }]
def c81_r10 : List SIns := [
  { dst := some 73, op := SOp.ib (BinOp.add) (Operand.tmp 34) (Operand.const (Value.int (IntKind.i64) 1)), guard := none },
  { dst := some 34, op := SOp.mv (Operand.tmp 73), guard := none }]
def c81_l0 : SCode := (.seq (.reg c81_r6 [0, 1, 4, 6, 10, 33, 34, 35]) (.seq (.cond (Operand.tmp 35) .skip (.exit 0)) (.seq (.block 1 (.seq (.reg c81_r7 [0, 1, 4, 6, 10, 11, 33, 34]) (.seq (.draw c81_r8 [[], [], [0, 1], [2, 0, 1], [3, 2, 0, 1], [4, 3, 2, 0, 1], [5, 4, 3, 2, 0, 1], [6, 5, 4, 3, 2, 0, 1], [7, 6, 5, 4, 3, 2, 0, 1], [8, 7, 6, 5, 4, 3, 2, 0, 1], [8, 7, 6, 5, 4, 3, 2, 0, 1], [8, 7, 6, 5, 4, 3, 2, 0, 1], [11, 8, 7, 6, 5, 4, 3, 2, 0, 1], [10, 12, 11, 8, 7, 6, 5, 4, 3, 2, 0, 1], [13, 10, 12, 11, 8, 7, 6, 5, 4, 3, 2, 0, 1], [9, 14, 13, 10, 12, 11, 8, 7, 6, 5, 4, 3, 2, 0, 1], [15, 9, 14, 13, 10, 12, 11, 8, 7, 6, 5, 4, 3, 2, 0, 1], [8, 7, 6, 5, 4, 3, 2, 0, 1], [16, 17, 15, 9, 14, 13, 10, 12, 11, 8, 7, 6, 5, 4, 3, 2, 0, 1], [18, 16, 17, 15, 9, 14, 13, 10, 12, 11, 8, 7, 6, 5, 4, 3, 2, 0, 1], [19, 18, 16, 17, 15, 9, 14, 13, 10, 12, 11, 8, 7, 6, 5, 4, 3, 2, 0, 1], [20, 19, 18, 16, 17, 15, 9, 14, 13, 10, 12, 11, 8, 7, 6, 5, 4, 3, 2, 0, 1], [21, 20, 19, 18, 16, 17, 15, 9, 14, 13, 10, 12, 11, 8, 7, 6, 5, 4, 3, 2, 0, 1], [22, 21, 20, 19, 18, 16, 17, 15, 9, 14, 13, 10, 12, 11, 8, 7, 6, 5, 4, 3, 2, 0, 1], [23, 22, 21, 20, 19, 18, 16, 17, 15, 9, 14, 13, 10, 12, 11, 8, 7, 6, 5, 4, 3, 2, 0, 1], [23, 22, 21, 20, 19, 18, 16, 17, 15, 9, 14, 13, 10, 12, 11, 8, 7, 6, 5, 4, 3, 2, 0, 1], [25, 23, 22, 21, 20, 19, 18, 16, 17, 15, 9, 14, 13, 10, 12, 11, 8, 7, 6, 5, 4, 3, 2, 0, 1], [23, 22, 21, 20, 19, 18, 16, 17, 15, 9, 14, 13, 10, 12, 11, 8, 7, 6, 5, 4, 3, 2, 0, 1], [27, 23, 22, 21, 20, 19, 18, 16, 17, 15, 9, 14, 13, 10, 12, 11, 8, 7, 6, 5, 4, 3, 2, 0, 1], [28, 26, 27, 25, 23, 22, 21, 20, 19, 18, 16, 17, 15, 9, 14, 13, 10, 12, 11, 8, 7, 6, 5, 4, 3, 2, 0, 1], [23, 22, 21, 20, 19, 18, 16, 17, 15, 9, 14, 13, 10, 12, 11, 8, 7, 6, 5, 4, 3, 2, 0, 1], [23, 22, 21, 20, 19, 18, 16, 17, 15, 9, 14, 13, 10, 12, 11, 8, 7, 6, 5, 4, 3, 2, 0, 1], [31, 23, 22, 21, 20, 19, 18, 16, 17, 15, 9, 14, 13, 10, 12, 11, 8, 7, 6, 5, 4, 3, 2, 0, 1], [30, 32, 31, 23, 22, 21, 20, 19, 18, 16, 17, 15, 9, 14, 13, 10, 12, 11, 8, 7, 6, 5, 4, 3, 2, 0, 1], [24, 33, 29, 30, 32, 31, 28, 26, 27, 25, 23, 22, 21, 20, 19, 18, 16, 17, 15, 9, 14, 13, 10, 12, 11, 8, 7, 6, 5, 4, 3, 2, 0, 1], [34, 24, 33, 29, 30, 32, 31, 28, 26, 27, 25, 23, 22, 21, 20, 19, 18, 16, 17, 15, 9, 14, 13, 10, 12, 11, 8, 7, 6, 5, 4, 3, 2, 0, 1]] [0, 1, 4, 6, 10, 33, 34, 72]) (.cond (Operand.tmp 72) (.seq (.reg c81_r9 [9]) .ret) .skip)))) (.reg c81_r10 [0, 1, 4, 6, 10, 33, 34]))))
def c81_r11 : List SIns := [
  { dst := some 9, op := SOp.mv (Operand.const (Value.bool false)), guard := none }]
def c81 : SCode := (.seq (.reg c81_r0 [0, 1, 2, 3, 4, 5, 6]) (.seq (.reg c81_r1 [0, 1, 2, 3, 4, 5, 6, 10]) (.seq (.seq (.reg c81_r2 [0, 1, 3, 4, 5, 6, 10, 16]) (.cond (Operand.tmp 16) (.seq (.reg c81_r3 [0, 4, 10]) (.seq (.draw c81_r4 [[], [], [1], [2, 1], [0, 3, 2, 1], [4, 0, 3, 2, 1], [], [], [7], [6, 8, 7], [9, 6, 8, 7], [5, 10, 4, 0, 3, 2, 1, 9, 6, 8, 7], [11, 5, 10, 4, 0, 3, 2, 1, 9, 6, 8, 7], [12, 11, 5, 10, 4, 0, 3, 2, 1, 9, 6, 8, 7], [13, 12, 11, 5, 10, 4, 0, 3, 2, 1, 9, 6, 8, 7]] [9]) .ret)) .skip)) (.seq (.seq (.reg c81_r5 [0, 1, 4, 6, 10, 33, 34]) (.block 0 (.loop c81_l0))) (.seq (.reg c81_r11 [9]) .ret)))))
theorem F81 : Fn Tryd.prog 81 c81 [SRes.tmp 9] 74 := ⟨Tryd.f81, Tryd.f81.body.getD .skip, [[0, 1, 2, 3, 4, 5, 6], [0, 1, 2, 3, 4, 5, 6, 10], [0, 1, 3, 4, 5, 6, 10, 16], [0, 4, 10], [9], [0, 1, 4, 6, 10, 33, 34], [0, 1, 4, 6, 10, 33, 34, 35], [0, 1, 4, 6, 10, 11, 33, 34], [0, 1, 4, 6, 10, 33, 34, 72], [9], [0, 1, 4, 6, 10, 33, 34], [9]], Tryd.func81, by kernel_rfl, by kernel_rfl, by kernel_rfl, by kernel_rfl, by decide⟩

def c82_r0 : List SIns := [
  { dst := some 2, op := SOp.mv (Operand.const (Value.slice none 0 0)), guard := none }]
def c82_r1 : List SIns := [
  { dst := some 3, op := SOp.mv (Operand.tmp 0), guard := none },
  { dst := some 4, op := SOp.mv (Operand.tmp 0), guard := none },
  { dst := some 5, op := SOp.lenSl (Operand.tmp 4), guard := none },
  { dst := some 6, op := SOp.mv (Operand.tmp 0), guard := none },
  { dst := some 7, op := SOp.lenSl (Operand.tmp 6), guard := none },
  { dst := some 8, op := SOp.slc 1 (Operand.tmp 3) none (some (Operand.tmp 5)) (some (Operand.tmp 7)), guard := none },
  { dst := some 2, op := SOp.mv (Operand.tmp 8), guard := none }]
def c82 : SCode := (.seq (.reg c82_r0 [0]) (.seq (.reg c82_r1 [2]) .ret))
theorem F82 : Fn Tryd.prog 82 c82 [SRes.tmp 2] 9 := ⟨Tryd.f82, Tryd.f82.body.getD .skip, [[0], [2]], Tryd.func82, by kernel_rfl, by kernel_rfl, by kernel_rfl, by kernel_rfl, by decide⟩

def c84_r0 : List SIns := [
  { dst := some 2, op := SOp.box (Operand.tmp 0), guard := none },
  { dst := some 4, op := SOp.mv (Operand.const (Value.int (IntKind.i64) 0)), guard := none }]
def c84_r1 : List SIns := [
  { dst := some 5, op := SOp.mv (Operand.tmp 1), guard := none },
  { dst := some 6, op := SOp.idxA 16 1 (Operand.global 0) (Operand.tmp 5), guard := none },
  { dst := some 7, op := SOp.load1 (Operand.tmp 6), guard := none },
  { dst := some 8, op := SOp.off 1 (Operand.tmp 2), guard := none },
  { dst := some 9, op := SOp.idxA 16 1 (Operand.tmp 8) (Operand.tmp 7), guard := none },
  { dst := some 10, op := SOp.load1 (Operand.tmp 9), guard := none },
  { dst := some 4, op := SOp.mv (Operand.tmp 10), guard := none }]
def c84 : SCode := (.seq (.reg c84_r0 [1, 2]) (.seq (.reg c84_r1 [4]) .ret))
theorem F84 : Fn Tryd.prog 84 c84 [SRes.tmp 4] 11 := ⟨Tryd.f84, Tryd.f84.body.getD .skip, [[1, 2], [4]], Tryd.func84, by kernel_rfl, by kernel_rfl, by kernel_rfl, by kernel_rfl, by decide⟩

def c85_r0 : List SIns := [
  { dst := some 1, op := SOp.box (Operand.tmp 0), guard := none },
  { dst := some 2, op := SOp.mv (Operand.const (Value.int (IntKind.i64) 0)), guard := none }]
def c85_r1 : List SIns := [
  { dst := some 3, op := SOp.alloc [Value.int (IntKind.i64) 0, Value.int (IntKind.i64) 0, Value.int (IntKind.i64) 0, Value.int (IntKind.i64) 0, Value.int (IntKind.i64) 0, Value.int (IntKind.i64) 0, Value.int (IntKind.i64) 0, Value.int (IntKind.i64) 0, Value.int (IntKind.i64) 0, Value.int (IntKind.i64) 0, Value.int (IntKind.i64) 0, Value.int (IntKind.i64) 0, Value.int (IntKind.i64) 0, Value.int (IntKind.i64) 0, Value.int (IntKind.i64) 0, Value.int (IntKind.i64) 0], guard := none }]
def c85_r2 : List SIns := [
  { dst := some 11, op := SOp.off 33 (Operand.tmp 1), guard := none },
  { dst := some 12, op := SOp.load1 (Operand.tmp 11), guard := none },
  { dst := some 13, op := SOp.mv (Operand.const (Value.int (IntKind.i64) 0)), guard := none }]
def c85_r3 : List SIns := [
  { dst := some 14, op := SOp.ib (BinOp.lss) (Operand.tmp 13) (Operand.tmp 12), guard := none }]
def c85_r4 : List SIns := [
  { dst := some 15, op := SOp.mv (Operand.tmp 13), guard := none },
  { dst := some 4, op := SOp.mv (Operand.tmp 15), guard := none }]
def c85_r5 : List SIns := [
  { dst := some 16, op := SOp.mv (Operand.tmp 4), guard := none },
  { dst := some 17, op := SOp.mv (Operand.tmp 4), guard := none },
  { dst := some 18, op := SOp.idxA 16 1 (Operand.tmp 3) (Operand.tmp 16), guard := none },
  { dst := none, op := SOp.store 1 (Operand.tmp 18) (Operand.tmp 17), guard := none }]
def c85_r6 : List SIns := [
  { dst := some 19, op := SOp.ib (BinOp.add) (Operand.tmp 13) (Operand.const (Value.int (IntKind.i64) 1)), guard := none },
  { dst := some 13, op := SOp.mv (Operand.tmp 19), guard := none }]
def c85_l0 : SCode := (.seq (.reg c85_r3 [1, 3, 12, 13, 14]) (.seq (.cond (Operand.tmp 14) .skip (.exit 0)) (.seq (.block 1 (.seq (.reg c85_r4 [1, 3, 4, 12, 13]) (.reg c85_r5 [1, 3, 12, 13]))) (.reg c85_r6 [1, 3, 12, 13]))))
def c85_r7 : List SIns := [
  { dst := some 20, op := SOp.off 33 (Operand.tmp 1), guard := none },
  { dst := some 21, op := SOp.load1 (Operand.tmp 20), guard := none },
  { dst := some 5, op := SOp.mv (Operand.tmp 21), guard := none }]
def c85_r8 : List SIns := [
  { dst := some 6, op := SOp.mv (Operand.const (Value.int (IntKind.i64) 0)), guard := none }]
def c85_r9 : List SIns := [
  { dst := some 22, op := SOp.mv (Operand.tmp 6), guard := none },
  { dst := some 23, op := SOp.off 0 (Operand.tmp 1), guard := none },
  { dst := some 24, op := SOp.load1 (Operand.tmp 23), guard := none },
  { dst := some 25, op := SOp.ib (BinOp.lss) (Operand.tmp 22) (Operand.tmp 24), guard := none }]
def c85_r10 : List SIns := [
  { dst := some 28, op := SOp.mv (Operand.tmp 6), guard := none },
  { dst := some 29, op := SOp.off 17 (Operand.tmp 1), guard := none },
  { dst := some 30, op := SOp.idxA 16 1 (Operand.tmp 29) (Operand.tmp 28), guard := none },
  { dst := some 31, op := SOp.load1 (Operand.tmp 30), guard := none },
  { dst := some 32, op := SOp.idxA 16 1 (Operand.tmp 3) (Operand.tmp 31), guard := none },
  { dst := some 33, op := SOp.load1 (Operand.tmp 32), guard := none },
  { dst := some 34, op := SOp.mv (Operand.tmp 6), guard := none },
  { dst := some 35, op := SOp.ib (BinOp.add) (Operand.tmp 34) (Operand.const (Value.int (IntKind.i64) 1)), guard := none },
  { dst := some 36, op := SOp.off 17 (Operand.tmp 1), guard := none },
  { dst := some 37, op := SOp.idxA 16 1 (Operand.tmp 36) (Operand.tmp 35), guard := none },
  { dst := some 38, op := SOp.load1 (Operand.tmp 37), guard := none },
  { dst := some 39, op := SOp.idxA 16 1 (Operand.tmp 3) (Operand.tmp 38), guard := none },
  { dst := some 40, op := SOp.load1 (Operand.tmp 39), guard := none },
  { dst := some 7, op := SOp.mv (Operand.tmp 33), guard := none },
  { dst := some 8, op := SOp.mv (Operand.tmp 40), guard := none }]
def c85_r11 : List SIns := [
  { dst := some 41, op := SOp.mv (Operand.tmp 7), guard := none },
  { dst := some 42, op := SOp.mv (Operand.tmp 8), guard := none },
  { dst := some 43, op := SOp.ib (BinOp.eql) (Operand.tmp 41) (Operand.tmp 42), guard := none }]
def c85_r12 : List SIns := [
  { dst := some 44, op := SOp.mv (Operand.tmp 5), guard := none },
  { dst := some 45, op := SOp.ib (BinOp.sub) (Operand.tmp 44) (Operand.const (Value.int (IntKind.i64) 1)), guard := none },
  { dst := some 5, op := SOp.mv (Operand.tmp 45), guard := none }]
def c85_r13 : List SIns := [
  { dst := some 46, op := SOp.off 33 (Operand.tmp 1), guard := none },
  { dst := some 47, op := SOp.load1 (Operand.tmp 46), guard := none },
  { dst := some 48, op := SOp.slcA 16 1 (Operand.tmp 3) none (some (Operand.tmp 47)) none, guard := none },
  { dst := some 49, op := SOp.lenSl (Operand.tmp 48), guard := none },
  { dst := some 50, op := SOp.mv (Operand.const (Value.int (IntKind.i64) 0)), guard := none }]
def c85_r14 : List SIns := [
  { dst := some 51, op := SOp.ib (BinOp.lss) (Operand.tmp 50) (Operand.tmp 49), guard := none }]
def c85_r15 : List SIns := [
  { dst := some 52, op := SOp.mv (Operand.tmp 50), guard := none },
  { dst := some 53, op := SOp.idx 1 (Operand.tmp 48) (Operand.tmp 50), guard := none },
  { dst := some 54, op := SOp.load1 (Operand.tmp 53), guard := none },
  { dst := some 9, op := SOp.mv (Operand.tmp 52), guard := none },
  { dst := some 10, op := SOp.mv (Operand.tmp 54), guard := none }]
def c85_r16 : List SIns := [
  { dst := some 55, op := SOp.mv (Operand.tmp 10), guard := none },
  { dst := some 56, op := SOp.mv (Operand.tmp 7), guard := none },
  { dst := some 57, op := SOp.ib (BinOp.eql) (Operand.tmp 55) (Operand.tmp 56), guard := none }]
def c85_r17 : List SIns := [
  { dst := some 58, op := SOp.mv (Operand.tmp 9), guard := none },
  { dst := some 59, op := SOp.mv (Operand.tmp 8), guard := none },
  { dst := some 60, op := SOp.idxA 16 1 (Operand.tmp 3) (Operand.tmp 58), guard := none },
  { dst := none, op := SOp.store 1 (Operand.tmp 60) (Operand.tmp 59), guard := none }]
def c85_r18 : List SIns := [
  { dst := some 61, op := SOp.ib (BinOp.add) (Operand.tmp 50) (Operand.const (Value.int (IntKind.i64) 1)), guard := none },
  { dst := some 50, op := SOp.mv (Operand.tmp 61), guard := none }]
def c85_l1 : SCode := (.seq (.reg c85_r14 [1, 3, 5, 6, 7, 8, 48, 49, 50, 51]) (.seq (.cond (Operand.tmp 51) .skip (.exit 4)) (.seq (.block 5 (.seq (.reg c85_r15 [1, 3, 5, 6, 7, 8, 9, 10, 48, 49, 50]) (.seq (.reg c85_r16 [1, 3, 5, 6, 7, 8, 9, 48, 49, 50, 57]) (.cond (Operand.tmp 57) (.reg c85_r17 [1, 3, 5, 6, 7, 8, 48, 49, 50]) .skip)))) (.reg c85_r18 [1, 3, 5, 6, 7, 8, 48, 49, 50]))))
def c85_r19 : List SIns := [
  { dst := some 26, op := SOp.mv (Operand.tmp 6), guard := none },
  { dst := some 27, op := SOp.ib (BinOp.add) (Operand.tmp 26) (Operand.const (Value.int (IntKind.i64) 2)), guard := none },
  { dst := some 6, op := SOp.mv (Operand.tmp 27), guard := none }]
def c85_l2 : SCode := (.seq (.seq (.reg c85_r9 [1, 3, 5, 6, 25]) (.cond (Operand.tmp 25) .skip (.exit 2))) (.seq (.block 3 (.seq (.draw c85_r10 [[], [], [1, 0], [2, 1, 0], [3, 2, 1, 0], [4, 3, 2, 1, 0], [], [6], [], [8, 7, 6], [9, 8, 7, 6], [10, 9, 8, 7, 6], [11, 10, 9, 8, 7, 6], [5, 4, 3, 2, 1, 0], [12, 13, 11, 10, 9, 8, 7, 6, 5, 4, 3, 2, 1, 0]] [1, 3, 5, 6, 7, 8]) (.seq (.seq (.reg c85_r11 [1, 3, 5, 6, 7, 8, 43]) (.cond (Operand.tmp 43) (.exit 3) .skip)) (.seq (.reg c85_r12 [1, 3, 5, 6, 7, 8]) (.seq (.reg c85_r13 [1, 3, 5, 6, 7, 8, 48, 49, 50]) (.block 4 (.loop c85_l1))))))) (.reg c85_r19 [1, 3, 5, 6])))
def c85_r20 : List SIns := [
  { dst := some 62, op := SOp.mv (Operand.tmp 5), guard := none },
  { dst := some 2, op := SOp.mv (Operand.tmp 62), guard := none }]
def c85 : SCode := (.seq (.reg c85_r0 [1]) (.seq (.reg c85_r1 [1, 3]) (.seq (.seq (.reg c85_r2 [1, 3, 12, 13]) (.block 0 (.loop c85_l0))) (.seq (.reg c85_r7 [1, 3, 5]) (.seq (.seq (.reg c85_r8 [1, 3, 5, 6]) (.block 2 (.loop c85_l2))) (.seq (.reg c85_r20 [2]) .ret))))))
theorem F85 : Fn Tryd.prog 85 c85 [SRes.tmp 2] 63 := ⟨Tryd.f85, Tryd.f85.body.getD .skip, [[1], [1, 3], [1, 3, 12, 13], [1, 3, 12, 13, 14], [1, 3, 4, 12, 13], [1, 3, 12, 13], [1, 3, 12, 13], [1, 3, 5], [1, 3, 5, 6], [1, 3, 5, 6, 25], [1, 3, 5, 6, 7, 8], [1, 3, 5, 6, 7, 8, 43], [1, 3, 5, 6, 7, 8], [1, 3, 5, 6, 7, 8, 48, 49, 50], [1, 3, 5, 6, 7, 8, 48, 49, 50, 51], [1, 3, 5, 6, 7, 8, 9, 10, 48, 49, 50], [1, 3, 5, 6, 7, 8, 9, 48, 49, 50, 57], [1, 3, 5, 6, 7, 8, 48, 49, 50], [1, 3, 5, 6, 7, 8, 48, 49, 50], [1, 3, 5, 6], [2]], Tryd.func85, by kernel_rfl, by kernel_rfl, by kernel_rfl, by kernel_rfl, by decide⟩

def c99_r0 : List SIns := [
  { dst := some 4, op := SOp.mv (Operand.const (Value.int (IntKind.i64) 0)), guard := none }]
def c99_r1 : List SIns := [
  { dst := some 6, op := SOp.mv (Operand.tmp 0), guard := none },
  { dst := some 7, op := SOp.lenSl (Operand.tmp 6), guard := none },
  { dst := some 8, op := SOp.mv (Operand.const (Value.int (IntKind.i64) 0)), guard := none }]
def c99_r2 : List SIns := [
  { dst := some 9, op := SOp.ib (BinOp.lss) (Operand.tmp 8) (Operand.tmp 7), guard := none }]
def c99_r3 : List SIns := [
  { dst := some 10, op := SOp.mv (Operand.tmp 8), guard := none },
  { dst := some 5, op := SOp.mv (Operand.tmp 10), guard := none }]
def c99_r4 : List SIns := [
  { dst := some 11, op := SOp.mv (Operand.tmp 1), guard := none },
  { dst := some 12, op := SOp.mv (Operand.tmp 0), guard := none },
  { dst := some 13, op := SOp.mv (Operand.tmp 5), guard := none },
  { dst := some 14, op := SOp.idx 1 (Operand.tmp 12) (Operand.tmp 13), guard := none },
  { dst := some 15, op := SOp.load1 (Operand.tmp 14), guard := none },
  { dst := some 16, op := SOp.callv (Operand.tmp 11) [Operand.tmp 15], guard := none }]
def c99_r5 : List SIns := [
  { dst := some 17, op := SOp.mv (Operand.tmp 5), guard := none },
  { dst := some 4, op := SOp.mv (Operand.tmp 17), guard := none }]
def c99_r6 : List SIns := [
  { dst := some 18, op := SOp.ib (BinOp.add) (Operand.tmp 8) (Operand.const (Value.int (IntKind.i64) 1)), guard := none },
  { dst := some 8, op := SOp.mv (Operand.tmp 18), guard := none }]
def c99_l0 : SCode := (.seq (.reg c99_r2 [0, 1, 7, 8, 9]) (.seq (.cond (Operand.tmp 9) .skip (.exit 0)) (.seq (.block 1 (.seq (.reg c99_r3 [0, 1, 5, 7, 8]) (.seq (.reg c99_r4 [0, 1, 5, 7, 8, 16]) (.cond (Operand.tmp 16) (.seq (.reg c99_r5 [4]) .ret) .skip)))) (.reg c99_r6 [0, 1, 7, 8]))))
def c99_r7 : List SIns := [
  { dst := some 4, op := SOp.mv (Operand.const (Value.int (IntKind.i64) (-1))), guard := none }]
def c99 : SCode := (.seq (.reg c99_r0 [0, 1]) (.seq (.seq (.reg c99_r1 [0, 1, 7, 8]) (.block 0 (.loop c99_l0))) (.seq (.reg c99_r7 [4]) .ret)))
theorem F99 : Fn Tryd.prog 99 c99 [SRes.tmp 4] 19 := ⟨Tryd.f99, Tryd.f99.body.getD .skip, [[0, 1], [0, 1, 7, 8], [0, 1, 7, 8, 9], [0, 1, 5, 7, 8], [0, 1, 5, 7, 8, 16], [4], [0, 1, 7, 8], [4]], Tryd.func99, by kernel_rfl, by kernel_rfl, by kernel_rfl, by kernel_rfl, by decide⟩

def c100_r0 : List SIns := [
  { dst := some 2, op := SOp.box (Operand.tmp 0), guard := none },
  { dst := some 4, op := SOp.mv (Operand.const (Value.slice none 0 0)), guard := none }]
def c100_r1 : List SIns := [
  { dst := some 11, op := SOp.loadN 34 (Operand.tmp 2), guard := none },
  { dst := some 12, op := SOp.call 80 [Operand.tmp 11], guard := none },
  { dst := some 5, op := SOp.mv (Operand.tmp 12), guard := none }]
def c100_r2 : List SIns := [
  { dst := some 13, op := SOp.off 33 (Operand.tmp 2), guard := none },
  { dst := some 14, op := SOp.load1 (Operand.tmp 13), guard := none },
  { dst := some 15, op := SOp.mk 8 (Value.int (IntKind.i64) 0) (Operand.tmp 14) (Operand.tmp 14), guard := none },
  { dst := some 6, op := SOp.mv (Operand.tmp 15), guard := none }]
def c100_r3 : List SIns := [
  { dst := some 7, op := SOp.mv (Operand.const (Value.int (IntKind.i64) 0)), guard := none }]
def c100_r4 : List SIns := [
  { dst := some 16, op := SOp.mv (Operand.tmp 7), guard := none },
  { dst := some 17, op := SOp.off 33 (Operand.tmp 2), guard := none },
  { dst := some 18, op := SOp.load1 (Operand.tmp 17), guard := none },
  { dst := some 19, op := SOp.ib (BinOp.lss) (Operand.tmp 16) (Operand.tmp 18), guard := none }]
def c100_r5 : List SIns := [
  { dst := some 8, op := SOp.mv (Operand.const (Value.bool false)), guard := none }]
def c100_r6 : List SIns := [
  { dst := some 20, op := SOp.mv (Operand.tmp 6), guard := none },
  { dst := some 21, op := SOp.mv (Operand.tmp 7), guard := none },
  { dst := some 22, op := SOp.slc 1 (Operand.tmp 20) none (some (Operand.tmp 21)) none, guard := none },
  { dst := some 23, op := SOp.lenSl (Operand.tmp 22), guard := none },
  { dst := some 24, op := SOp.mv (Operand.const (Value.int (IntKind.i64) 0)), guard := none }]
def c100_r7 : List SIns := [
  { dst := some 25, op := SOp.ib (BinOp.lss) (Operand.tmp 24) (Operand.tmp 23), guard := none }]
def c100_r8 : List SIns := [
  { dst := some 26, op := SOp.mv (Operand.tmp 24), guard := none },
  { dst := some 27, op := SOp.idx 1 (Operand.tmp 22) (Operand.tmp 24), guard := none },
  { dst := some 28, op := SOp.load1 (Operand.tmp 27), guard := none },
  { dst := some 9, op := SOp.mv (Operand.tmp 26), guard := none },
  { dst := some 10, op := SOp.mv (Operand.tmp 28), guard := none }]
def c100_r9 : List SIns := [
  { dst := some 29, op := SOp.mv (Operand.tmp 8), guard := none },
  { dst := some 30, op := SOp.mv (Operand.tmp 29), guard := none },
  { dst := some 31, op := SOp.mv (Operand.tmp 10), guard := some (30, false) },
  { dst := some 32, op := SOp.mv (Operand.tmp 6), guard := some (30, false) },
  { dst := some 33, op := SOp.mv (Operand.tmp 7), guard := some (30, false) },
  { dst := some 34, op := SOp.idx 1 (Operand.tmp 32) (Operand.tmp 33), guard := some (30, false) },
  { dst := some 35, op := SOp.load1 (Operand.tmp 34), guard := some (30, false) },
  { dst := some 36, op := SOp.ib (BinOp.eql) (Operand.tmp 31) (Operand.tmp 35), guard := some (30, false) },
  { dst := some 37, op := SOp.mv (Operand.tmp 36), guard := some (30, false) },
  { dst := some 38, op := SOp.mv (Operand.tmp 5), guard := some (37, true) },
  { dst := some 39, op := SOp.mv (Operand.tmp 7), guard := some (37, true) },
  { dst := some 40, op := SOp.idx 1 (Operand.tmp 38) (Operand.tmp 39), guard := some (37, true) },
  { dst := some 41, op := SOp.load1 (Operand.tmp 40), guard := some (37, true) },
  { dst := some 42, op := SOp.mv (Operand.tmp 9), guard := some (37, true) },
  { dst := some 43, op := SOp.bin (BinOp.shr) 65 (Operand.tmp 41) (Operand.tmp 42), guard := some (37, true) },
  { dst := some 44, op := SOp.bin (BinOp.and) 65 (Operand.tmp 43) (Operand.const (Value.int (IntKind.u32) 1)), guard := some (37, true) },
  { dst := some 45, op := SOp.ib (BinOp.eql) (Operand.tmp 44) (Operand.const (Value.int (IntKind.u32) 1)), guard := some (37, true) },
  { dst := some 46, op := SOp.pick (Operand.tmp 37) (Operand.tmp 45) (Operand.const (Value.bool false)), guard := some (30, false) },
  { dst := some 47, op := SOp.pick (Operand.tmp 30) (Operand.const (Value.bool true)) (Operand.tmp 46), guard := none },
  { dst := some 8, op := SOp.mv (Operand.tmp 47), guard := none }]
def c100_r10 : List SIns := [
  { dst := some 48, op := SOp.ib (BinOp.add) (Operand.tmp 24) (Operand.const (Value.int (IntKind.i64) 1)), guard := none },
  { dst := some 24, op := SOp.mv (Operand.tmp 48), guard := none }]
def c100_l0 : SCode := (.seq (.reg c100_r7 [1, 2, 5, 6, 7, 8, 22, 23, 24, 25]) (.seq (.cond (Operand.tmp 25) .skip (.exit 2)) (.seq (.block 3 (.seq (.reg c100_r8 [1, 2, 5, 6, 7, 8, 9, 10, 22, 23, 24]) (.reg c100_r9 [1, 2, 5, 6, 7, 8, 22, 23, 24]))) (.reg c100_r10 [1, 2, 5, 6, 7, 8, 22, 23, 24]))))
def c100_r11 : List SIns := [
  { dst := some 49, op := SOp.mv (Operand.tmp 8), guard := none },
  { dst := some 50, op := SOp.nt (Operand.tmp 49), guard := none },
  { dst := some 51, op := SOp.mv (Operand.tmp 50), guard := none },
  { dst := some 52, op := SOp.mv (Operand.tmp 6), guard := some (51, true) },
  { dst := some 53, op := SOp.mv (Operand.tmp 7), guard := some (51, true) },
  { dst := some 54, op := SOp.idx 1 (Operand.tmp 52) (Operand.tmp 53), guard := some (51, true) },
  { dst := some 55, op := SOp.load1 (Operand.tmp 54), guard := some (51, true) },
  { dst := some 56, op := SOp.mv (Operand.tmp 1), guard := some (51, true) },
  { dst := some 57, op := SOp.ib (BinOp.lss) (Operand.tmp 55) (Operand.tmp 56), guard := some (51, true) },
  { dst := some 58, op := SOp.pick (Operand.tmp 51) (Operand.tmp 57) (Operand.const (Value.bool false)), guard := none }]
def c100_r12 : List SIns := [
  { dst := some 59, op := SOp.mv (Operand.tmp 7), guard := none },
  { dst := some 60, op := SOp.ib (BinOp.add) (Operand.tmp 59) (Operand.const (Value.int (IntKind.i64) 1)), guard := none },
  { dst := some 7, op := SOp.mv (Operand.tmp 60), guard := none }]
def c100_r13 : List SIns := [
  { dst := some 61, op := SOp.mv (Operand.tmp 6), guard := none },
  { dst := some 62, op := SOp.mv (Operand.tmp 7), guard := none },
  { dst := some 63, op := SOp.idx 1 (Operand.tmp 61) (Operand.tmp 62), guard := none },
  { dst := some 64, op := SOp.load1 (Operand.tmp 63), guard := none },
  { dst := some 65, op := SOp.ib (BinOp.add) (Operand.tmp 64) (Operand.const (Value.int (IntKind.i64) 1)), guard := none },
  { dst := some 66, op := SOp.idx 1 (Operand.tmp 61) (Operand.tmp 62), guard := none },
  { dst := none, op := SOp.store 1 (Operand.tmp 66) (Operand.tmp 65), guard := none }]
def c100_r14 : List SIns := [
  { dst := some 67, op := SOp.mv (Operand.tmp 6), guard := none },
  { dst := some 68, op := SOp.mv (Operand.tmp 7), guard := none },
  { dst := some 69, op := SOp.idx 1 (Operand.tmp 67) (Operand.tmp 68), guard := none },
  { dst := some 70, op := SOp.load1 (Operand.tmp 69), guard := none },
  { dst := some 71, op := SOp.mv (Operand.tmp 1), guard := none },
  { dst := some 72, op := SOp.ib (BinOp.geq) (Operand.tmp 70) (Operand.tmp 71), guard := none }]
def c100_r15 : List SIns := [
  { dst := some 79, op := SOp.mv (Operand.tmp 6), guard := none },
  { dst := some 80, op := SOp.mv (Operand.tmp 7), guard := none },
  { dst := some 81, op := SOp.idx 1 (Operand.tmp 79) (Operand.tmp 80), guard := none },
  { dst := none, op := SOp.store 1 (Operand.tmp 81) (Operand.const (Value.int (IntKind.i64) 0)), guard := none }]
def c100_r16 : List SIns := [
  { dst := some 82, op := SOp.mv (Operand.tmp 7), guard := none },
  { dst := some 83, op := SOp.ib (BinOp.sub) (Operand.tmp 82) (Operand.const (Value.int (IntKind.i64) 1)), guard := none },
  { dst := some 7, op := SOp.mv (Operand.tmp 83), guard := none }]
def c100_r17 : List SIns := [
  { dst := some 84, op := SOp.mv (Operand.tmp 7), guard := none },
  { dst := some 85, op := SOp.ib (BinOp.lss) (Operand.tmp 84) (Operand.const (Value.int (IntKind.i64) 0)), guard := none }]
def c100_r18 : List SIns := [
  { dst := some 4, op := SOp.mv (Operand.const (Value.slice none 0 0)), guard := none }]
def c100_r19 : List SIns := [
  { dst := some 73, op := SOp.mv (Operand.tmp 6), guard := none },
  { dst := some 74, op := SOp.mv (Operand.tmp 7), guard := none },
  { dst := some 75, op := SOp.idx 1 (Operand.tmp 73) (Operand.tmp 74), guard := none },
  { dst := some 76, op := SOp.load1 (Operand.tmp 75), guard := none },
  { dst := some 77, op := SOp.ib (BinOp.add) (Operand.tmp 76) (Operand.const (Value.int (IntKind.i64) 1)), guard := none },
  { dst := some 78, op := SOp.idx 1 (Operand.tmp 73) (Operand.tmp 74), guard := none },
  { dst := none, op := SOp.store 1 (Operand.tmp 78) (Operand.tmp 77), guard := none }]
def c100_l1 : SCode := (.seq (.seq (.reg c100_r14 [1, 2, 5, 6, 7, 72]) (.cond (Operand.tmp 72) .skip (.exit 4))) (.seq (.block 5 (.seq (.reg c100_r15 [1, 2, 5, 6, 7]) (.seq (.reg c100_r16 [1, 2, 5, 6, 7]) (.seq (.reg c100_r17 [1, 2, 5, 6, 7, 85]) (.cond (Operand.tmp 85) (.seq (.reg c100_r18 [4]) .ret) .skip))))) (.reg c100_r19 [1, 2, 5, 6, 7])))
def c100_l2 : SCode := (.seq (.seq (.reg c100_r4 [1, 2, 5, 6, 7, 19]) (.cond (Operand.tmp 19) .skip (.exit 0))) (.block 1 (.seq (.reg c100_r5 [1, 2, 5, 6, 7, 8]) (.seq (.seq (.reg c100_r6 [1, 2, 5, 6, 7, 8, 22, 23, 24]) (.block 2 (.loop c100_l0))) (.seq (.seq (.reg c100_r11 [1, 2, 5, 6, 7, 58]) (.cond (Operand.tmp 58) (.seq (.reg c100_r12 [1, 2, 5, 6, 7]) (.exit 1)) .skip)) (.seq (.reg c100_r13 [1, 2, 5, 6, 7]) (.block 4 (.loop c100_l1))))))))
def c100_r20 : List SIns := [
  { dst := some 86, op := SOp.mv (Operand.tmp 6), guard := none },
  { dst := some 4, op := SOp.mv (Operand.tmp 86), guard := none }]
def c100 : SCode := (.seq (.reg c100_r0 [1, 2]) (.seq (.reg c100_r1 [1, 2, 5]) (.seq (.reg c100_r2 [1, 2, 5, 6]) (.seq (.reg c100_r3 [1, 2, 5, 6, 7]) (.seq (.block 0 (.loop c100_l2)) (.seq (.reg c100_r20 [4]) .ret))))))
theorem F100 : Fn Tryd.prog 100 c100 [SRes.tmp 4] 87 := ⟨Tryd.f100, Tryd.f100.body.getD .skip, [[1, 2], [1, 2, 5], [1, 2, 5, 6], [1, 2, 5, 6, 7], [1, 2, 5, 6, 7, 19], [1, 2, 5, 6, 7, 8], [1, 2, 5, 6, 7, 8, 22, 23, 24], [1, 2, 5, 6, 7, 8, 22, 23, 24, 25], [1, 2, 5, 6, 7, 8, 9, 10, 22, 23, 24], [1, 2, 5, 6, 7, 8, 22, 23, 24], [1, 2, 5, 6, 7, 8, 22, 23, 24], [1, 2, 5, 6, 7, 58], [1, 2, 5, 6, 7], [1, 2, 5, 6, 7], [1, 2, 5, 6, 7, 72], [1, 2, 5, 6, 7], [1, 2, 5, 6, 7], [1, 2, 5, 6, 7, 85], [4], [1, 2, 5, 6, 7], [4]], Tryd.func100, by kernel_rfl, by kernel_rfl, by kernel_rfl, by kernel_rfl, by decide⟩

end Go.Sx.Ch
