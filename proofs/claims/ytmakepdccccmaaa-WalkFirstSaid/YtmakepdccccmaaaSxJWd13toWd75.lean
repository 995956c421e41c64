/- The codes of the functions, written by a program (Gen.lean), and that they are the functions'. No conditions. -/
import Derived.Test.YtmakepdccccmaaaSxN
import Derived.KernelRfl
import Derived.Test.YtmakepdccccmaaaProg
set_option linter.unusedVariables false
set_option maxRecDepth 100000
namespace Go.Sx.Wk
open Go Go.Sx Go.Proofs

def c13_r0 : List SIns := [
  { dst := some 2, op := SOp.box (Operand.tmp 0), guard := none },
  { dst := some 4, op := SOp.mv (Operand.const (Value.bool false)), guard := none }]
def c13_r1 : List SIns := [
  { dst := some 20, op := SOp.loadN 5 (Operand.tmp 2), guard := none },
  { dst := some 21, op := SOp.call 42 [Operand.tmp 20, Operand.const (Value.int (IntKind.i64) 3), Operand.const (Value.int (IntKind.i64) 6)], guard := none },
  { dst := some 5, op := SOp.mv (Operand.tmp 21), guard := none }]
def c13_r2 : List SIns := [
  { dst := some 22, op := SOp.mv (Operand.tmp 1), guard := none },
  { dst := some 23, op := SOp.ci (IntKind.i64) (Operand.tmp 22), guard := none },
  { dst := some 24, op := SOp.ib (BinOp.rem) (Operand.tmp 23) (Operand.const (Value.int (IntKind.i64) 21)), guard := none },
  { dst := some 6, op := SOp.mv (Operand.tmp 24), guard := none }]
def c13_r3 : List SIns := [
  { dst := some 26, op := SOp.mv (Operand.tmp 5), guard := none },
  { dst := some 27, op := SOp.mv (Operand.tmp 6), guard := none },
  { dst := some 28, op := SOp.call 32 [Operand.tmp 26, Operand.tmp 27], guard := none },
  { dst := some 25, op := SOp.mv (Operand.tmp 28), guard := none },
  { dst := some 29, op := SOp.ext (Operand.tmp 25) 0, guard := none },
  { dst := some 30, op := SOp.ext (Operand.tmp 25) 1, guard := none },
  { dst := some 7, op := SOp.mv (Operand.tmp 29), guard := none },
  { dst := some 8, op := SOp.mv (Operand.tmp 30), guard := none }]
def c13_r4 : List SIns := [
  { dst := some 31, op := SOp.mv (Operand.tmp 5), guard := none },
  { dst := some 32, op := SOp.call 46 [Operand.tmp 31], guard := none },
  { dst := some 33, op := SOp.ib (BinOp.geq) (Operand.tmp 32) (Operand.const (Value.int (IntKind.i64) 0)), guard := none }]
def c13_r5 : List SIns := [
  { dst := some 35, op := SOp.mv (Operand.tmp 5), guard := none },
  { dst := some 36, op := SOp.call 27 [Operand.tmp 35, Operand.const (Value.slice none 0 0)], guard := none },
  { dst := some 34, op := SOp.mv (Operand.tmp 36), guard := none },
  { dst := some 37, op := SOp.ext (Operand.tmp 34) 0, guard := none },
  { dst := some 38, op := SOp.ext (Operand.tmp 34) 1, guard := none },
  { dst := some 9, op := SOp.mv (Operand.tmp 37), guard := none },
  { dst := some 10, op := SOp.mv (Operand.tmp 38), guard := none }]
def c13_r6 : List SIns := [
  { dst := some 39, op := SOp.mv (Operand.tmp 8), guard := none },
  { dst := some 40, op := SOp.ib (BinOp.eql) (Operand.tmp 39) (Operand.const (Value.int (IntKind.i64) 12)), guard := none },
  { dst := some 41, op := SOp.mv (Operand.tmp 40), guard := none },
  { dst := some 42, op := SOp.mv (Operand.tmp 7), guard := some (41, true) },
  { dst := some 43, op := SOp.lenSl (Operand.tmp 42), guard := some (41, true) },
  { dst := some 44, op := SOp.ib (BinOp.eql) (Operand.tmp 43) (Operand.const (Value.int (IntKind.i64) 0)), guard := some (41, true) },
  { dst := some 45, op := SOp.pick (Operand.tmp 41) (Operand.tmp 44) (Operand.const (Value.bool false)), guard := none },
  { dst := some 46, op := SOp.mv (Operand.tmp 45), guard := none },
  { dst := some 47, op := SOp.mv (Operand.tmp 10), guard := some (46, true) },
  { dst := some 48, op := SOp.ib (BinOp.eql) (Operand.tmp 47) (Operand.const (Value.int (IntKind.i64) 0)), guard := some (46, true) },
  { dst := some 49, op := SOp.pick (Operand.tmp 46) (Operand.tmp 48) (Operand.const (Value.bool false)), guard := none },
  { dst := some 50, op := SOp.mv (Operand.tmp 49), guard := none },
  { dst := some 51, op := SOp.mv (Operand.tmp 9), guard := some (50, true) },
  { dst := some 52, op := SOp.nt (Operand.tmp 51), guard := some (50, true) },
  { dst := some 53, op := SOp.pick (Operand.tmp 50) (Operand.tmp 52) (Operand.const (Value.bool false)), guard := none },
  { dst := some 54, op := SOp.mv (Operand.tmp 53), guard := none },
  { dst := some 55, op := SOp.call 16 [], guard := some (54, true) },
  { dst := some 56, op := SOp.pick (Operand.tmp 54) (Operand.tmp 55) (Operand.const (Value.bool false)), guard := none },
  { dst := some 4, op := SOp.mv (Operand.tmp 56), guard := none }]
def c13_r7 : List SIns := [
  { dst := some 57, op := SOp.mv (Operand.tmp 8), guard := none },
  { dst := some 58, op := SOp.ib (BinOp.neq) (Operand.tmp 57) (Operand.const (Value.int (IntKind.i64) 0)), guard := none },
  { dst := some 59, op := SOp.mv (Operand.tmp 58), guard := none },
  { dst := some 60, op := SOp.mv (Operand.tmp 7), guard := some (59, false) },
  { dst := some 61, op := SOp.lenSl (Operand.tmp 60), guard := some (59, false) },
  { dst := some 62, op := SOp.mv (Operand.tmp 6), guard := some (59, false) },
  { dst := some 63, op := SOp.ib (BinOp.neq) (Operand.tmp 61) (Operand.tmp 62), guard := some (59, false) },
  { dst := some 64, op := SOp.pick (Operand.tmp 59) (Operand.const (Value.bool true)) (Operand.tmp 63), guard := none },
  { dst := some 65, op := SOp.mv (Operand.tmp 64), guard := none },
  { dst := some 66, op := SOp.mv (Operand.tmp 5), guard := some (65, false) },
  { dst := some 67, op := SOp.mv (Operand.tmp 7), guard := some (65, false) },
  { dst := some 68, op := SOp.call 43 [Operand.tmp 66, Operand.tmp 67], guard := some (65, false) },
  { dst := some 69, op := SOp.nt (Operand.tmp 68), guard := some (65, false) },
  { dst := some 70, op := SOp.pick (Operand.tmp 65) (Operand.const (Value.bool true)) (Operand.tmp 69), guard := none }]
def c13_r8 : List SIns := [
  { dst := some 4, op := SOp.mv (Operand.const (Value.bool false)), guard := none }]
def c13_r9 : List SIns := [
  { dst := some 71, op := SOp.mv (Operand.tmp 7), guard := none },
  { dst := some 72, op := SOp.lenSl (Operand.tmp 71), guard := none },
  { dst := some 73, op := SOp.mv (Operand.const (Value.int (IntKind.i64) 0)), guard := none }]
def c13_r10 : List SIns := [
  { dst := some 74, op := SOp.ib (BinOp.lss) (Operand.tmp 73) (Operand.tmp 72), guard := none }]
def c13_r11 : List SIns := [
  { dst := some 75, op := SOp.mv (Operand.tmp 73), guard := none },
  { dst := some 76, op := SOp.idx 1 (Operand.tmp 71) (Operand.tmp 73), guard := none },
  { dst := some 77, op := SOp.load1 (Operand.tmp 76), guard := none },
  { dst := some 11, op := SOp.mv (Operand.tmp 75), guard := none },
  { dst := some 12, op := SOp.mv (Operand.tmp 77), guard := none }]
def c13_r12 : List SIns := [
  { dst := some 78, op := SOp.mv (Operand.tmp 12), guard := none },
  { dst := some 79, op := SOp.ib (BinOp.lss) (Operand.tmp 78) (Operand.const (Value.int (IntKind.i64) 0)), guard := none },
  { dst := some 80, op := SOp.mv (Operand.tmp 79), guard := none },
  { dst := some 81, op := SOp.mv (Operand.tmp 12), guard := some (80, false) },
  { dst := some 82, op := SOp.mv (Operand.tmp 5), guard := some (80, false) },
  { dst := some 83, op := SOp.lenSl (Operand.tmp 82), guard := some (80, false) },
  { dst := some 84, op := SOp.ib (BinOp.geq) (Operand.tmp 81) (Operand.tmp 83), guard := some (80, false) },
  { dst := some 85, op := SOp.pick (Operand.tmp 80) (Operand.const (Value.bool true)) (Operand.tmp 84), guard := none }]
def c13_r13 : List SIns := [
  { dst := some 4, op := SOp.mv (Operand.const (Value.bool false)), guard := none }]
def c13_r14 : List SIns := [
  { dst := some 86, op := SOp.mv (Operand.tmp 12), guard := none },
  { dst := some 87, op := SOp.ib (BinOp.add) (Operand.tmp 86) (Operand.const (Value.int (IntKind.i64) 1)), guard := none },
  { dst := some 88, op := SOp.mv (Operand.const (Value.int (IntKind.i64) 0)), guard := none }]
def c13_r15 : List SIns := [
  { dst := some 89, op := SOp.ib (BinOp.lss) (Operand.tmp 88) (Operand.tmp 87), guard := none }]
def c13_r16 : List SIns := [
  { dst := some 90, op := SOp.mv (Operand.tmp 88), guard := none },
  { dst := some 13, op := SOp.mv (Operand.tmp 90), guard := none }]
def c13_r17 : List SIns := [
  { dst := some 91, op := SOp.mv (Operand.tmp 7), guard := none },
  { dst := some 92, op := SOp.mv (Operand.tmp 11), guard := none },
  { dst := some 93, op := SOp.slc 1 (Operand.tmp 91) none (some (Operand.tmp 92)) none, guard := none },
  { dst := some 94, op := SOp.call 45 [Operand.tmp 93], guard := none },
  { dst := some 95, op := SOp.mv (Operand.tmp 13), guard := none },
  { dst := some 96, op := SOp.mks 1 1 [Value.int (IntKind.i64) 0] [(0, 1, Operand.tmp 95)], guard := none },
  { dst := some 97, op := SOp.app 1 8 (Operand.tmp 94) (Operand.tmp 96), guard := none },
  { dst := some 14, op := SOp.mv (Operand.tmp 97), guard := none }]
def c13_r18 : List SIns := [
  { dst := some 99, op := SOp.mv (Operand.tmp 5), guard := none },
  { dst := some 100, op := SOp.mv (Operand.tmp 14), guard := none },
  { dst := some 101, op := SOp.call 27 [Operand.tmp 99, Operand.tmp 100], guard := none },
  { dst := some 98, op := SOp.mv (Operand.tmp 101), guard := none },
  { dst := some 102, op := SOp.ext (Operand.tmp 98) 0, guard := none },
  { dst := some 103, op := SOp.ext (Operand.tmp 98) 1, guard := none },
  { dst := some 15, op := SOp.mv (Operand.tmp 102), guard := none },
  { dst := some 16, op := SOp.mv (Operand.tmp 103), guard := none }]
def c13_r19 : List SIns := [
  { dst := some 104, op := SOp.mv (Operand.tmp 5), guard := none },
  { dst := some 105, op := SOp.mv (Operand.tmp 14), guard := none },
  { dst := some 106, op := SOp.call 43 [Operand.tmp 104, Operand.tmp 105], guard := none },
  { dst := some 107, op := SOp.nt (Operand.tmp 106), guard := none }]
def c13_r20 : List SIns := [
  { dst := some 108, op := SOp.mv (Operand.tmp 16), guard := none },
  { dst := some 109, op := SOp.ib (BinOp.neq) (Operand.tmp 108) (Operand.const (Value.int (IntKind.i64) 12)), guard := none },
  { dst := some 110, op := SOp.mv (Operand.tmp 109), guard := none },
  { dst := some 111, op := SOp.mv (Operand.tmp 15), guard := some (110, false) },
  { dst := some 112, op := SOp.pick (Operand.tmp 110) (Operand.const (Value.bool true)) (Operand.tmp 111), guard := none }]
def c13_r21 : List SIns := [
  { dst := some 4, op := SOp.mv (Operand.const (Value.bool false)), guard := none }]
def c13_r22 : List SIns := [
  { dst := some 114, op := SOp.mv (Operand.tmp 5), guard := none },
  { dst := some 115, op := SOp.mv (Operand.tmp 14), guard := none },
  { dst := some 116, op := SOp.call 25 [Operand.tmp 114, Operand.tmp 115], guard := none },
  { dst := some 113, op := SOp.mv (Operand.tmp 116), guard := none },
  { dst := some 117, op := SOp.ext (Operand.tmp 113) 0, guard := none },
  { dst := some 118, op := SOp.ext (Operand.tmp 113) 1, guard := none },
  { dst := some 17, op := SOp.mv (Operand.tmp 117), guard := none },
  { dst := some 18, op := SOp.mv (Operand.tmp 118), guard := none }]
def c13_r23 : List SIns := [
  { dst := some 119, op := SOp.mv (Operand.tmp 5), guard := none },
  { dst := some 120, op := SOp.mv (Operand.tmp 14), guard := none },
  { dst := some 121, op := SOp.call 44 [Operand.tmp 119, Operand.tmp 120], guard := none },
  { dst := some 19, op := SOp.alloc [Value.int (IntKind.i64) 0, Value.int (IntKind.i64) 0, Value.int (IntKind.i64) 0, Value.int (IntKind.i64) 0], guard := none },
  { dst := none, op := SOp.store 4 (Operand.tmp 19) (Operand.tmp 121), guard := none }]
def c13_r24 : List SIns := [
  { dst := some 122, op := SOp.mv (Operand.tmp 16), guard := none },
  { dst := some 123, op := SOp.ib (BinOp.neq) (Operand.tmp 122) (Operand.const (Value.int (IntKind.i64) 0)), guard := none },
  { dst := some 124, op := SOp.mv (Operand.tmp 123), guard := none },
  { dst := some 125, op := SOp.mv (Operand.tmp 18), guard := some (124, false) },
  { dst := some 126, op := SOp.ib (BinOp.neq) (Operand.tmp 125) (Operand.const (Value.int (IntKind.i64) 0)), guard := some (124, false) },
  { dst := some 127, op := SOp.pick (Operand.tmp 124) (Operand.const (Value.bool true)) (Operand.tmp 126), guard := none },
  { dst := some 128, op := SOp.mv (Operand.tmp 127), guard := none },
  { dst := some 129, op := SOp.mv (Operand.tmp 17), guard := some (128, false) },
  { dst := some 130, op := SOp.mv (Operand.tmp 5), guard := some (128, false) },
  { dst := some 131, op := SOp.lenSl (Operand.tmp 130), guard := some (128, false) },
  { dst := some 132, op := SOp.slcA 4 1 (Operand.tmp 19) none (some (Operand.tmp 131)) none, guard := some (128, false) },
  { dst := some 133, op := SOp.call 29 [Operand.tmp 129, Operand.tmp 132], guard := some (128, false) },
  { dst := some 134, op := SOp.nt (Operand.tmp 133), guard := some (128, false) },
  { dst := some 135, op := SOp.pick (Operand.tmp 128) (Operand.const (Value.bool true)) (Operand.tmp 134), guard := none },
  { dst := some 136, op := SOp.mv (Operand.tmp 135), guard := none },
  { dst := some 137, op := SOp.mv (Operand.tmp 15), guard := some (136, false) },
  { dst := some 138, op := SOp.mv (Operand.tmp 13), guard := some (136, false) },
  { dst := some 139, op := SOp.mv (Operand.tmp 12), guard := some (136, false) },
  { dst := some 140, op := SOp.ib (BinOp.eql) (Operand.tmp 138) (Operand.tmp 139), guard := some (136, false) },
  { dst := some 141, op := SOp.bb true (Operand.tmp 137) (Operand.tmp 140), guard := some (136, false) },
  { dst := some 142, op := SOp.pick (Operand.tmp 136) (Operand.const (Value.bool true)) (Operand.tmp 141), guard := none }]
def c13_r25 : List SIns := [
  { dst := some 4, op := SOp.mv (Operand.const (Value.bool false)), guard := none }]
def c13_r26 : List SIns := [
  { dst := some 143, op := SOp.ib (BinOp.add) (Operand.tmp 88) (Operand.const (Value.int (IntKind.i64) 1)), guard := none },
  { dst := some 88, op := SOp.mv (Operand.tmp 143), guard := none }]
def c13_l0 : SCode := (.seq (.reg c13_r15 [5, 7, 11, 12, 71, 72, 73, 87, 88, 89]) (.seq (.cond (Operand.tmp 89) .skip (.exit 2)) (.seq (.block 3 (.seq (.reg c13_r16 [5, 7, 11, 12, 13, 71, 72, 73, 87, 88]) (.seq (.reg c13_r17 [5, 7, 11, 12, 13, 14, 71, 72, 73, 87, 88]) (.seq (.reg c13_r18 [5, 7, 11, 12, 13, 14, 15, 16, 71, 72, 73, 87, 88]) (.seq (.seq (.reg c13_r19 [5, 7, 11, 12, 13, 14, 15, 16, 71, 72, 73, 87, 88, 107]) (.cond (Operand.tmp 107) (.seq (.seq (.reg c13_r20 [5, 7, 11, 12, 71, 72, 73, 87, 88, 112]) (.cond (Operand.tmp 112) (.seq (.reg c13_r21 [4]) .ret) .skip)) (.exit 3)) .skip)) (.seq (.reg c13_r22 [5, 7, 11, 12, 13, 14, 15, 16, 17, 18, 71, 72, 73, 87, 88]) (.seq (.reg c13_r23 [5, 7, 11, 12, 13, 15, 16, 17, 18, 19, 71, 72, 73, 87, 88]) (.seq (.reg c13_r24 [5, 7, 11, 12, 71, 72, 73, 87, 88, 142]) (.cond (Operand.tmp 142) (.seq (.reg c13_r25 [4]) .ret) .skip))))))))) (.reg c13_r26 [5, 7, 11, 12, 71, 72, 73, 87, 88]))))
def c13_r27 : List SIns := [
  { dst := some 144, op := SOp.ib (BinOp.add) (Operand.tmp 73) (Operand.const (Value.int (IntKind.i64) 1)), guard := none },
  { dst := some 73, op := SOp.mv (Operand.tmp 144), guard := none }]
def c13_l1 : SCode := (.seq (.reg c13_r10 [5, 7, 71, 72, 73, 74]) (.seq (.cond (Operand.tmp 74) .skip (.exit 0)) (.seq (.block 1 (.seq (.reg c13_r11 [5, 7, 11, 12, 71, 72, 73]) (.seq (.seq (.reg c13_r12 [5, 7, 11, 12, 71, 72, 73, 85]) (.cond (Operand.tmp 85) (.seq (.reg c13_r13 [4]) .ret) .skip)) (.seq (.reg c13_r14 [5, 7, 11, 12, 71, 72, 73, 87, 88]) (.block 2 (.loop c13_l0)))))) (.reg c13_r27 [5, 7, 71, 72, 73]))))
def c13_r28 : List SIns := [
  { dst := some 145, op := SOp.call 16 [], guard := none },
  { dst := some 4, op := SOp.mv (Operand.tmp 145), guard := none }]
def c13 : SCode := (.seq (.reg c13_r0 [1, 2]) (.seq (.reg c13_r1 [1, 5]) (.seq (.reg c13_r2 [5, 6]) (.seq (.reg c13_r3 [5, 6, 7, 8]) (.seq (.seq (.reg c13_r4 [5, 6, 7, 8, 33]) (.cond (Operand.tmp 33) (.seq (.reg c13_r5 [7, 8, 9, 10]) (.seq (.reg c13_r6 [4]) .ret)) .skip)) (.seq (.seq (.reg c13_r7 [5, 7, 70]) (.cond (Operand.tmp 70) (.seq (.reg c13_r8 [4]) .ret) .skip)) (.seq (.seq (.reg c13_r9 [5, 7, 71, 72, 73]) (.block 0 (.loop c13_l1))) (.seq (.reg c13_r28 [4]) .ret))))))))
theorem F13 : Fn Try.prog 13 c13 [SRes.tmp 4] 146 := ⟨Try.f13, Try.f13.body.getD .skip, [[1, 2], [1, 5], [5, 6], [5, 6, 7, 8], [5, 6, 7, 8, 33], [7, 8, 9, 10], [4], [5, 7, 70], [4], [5, 7, 71, 72, 73], [5, 7, 71, 72, 73, 74], [5, 7, 11, 12, 71, 72, 73], [5, 7, 11, 12, 71, 72, 73, 85], [4], [5, 7, 11, 12, 71, 72, 73, 87, 88], [5, 7, 11, 12, 71, 72, 73, 87, 88, 89], [5, 7, 11, 12, 13, 71, 72, 73, 87, 88], [5, 7, 11, 12, 13, 14, 71, 72, 73, 87, 88], [5, 7, 11, 12, 13, 14, 15, 16, 71, 72, 73, 87, 88], [5, 7, 11, 12, 13, 14, 15, 16, 71, 72, 73, 87, 88, 107], [5, 7, 11, 12, 71, 72, 73, 87, 88, 112], [4], [5, 7, 11, 12, 13, 14, 15, 16, 17, 18, 71, 72, 73, 87, 88], [5, 7, 11, 12, 13, 15, 16, 17, 18, 19, 71, 72, 73, 87, 88], [5, 7, 11, 12, 71, 72, 73, 87, 88, 142], [4], [5, 7, 11, 12, 71, 72, 73, 87, 88], [5, 7, 71, 72, 73], [4]], Try.func13, by kernel_rfl, by kernel_rfl, by kernel_rfl, by kernel_rfl, by decide⟩
end Go.Sx.Wk
/- The codes of the functions, written by a program (Gen.lean), and that they are the functions'. No conditions. -/
set_option linter.unusedVariables false
set_option maxRecDepth 100000
namespace Go.Sx.Wk
open Go Go.Sx Go.Proofs

def c42_r0 : List SIns := [
  { dst := some 3, op := SOp.box (Operand.tmp 0), guard := none },
  { dst := some 6, op := SOp.mv (Operand.const (Value.slice none 0 0)), guard := none }]
def c42_r1 : List SIns := [
  { dst := some 7, op := SOp.mv (Operand.const (Value.slice none 0 0)), guard := none }]
def c42_r2 : List SIns := [
  { dst := some 10, op := SOp.off 1 (Operand.tmp 3), guard := none },
  { dst := some 11, op := SOp.off 0 (Operand.tmp 3), guard := none },
  { dst := some 12, op := SOp.load1 (Operand.tmp 11), guard := none },
  { dst := some 13, op := SOp.ci (IntKind.i64) (Operand.tmp 12), guard := none },
  { dst := some 14, op := SOp.mv (Operand.tmp 1), guard := none },
  { dst := some 15, op := SOp.ib (BinOp.rem) (Operand.tmp 13) (Operand.tmp 14), guard := none },
  { dst := some 16, op := SOp.ib (BinOp.add) (Operand.const (Value.int (IntKind.i64) 1)) (Operand.tmp 15), guard := none },
  { dst := some 17, op := SOp.slcA 4 1 (Operand.tmp 10) none (some (Operand.tmp 16)) none, guard := none },
  { dst := some 18, op := SOp.lenSl (Operand.tmp 17), guard := none },
  { dst := some 19, op := SOp.mv (Operand.const (Value.int (IntKind.i64) 0)), guard := none }]
def c42_r3 : List SIns := [
  { dst := some 20, op := SOp.ib (BinOp.lss) (Operand.tmp 19) (Operand.tmp 18), guard := none }]
def c42_r4 : List SIns := [
  { dst := some 21, op := SOp.idx 1 (Operand.tmp 17) (Operand.tmp 19), guard := none },
  { dst := some 22, op := SOp.load1 (Operand.tmp 21), guard := none },
  { dst := some 9, op := SOp.mv (Operand.tmp 22), guard := none }]
def c42_r5 : List SIns := [
  { dst := some 23, op := SOp.mv (Operand.tmp 7), guard := none },
  { dst := some 24, op := SOp.mv (Operand.tmp 9), guard := none },
  { dst := some 25, op := SOp.ci (IntKind.i64) (Operand.tmp 24), guard := none },
  { dst := some 26, op := SOp.mv (Operand.tmp 2), guard := none },
  { dst := some 27, op := SOp.ib (BinOp.rem) (Operand.tmp 25) (Operand.tmp 26), guard := none },
  { dst := some 28, op := SOp.ib (BinOp.add) (Operand.const (Value.int (IntKind.i64) 1)) (Operand.tmp 27), guard := none },
  { dst := some 29, op := SOp.mks 1 1 [Value.int (IntKind.i64) 0] [(0, 1, Operand.tmp 28)], guard := none },
  { dst := some 30, op := SOp.app 1 8 (Operand.tmp 23) (Operand.tmp 29), guard := none },
  { dst := some 7, op := SOp.mv (Operand.tmp 30), guard := none }]
def c42_r6 : List SIns := [
  { dst := some 31, op := SOp.ib (BinOp.add) (Operand.tmp 19) (Operand.const (Value.int (IntKind.i64) 1)), guard := none },
  { dst := some 19, op := SOp.mv (Operand.tmp 31), guard := none }]
def c42_l0 : SCode := (.seq (.reg c42_r3 [2, 7, 17, 18, 19, 20]) (.seq (.cond (Operand.tmp 20) .skip (.exit 0)) (.seq (.block 1 (.seq (.reg c42_r4 [2, 7, 9, 17, 18, 19]) (.reg c42_r5 [2, 7, 17, 18, 19]))) (.reg c42_r6 [2, 7, 17, 18, 19]))))
def c42_r7 : List SIns := [
  { dst := some 32, op := SOp.mv (Operand.tmp 7), guard := none },
  { dst := some 6, op := SOp.mv (Operand.tmp 32), guard := none }]
def c42 : SCode := (.seq (.reg c42_r0 [1, 2, 3]) (.seq (.reg c42_r1 [1, 2, 3, 7]) (.seq (.seq (.reg c42_r2 [2, 7, 17, 18, 19]) (.block 0 (.loop c42_l0))) (.seq (.reg c42_r7 [6]) .ret))))
theorem F42 : Fn Try.prog 42 c42 [SRes.tmp 6] 33 := ⟨Try.f42, Try.f42.body.getD .skip, [[1, 2, 3], [1, 2, 3, 7], [2, 7, 17, 18, 19], [2, 7, 17, 18, 19, 20], [2, 7, 9, 17, 18, 19], [2, 7, 17, 18, 19], [2, 7, 17, 18, 19], [6]], Try.func42, by kernel_rfl, by kernel_rfl, by kernel_rfl, by kernel_rfl, by decide⟩
end Go.Sx.Wk
/- The codes of the functions, written by a program (Gen.lean), and that they are the functions'. No conditions. -/
set_option linter.unusedVariables false
set_option maxRecDepth 100000
namespace Go.Sx.Wk
open Go Go.Sx Go.Proofs

def c43_r0 : List SIns := [
  { dst := some 4, op := SOp.mv (Operand.const (Value.bool false)), guard := none }]
def c43_r1 : List SIns := [
  { dst := some 8, op := SOp.mv (Operand.tmp 0), guard := none },
  { dst := some 9, op := SOp.lenSl (Operand.tmp 8), guard := none },
  { dst := some 10, op := SOp.mv (Operand.const (Value.int (IntKind.i64) 0)), guard := none }]
def c43_r2 : List SIns := [
  { dst := some 11, op := SOp.ib (BinOp.lss) (Operand.tmp 10) (Operand.tmp 9), guard := none }]
def c43_r3 : List SIns := [
  { dst := some 12, op := SOp.mv (Operand.tmp 10), guard := none },
  { dst := some 13, op := SOp.idx 1 (Operand.tmp 8) (Operand.tmp 10), guard := none },
  { dst := some 14, op := SOp.load1 (Operand.tmp 13), guard := none },
  { dst := some 5, op := SOp.mv (Operand.tmp 12), guard := none },
  { dst := some 6, op := SOp.mv (Operand.tmp 14), guard := none }]
def c43_r4 : List SIns := [
  { dst := some 7, op := SOp.mv (Operand.const (Value.int (IntKind.i64) 0)), guard := none }]
def c43_r5 : List SIns := [
  { dst := some 15, op := SOp.mv (Operand.tmp 7), guard := none },
  { dst := some 16, op := SOp.mv (Operand.tmp 6), guard := none },
  { dst := some 17, op := SOp.ib (BinOp.add) (Operand.tmp 15) (Operand.tmp 16), guard := none },
  { dst := some 18, op := SOp.mv (Operand.tmp 1), guard := none },
  { dst := some 19, op := SOp.lenSl (Operand.tmp 18), guard := none },
  { dst := some 20, op := SOp.ib (BinOp.leq) (Operand.tmp 17) (Operand.tmp 19), guard := none }]
def c43_r6 : List SIns := [
  { dst := some 23, op := SOp.mv (Operand.tmp 1), guard := none },
  { dst := some 24, op := SOp.mv (Operand.tmp 7), guard := none },
  { dst := some 25, op := SOp.mv (Operand.tmp 7), guard := none },
  { dst := some 26, op := SOp.mv (Operand.tmp 6), guard := none },
  { dst := some 27, op := SOp.ib (BinOp.add) (Operand.tmp 25) (Operand.tmp 26), guard := none },
  { dst := some 28, op := SOp.slc 1 (Operand.tmp 23) (some (Operand.tmp 24)) (some (Operand.tmp 27)) none, guard := none },
  { dst := some 29, op := SOp.mv (Operand.tmp 5), guard := none },
  { dst := some 30, op := SOp.call 72 [Operand.tmp 28, Operand.tmp 29], guard := none },
  { dst := some 31, op := SOp.nt (Operand.tmp 30), guard := none }]
def c43_r7 : List SIns := [
  { dst := some 4, op := SOp.mv (Operand.const (Value.bool false)), guard := none }]
def c43_r8 : List SIns := [
  { dst := some 21, op := SOp.mv (Operand.tmp 7), guard := none },
  { dst := some 22, op := SOp.ib (BinOp.add) (Operand.tmp 21) (Operand.const (Value.int (IntKind.i64) 1)), guard := none },
  { dst := some 7, op := SOp.mv (Operand.tmp 22), guard := none }]
def c43_l0 : SCode := (.seq (.seq (.reg c43_r5 [1, 5, 6, 7, 8, 9, 10, 20]) (.cond (Operand.tmp 20) .skip (.exit 2))) (.seq (.block 3 (.seq (.reg c43_r6 [1, 5, 6, 7, 8, 9, 10, 31]) (.cond (Operand.tmp 31) (.seq (.reg c43_r7 [4]) .ret) .skip))) (.reg c43_r8 [1, 5, 6, 7, 8, 9, 10])))
def c43_r9 : List SIns := [
  { dst := some 32, op := SOp.ib (BinOp.add) (Operand.tmp 10) (Operand.const (Value.int (IntKind.i64) 1)), guard := none },
  { dst := some 10, op := SOp.mv (Operand.tmp 32), guard := none }]
def c43_l1 : SCode := (.seq (.reg c43_r2 [1, 8, 9, 10, 11]) (.seq (.cond (Operand.tmp 11) .skip (.exit 0)) (.seq (.block 1 (.seq (.reg c43_r3 [1, 5, 6, 8, 9, 10]) (.seq (.reg c43_r4 [1, 5, 6, 7, 8, 9, 10]) (.block 2 (.loop c43_l0))))) (.reg c43_r9 [1, 8, 9, 10]))))
def c43_r10 : List SIns := [
  { dst := some 4, op := SOp.mv (Operand.const (Value.bool true)), guard := none }]
def c43 : SCode := (.seq (.reg c43_r0 [0, 1]) (.seq (.seq (.reg c43_r1 [1, 8, 9, 10]) (.block 0 (.loop c43_l1))) (.seq (.reg c43_r10 [4]) .ret)))
theorem F43 : Fn Try.prog 43 c43 [SRes.tmp 4] 33 := ⟨Try.f43, Try.f43.body.getD .skip, [[0, 1], [1, 8, 9, 10], [1, 8, 9, 10, 11], [1, 5, 6, 8, 9, 10], [1, 5, 6, 7, 8, 9, 10], [1, 5, 6, 7, 8, 9, 10, 20], [1, 5, 6, 7, 8, 9, 10, 31], [4], [1, 5, 6, 7, 8, 9, 10], [1, 8, 9, 10], [4]], Try.func43, by kernel_rfl, by kernel_rfl, by kernel_rfl, by kernel_rfl, by decide⟩
end Go.Sx.Wk
/- The codes of the functions, written by a program (Gen.lean), and that they are the functions'. No conditions. -/
set_option linter.unusedVariables false
set_option maxRecDepth 100000
namespace Go.Sx.Wk
open Go Go.Sx Go.Proofs

def c44_r0 : List SIns := [
  { dst := some 4, op := SOp.alloc [Value.int (IntKind.i64) 0, Value.int (IntKind.i64) 0, Value.int (IntKind.i64) 0, Value.int (IntKind.i64) 0], guard := none }]
def c44_r1 : List SIns := [
  { dst := some 5, op := SOp.alloc [Value.int (IntKind.i64) 0, Value.int (IntKind.i64) 0, Value.int (IntKind.i64) 0, Value.int (IntKind.i64) 0], guard := none }]
def c44_r2 : List SIns := [
  { dst := some 11, op := SOp.mv (Operand.tmp 0), guard := none },
  { dst := some 12, op := SOp.lenSl (Operand.tmp 11), guard := none },
  { dst := some 13, op := SOp.mv (Operand.const (Value.int (IntKind.i64) 0)), guard := none }]
def c44_r3 : List SIns := [
  { dst := some 14, op := SOp.ib (BinOp.lss) (Operand.tmp 13) (Operand.tmp 12), guard := none }]
def c44_r4 : List SIns := [
  { dst := some 15, op := SOp.mv (Operand.tmp 13), guard := none },
  { dst := some 16, op := SOp.idx 1 (Operand.tmp 11) (Operand.tmp 13), guard := none },
  { dst := some 17, op := SOp.load1 (Operand.tmp 16), guard := none },
  { dst := some 6, op := SOp.mv (Operand.tmp 15), guard := none },
  { dst := some 7, op := SOp.mv (Operand.tmp 17), guard := none }]
def c44_r5 : List SIns := [
  { dst := some 18, op := SOp.mv (Operand.tmp 1), guard := none },
  { dst := some 19, op := SOp.lenSl (Operand.tmp 18), guard := none },
  { dst := some 8, op := SOp.mv (Operand.tmp 19), guard := none }]
def c44_r6 : List SIns := [
  { dst := some 20, op := SOp.mv (Operand.tmp 1), guard := none },
  { dst := some 21, op := SOp.lenSl (Operand.tmp 20), guard := none },
  { dst := some 22, op := SOp.mv (Operand.const (Value.int (IntKind.i64) 0)), guard := none }]
def c44_r7 : List SIns := [
  { dst := some 23, op := SOp.ib (BinOp.lss) (Operand.tmp 22) (Operand.tmp 21), guard := none }]
def c44_r8 : List SIns := [
  { dst := some 24, op := SOp.mv (Operand.tmp 22), guard := none },
  { dst := some 25, op := SOp.idx 1 (Operand.tmp 20) (Operand.tmp 22), guard := none },
  { dst := some 26, op := SOp.load1 (Operand.tmp 25), guard := none },
  { dst := some 9, op := SOp.mv (Operand.tmp 24), guard := none },
  { dst := some 10, op := SOp.mv (Operand.tmp 26), guard := none }]
def c44_r9 : List SIns := [
  { dst := some 27, op := SOp.mv (Operand.tmp 10), guard := none },
  { dst := some 28, op := SOp.mv (Operand.tmp 6), guard := none },
  { dst := some 29, op := SOp.ib (BinOp.eql) (Operand.tmp 27) (Operand.tmp 28), guard := none }]
def c44_r10 : List SIns := [
  { dst := some 30, op := SOp.mv (Operand.tmp 1), guard := none },
  { dst := some 31, op := SOp.lenSl (Operand.tmp 30), guard := none },
  { dst := some 32, op := SOp.ib (BinOp.sub) (Operand.tmp 31) (Operand.const (Value.int (IntKind.i64) 1)), guard := none },
  { dst := some 33, op := SOp.mv (Operand.tmp 9), guard := none },
  { dst := some 34, op := SOp.ib (BinOp.sub) (Operand.tmp 32) (Operand.tmp 33), guard := none },
  { dst := some 8, op := SOp.mv (Operand.tmp 34), guard := none }]
def c44_r11 : List SIns := [
  { dst := some 35, op := SOp.ib (BinOp.add) (Operand.tmp 22) (Operand.const (Value.int (IntKind.i64) 1)), guard := none },
  { dst := some 22, op := SOp.mv (Operand.tmp 35), guard := none }]
def c44_l0 : SCode := (.seq (.reg c44_r7 [1, 4, 5, 6, 7, 8, 11, 12, 13, 20, 21, 22, 23]) (.seq (.cond (Operand.tmp 23) .skip (.exit 2)) (.seq (.block 3 (.seq (.reg c44_r8 [1, 4, 5, 6, 7, 8, 9, 10, 11, 12, 13, 20, 21, 22]) (.seq (.reg c44_r9 [1, 4, 5, 6, 7, 8, 9, 11, 12, 13, 20, 21, 22, 29]) (.cond (Operand.tmp 29) (.reg c44_r10 [1, 4, 5, 6, 7, 8, 11, 12, 13, 20, 21, 22]) .skip)))) (.reg c44_r11 [1, 4, 5, 6, 7, 8, 11, 12, 13, 20, 21, 22]))))
def c44_r12 : List SIns := [
  { dst := some 36, op := SOp.mv (Operand.tmp 6), guard := none },
  { dst := some 37, op := SOp.mv (Operand.tmp 7), guard := none },
  { dst := some 38, op := SOp.mv (Operand.tmp 8), guard := none },
  { dst := some 39, op := SOp.ib (BinOp.sub) (Operand.tmp 37) (Operand.tmp 38), guard := none },
  { dst := some 40, op := SOp.idxA 4 1 (Operand.tmp 5) (Operand.tmp 36), guard := none },
  { dst := none, op := SOp.store 1 (Operand.tmp 40) (Operand.tmp 39), guard := none }]
def c44_r13 : List SIns := [
  { dst := some 41, op := SOp.ib (BinOp.add) (Operand.tmp 13) (Operand.const (Value.int (IntKind.i64) 1)), guard := none },
  { dst := some 13, op := SOp.mv (Operand.tmp 41), guard := none }]
def c44_l1 : SCode := (.seq (.reg c44_r3 [1, 4, 5, 11, 12, 13, 14]) (.seq (.cond (Operand.tmp 14) .skip (.exit 0)) (.seq (.block 1 (.seq (.reg c44_r4 [1, 4, 5, 6, 7, 11, 12, 13]) (.seq (.reg c44_r5 [1, 4, 5, 6, 7, 8, 11, 12, 13]) (.seq (.seq (.reg c44_r6 [1, 4, 5, 6, 7, 8, 11, 12, 13, 20, 21, 22]) (.block 2 (.loop c44_l0))) (.reg c44_r12 [1, 4, 5, 11, 12, 13]))))) (.reg c44_r13 [1, 4, 5, 11, 12, 13]))))
def c44_r14 : List SIns := [
  { dst := some 42, op := SOp.loadN 4 (Operand.tmp 5), guard := none },
  { dst := none, op := SOp.store 4 (Operand.tmp 4) (Operand.tmp 42), guard := none }]
def c44 : SCode := (.seq (.reg c44_r0 [0, 1, 4]) (.seq (.reg c44_r1 [0, 1, 4, 5]) (.seq (.seq (.reg c44_r2 [1, 4, 5, 11, 12, 13]) (.block 0 (.loop c44_l1))) (.seq (.reg c44_r14 [4]) .ret))))
theorem F44 : Fn Try.prog 44 c44 [SRes.cell 4 (some 4)] 43 := ⟨Try.f44, Try.f44.body.getD .skip, [[0, 1, 4], [0, 1, 4, 5], [1, 4, 5, 11, 12, 13], [1, 4, 5, 11, 12, 13, 14], [1, 4, 5, 6, 7, 11, 12, 13], [1, 4, 5, 6, 7, 8, 11, 12, 13], [1, 4, 5, 6, 7, 8, 11, 12, 13, 20, 21, 22], [1, 4, 5, 6, 7, 8, 11, 12, 13, 20, 21, 22, 23], [1, 4, 5, 6, 7, 8, 9, 10, 11, 12, 13, 20, 21, 22], [1, 4, 5, 6, 7, 8, 9, 11, 12, 13, 20, 21, 22, 29], [1, 4, 5, 6, 7, 8, 11, 12, 13, 20, 21, 22], [1, 4, 5, 6, 7, 8, 11, 12, 13, 20, 21, 22], [1, 4, 5, 11, 12, 13], [1, 4, 5, 11, 12, 13], [4]], Try.func44, by kernel_rfl, by kernel_rfl, by kernel_rfl, by kernel_rfl, by decide⟩
end Go.Sx.Wk
/- The codes of the functions, written by a program (Gen.lean), and that they are the functions'. No conditions. -/
set_option linter.unusedVariables false
set_option maxRecDepth 100000
namespace Go.Sx.Wk
open Go Go.Sx Go.Proofs

def c45_r0 : List SIns := [
  { dst := some 2, op := SOp.mv (Operand.const (Value.slice none 0 0)), guard := none }]
def c45_r1 : List SIns := [
  { dst := some 3, op := SOp.mv (Operand.tmp 0), guard := none },
  { dst := some 4, op := SOp.eqn false (TypeDesc.slice 3) (Operand.tmp 3), guard := none }]
def c45_r2 : List SIns := [
  { dst := some 2, op := SOp.mv (Operand.const (Value.slice none 0 0)), guard := none }]
def c45_r3 : List SIns := [
  { dst := some 5, op := SOp.mks0 1, guard := none },
  { dst := some 6, op := SOp.mv (Operand.tmp 0), guard := none },
  { dst := some 7, op := SOp.app 1 8 (Operand.tmp 5) (Operand.tmp 6), guard := none },
  { dst := some 2, op := SOp.mv (Operand.tmp 7), guard := none }]
def c45 : SCode := (.seq (.reg c45_r0 [0]) (.seq (.seq (.reg c45_r1 [0, 4]) (.cond (Operand.tmp 4) (.seq (.reg c45_r2 [2]) .ret) .skip)) (.seq (.reg c45_r3 [2]) .ret)))
theorem F45 : Fn Try.prog 45 c45 [SRes.tmp 2] 8 := ⟨Try.f45, Try.f45.body.getD .skip, [[0], [0, 4], [2], [2]], Try.func45, by kernel_rfl, by kernel_rfl, by kernel_rfl, by kernel_rfl, by decide⟩
end Go.Sx.Wk
/- The codes of the functions, written by a program (Gen.lean), and that they are the functions'. No conditions. -/
set_option linter.unusedVariables false
set_option maxRecDepth 100000
namespace Go.Sx.Wk
open Go Go.Sx Go.Proofs

def c46_r0 : List SIns := [
  { dst := some 2, op := SOp.mv (Operand.const (Value.int (IntKind.i64) 0)), guard := none }]
def c46_r1 : List SIns := [
  { dst := some 3, op := SOp.alloc [Value.int (IntKind.i64) 0, Value.int (IntKind.i64) 0, Value.int (IntKind.i64) 0, Value.int (IntKind.i64) 0], guard := none }]
def c46_r2 : List SIns := [
  { dst := some 20, op := SOp.slcA 4 1 (Operand.tmp 3) none none none, guard := none },
  { dst := some 21, op := SOp.mv (Operand.tmp 0), guard := none },
  { dst := some 22, op := SOp.copy 1 (Operand.tmp 20) (Operand.tmp 21), guard := none }]
def c46_r3 : List SIns := [
  { dst := some 23, op := SOp.loadN 4 (Operand.tmp 3), guard := none },
  { dst := some 24, op := SOp.mks 1 4 [Value.int (IntKind.i64) 0, Value.int (IntKind.i64) 0, Value.int (IntKind.i64) 0, Value.int (IntKind.i64) 0] [(0, 4, Operand.tmp 23)], guard := none },
  { dst := some 4, op := SOp.mv (Operand.tmp 24), guard := none }]
def c46_r4 : List SIns := [
  { dst := some 25, op := SOp.mkmap, guard := none },
  { dst := some 26, op := SOp.loadN 4 (Operand.tmp 3), guard := none },
  { dst := none, op := SOp.mset (KTy.ar 4 (IntKind.i64)) (Operand.tmp 25) (Operand.tmp 26) (Operand.const (Value.int (IntKind.i64) 0)), guard := none },
  { dst := some 27, op := SOp.mv (Operand.tmp 25), guard := none },
  { dst := some 5, op := SOp.mv (Operand.tmp 27), guard := none }]
def c46_r5 : List SIns := [
  { dst := some 6, op := SOp.mv (Operand.const (Value.slice none 0 0)), guard := none }]
def c46_r6 : List SIns := [
  { dst := some 7, op := SOp.mv (Operand.const (Value.int (IntKind.i64) 0)), guard := none }]
def c46_r7 : List SIns := [
  { dst := some 28, op := SOp.mv (Operand.tmp 7), guard := none },
  { dst := some 29, op := SOp.mv (Operand.tmp 4), guard := none },
  { dst := some 30, op := SOp.lenSl (Operand.tmp 29), guard := none },
  { dst := some 31, op := SOp.ib (BinOp.lss) (Operand.tmp 28) (Operand.tmp 30), guard := none }]
def c46_r8 : List SIns := [
  { dst := some 8, op := SOp.mv (Operand.const (Value.slice none 0 0)), guard := none }]
def c46_r9 : List SIns := [
  { dst := some 34, op := SOp.mv (Operand.tmp 0), guard := none },
  { dst := some 35, op := SOp.lenSl (Operand.tmp 34), guard := none },
  { dst := some 36, op := SOp.mv (Operand.const (Value.int (IntKind.i64) 0)), guard := none }]
def c46_r10 : List SIns := [
  { dst := some 37, op := SOp.ib (BinOp.lss) (Operand.tmp 36) (Operand.tmp 35), guard := none }]
def c46_r11 : List SIns := [
  { dst := some 38, op := SOp.mv (Operand.tmp 36), guard := none },
  { dst := some 9, op := SOp.mv (Operand.tmp 38), guard := none }]
def c46_r12 : List SIns := [
  { dst := some 39, op := SOp.mv (Operand.tmp 4), guard := none },
  { dst := some 40, op := SOp.mv (Operand.tmp 7), guard := none },
  { dst := some 41, op := SOp.idx 4 (Operand.tmp 39) (Operand.tmp 40), guard := none },
  { dst := some 42, op := SOp.loadN 4 (Operand.tmp 41), guard := none },
  { dst := some 10, op := SOp.alloc [Value.int (IntKind.i64) 0, Value.int (IntKind.i64) 0, Value.int (IntKind.i64) 0, Value.int (IntKind.i64) 0], guard := none },
  { dst := none, op := SOp.store 4 (Operand.tmp 10) (Operand.tmp 42), guard := none }]
def c46_r13 : List SIns := [
  { dst := some 11, op := SOp.mv (Operand.const (Value.bool true)), guard := none }]
def c46_r14 : List SIns := [
  { dst := some 43, op := SOp.mv (Operand.tmp 0), guard := none },
  { dst := some 44, op := SOp.lenSl (Operand.tmp 43), guard := none },
  { dst := some 45, op := SOp.mv (Operand.const (Value.int (IntKind.i64) 0)), guard := none }]
def c46_r15 : List SIns := [
  { dst := some 46, op := SOp.ib (BinOp.lss) (Operand.tmp 45) (Operand.tmp 44), guard := none }]
def c46_r16 : List SIns := [
  { dst := some 47, op := SOp.mv (Operand.tmp 45), guard := none },
  { dst := some 12, op := SOp.mv (Operand.tmp 47), guard := none }]
def c46_r17 : List SIns := [
  { dst := some 48, op := SOp.mv (Operand.tmp 12), guard := none },
  { dst := some 49, op := SOp.idxA 4 1 (Operand.tmp 10) (Operand.tmp 48), guard := none },
  { dst := some 50, op := SOp.load1 (Operand.tmp 49), guard := none },
  { dst := some 51, op := SOp.ib (BinOp.sub) (Operand.tmp 50) (Operand.const (Value.int (IntKind.i64) 1)), guard := none },
  { dst := some 52, op := SOp.idxA 4 1 (Operand.tmp 10) (Operand.tmp 48), guard := none },
  { dst := none, op := SOp.store 1 (Operand.tmp 52) (Operand.tmp 51), guard := none }]
def c46_r18 : List SIns := [
  { dst := some 53, op := SOp.mv (Operand.tmp 12), guard := none },
  { dst := some 54, op := SOp.mv (Operand.tmp 9), guard := none },
  { dst := some 55, op := SOp.ib (BinOp.neq) (Operand.tmp 53) (Operand.tmp 54), guard := none },
  { dst := some 56, op := SOp.mv (Operand.tmp 55), guard := none },
  { dst := some 57, op := SOp.mv (Operand.tmp 12), guard := some (56, true) },
  { dst := some 58, op := SOp.idxA 4 1 (Operand.tmp 10) (Operand.tmp 57), guard := some (56, true) },
  { dst := some 59, op := SOp.load1 (Operand.tmp 58), guard := some (56, true) },
  { dst := some 60, op := SOp.ib (BinOp.eql) (Operand.tmp 59) (Operand.const (Value.int (IntKind.i64) 0)), guard := some (56, true) },
  { dst := some 61, op := SOp.pick (Operand.tmp 56) (Operand.tmp 60) (Operand.const (Value.bool false)), guard := none }]
def c46_r19 : List SIns := [
  { dst := some 11, op := SOp.mv (Operand.const (Value.bool false)), guard := none }]
def c46_r20 : List SIns := [
  { dst := some 62, op := SOp.ib (BinOp.add) (Operand.tmp 45) (Operand.const (Value.int (IntKind.i64) 1)), guard := none },
  { dst := some 45, op := SOp.mv (Operand.tmp 62), guard := none }]
def c46_l0 : SCode := (.seq (.reg c46_r15 [0, 4, 5, 6, 7, 8, 9, 10, 11, 35, 36, 44, 45, 46]) (.seq (.cond (Operand.tmp 46) .skip (.exit 4)) (.seq (.block 5 (.seq (.reg c46_r16 [0, 4, 5, 6, 7, 8, 9, 10, 11, 12, 35, 36, 44, 45]) (.seq (.reg c46_r17 [0, 4, 5, 6, 7, 8, 9, 10, 11, 12, 35, 36, 44, 45]) (.seq (.reg c46_r18 [0, 4, 5, 6, 7, 8, 9, 10, 11, 35, 36, 44, 45, 61]) (.cond (Operand.tmp 61) (.reg c46_r19 [0, 4, 5, 6, 7, 8, 9, 10, 11, 35, 36, 44, 45]) .skip))))) (.reg c46_r20 [0, 4, 5, 6, 7, 8, 9, 10, 11, 35, 36, 44, 45]))))
def c46_r21 : List SIns := [
  { dst := some 63, op := SOp.mv (Operand.tmp 9), guard := none },
  { dst := some 64, op := SOp.mv (Operand.tmp 0), guard := none },
  { dst := some 65, op := SOp.mv (Operand.tmp 9), guard := none },
  { dst := some 66, op := SOp.idx 1 (Operand.tmp 64) (Operand.tmp 65), guard := none },
  { dst := some 67, op := SOp.load1 (Operand.tmp 66), guard := none },
  { dst := some 68, op := SOp.idxA 4 1 (Operand.tmp 10) (Operand.tmp 63), guard := none },
  { dst := none, op := SOp.store 1 (Operand.tmp 68) (Operand.tmp 67), guard := none }]
def c46_r22 : List SIns := [
  { dst := some 69, op := SOp.mv (Operand.tmp 11), guard := none },
  { dst := some 70, op := SOp.nt (Operand.tmp 69), guard := none }]
def c46_r23 : List SIns := [
  { dst := some 72, op := SOp.mv (Operand.tmp 5), guard := none },
  { dst := some 73, op := SOp.loadN 4 (Operand.tmp 10), guard := none },
  { dst := some 74, op := SOp.look (KTy.ar 4 (IntKind.i64)) (Value.int (IntKind.i64) 0) true (Operand.tmp 72) (Operand.tmp 73), guard := none },
  { dst := some 71, op := SOp.mv (Operand.tmp 74), guard := none },
  { dst := some 75, op := SOp.ext (Operand.tmp 71) 0, guard := none },
  { dst := some 76, op := SOp.ext (Operand.tmp 71) 1, guard := none },
  { dst := some 13, op := SOp.mv (Operand.tmp 75), guard := none },
  { dst := some 14, op := SOp.mv (Operand.tmp 76), guard := none }]
def c46_r24 : List SIns := [
  { dst := some 77, op := SOp.mv (Operand.tmp 14), guard := none },
  { dst := some 78, op := SOp.nt (Operand.tmp 77), guard := none }]
def c46_r25 : List SIns := [
  { dst := some 79, op := SOp.mv (Operand.tmp 5), guard := none },
  { dst := some 80, op := SOp.loadN 4 (Operand.tmp 10), guard := none },
  { dst := some 81, op := SOp.mv (Operand.tmp 4), guard := none },
  { dst := some 82, op := SOp.lenSl (Operand.tmp 81), guard := none },
  { dst := none, op := SOp.mset (KTy.ar 4 (IntKind.i64)) (Operand.tmp 79) (Operand.tmp 80) (Operand.tmp 82), guard := none }]
def c46_r26 : List SIns := [
  { dst := some 83, op := SOp.mv (Operand.tmp 4), guard := none },
  { dst := some 84, op := SOp.loadN 4 (Operand.tmp 10), guard := none },
  { dst := some 85, op := SOp.mks 1 4 [Value.int (IntKind.i64) 0, Value.int (IntKind.i64) 0, Value.int (IntKind.i64) 0, Value.int (IntKind.i64) 0] [(0, 4, Operand.tmp 84)], guard := none },
  { dst := some 86, op := SOp.app 4 32 (Operand.tmp 83) (Operand.tmp 85), guard := none },
  { dst := some 4, op := SOp.mv (Operand.tmp 86), guard := none }]
def c46_r27 : List SIns := [
  { dst := some 87, op := SOp.mv (Operand.tmp 8), guard := none },
  { dst := some 88, op := SOp.mv (Operand.tmp 5), guard := none },
  { dst := some 89, op := SOp.loadN 4 (Operand.tmp 10), guard := none },
  { dst := some 90, op := SOp.look (KTy.ar 4 (IntKind.i64)) (Value.int (IntKind.i64) 0) false (Operand.tmp 88) (Operand.tmp 89), guard := none },
  { dst := some 91, op := SOp.mks 1 1 [Value.int (IntKind.i64) 0] [(0, 1, Operand.tmp 90)], guard := none },
  { dst := some 92, op := SOp.app 1 8 (Operand.tmp 87) (Operand.tmp 91), guard := none },
  { dst := some 8, op := SOp.mv (Operand.tmp 92), guard := none }]
def c46_r28 : List SIns := [
  { dst := some 93, op := SOp.ib (BinOp.add) (Operand.tmp 36) (Operand.const (Value.int (IntKind.i64) 1)), guard := none },
  { dst := some 36, op := SOp.mv (Operand.tmp 93), guard := none }]
def c46_l1 : SCode := (.seq (.reg c46_r10 [0, 4, 5, 6, 7, 8, 35, 36, 37]) (.seq (.cond (Operand.tmp 37) .skip (.exit 2)) (.seq (.block 3 (.seq (.reg c46_r11 [0, 4, 5, 6, 7, 8, 9, 35, 36]) (.seq (.reg c46_r12 [0, 4, 5, 6, 7, 8, 9, 10, 35, 36]) (.seq (.reg c46_r13 [0, 4, 5, 6, 7, 8, 9, 10, 11, 35, 36]) (.seq (.seq (.reg c46_r14 [0, 4, 5, 6, 7, 8, 9, 10, 11, 35, 36, 44, 45]) (.block 4 (.loop c46_l0))) (.seq (.seq (.reg c46_r21 [0, 4, 5, 6, 7, 8, 10, 11, 35, 36]) (.seq (.reg c46_r22 [0, 4, 5, 6, 7, 8, 10, 35, 36, 70]) (.cond (Operand.tmp 70) (.exit 3) .skip))) (.seq (.seq (.reg c46_r23 [0, 4, 5, 6, 7, 8, 10, 14, 35, 36]) (.seq (.reg c46_r24 [0, 4, 5, 6, 7, 8, 10, 35, 36, 78]) (.cond (Operand.tmp 78) (.seq (.reg c46_r25 [0, 4, 5, 6, 7, 8, 10, 35, 36]) (.reg c46_r26 [0, 4, 5, 6, 7, 8, 10, 35, 36])) .skip))) (.reg c46_r27 [0, 4, 5, 6, 7, 8, 35, 36])))))))) (.reg c46_r28 [0, 4, 5, 6, 7, 8, 35, 36]))))
def c46_r29 : List SIns := [
  { dst := some 94, op := SOp.mv (Operand.tmp 6), guard := none },
  { dst := some 95, op := SOp.mv (Operand.tmp 8), guard := none },
  { dst := some 96, op := SOp.mks 1 1 [Value.slice none 0 0] [(0, 1, Operand.tmp 95)], guard := none },
  { dst := some 97, op := SOp.app 1 24 (Operand.tmp 94) (Operand.tmp 96), guard := none },
  { dst := some 6, op := SOp.mv (Operand.tmp 97), guard := none }]
def c46_r30 : List SIns := [
  { dst := some 32, op := SOp.mv (Operand.tmp 7), guard := none },
  { dst := some 33, op := SOp.ib (BinOp.add) (Operand.tmp 32) (Operand.const (Value.int (IntKind.i64) 1)), guard := none },
  { dst := some 7, op := SOp.mv (Operand.tmp 33), guard := none }]
def c46_l2 : SCode := (.seq (.seq (.reg c46_r7 [0, 4, 5, 6, 7, 31]) (.cond (Operand.tmp 31) .skip (.exit 0))) (.seq (.block 1 (.seq (.reg c46_r8 [0, 4, 5, 6, 7, 8]) (.seq (.seq (.reg c46_r9 [0, 4, 5, 6, 7, 8, 35, 36]) (.block 2 (.loop c46_l1))) (.reg c46_r29 [0, 4, 5, 6, 7])))) (.reg c46_r30 [0, 4, 5, 6, 7])))
def c46_r31 : List SIns := [
  { dst := some 98, op := SOp.mv (Operand.tmp 4), guard := none },
  { dst := some 99, op := SOp.lenSl (Operand.tmp 98), guard := none },
  { dst := some 100, op := SOp.mk 1 (Value.bool false) (Operand.tmp 99) (Operand.tmp 99), guard := none },
  { dst := some 15, op := SOp.alloc [Value.slice none 0 0], guard := none },
  { dst := none, op := SOp.store 1 (Operand.tmp 15) (Operand.tmp 100), guard := none }]
def c46_r32 : List SIns := [
  { dst := some 16, op := SOp.mv (Operand.const (Value.int (IntKind.i64) 0)), guard := none }]
def c46_r33 : List SIns := [
  { dst := some 103, op := SOp.load1 (Operand.tmp 15), guard := none },
  { dst := some 104, op := SOp.call 73 [Operand.tmp 103], guard := none },
  { dst := some 17, op := SOp.mv (Operand.tmp 104), guard := none }]
def c46_r34 : List SIns := [
  { dst := some 105, op := SOp.mv (Operand.tmp 6), guard := none },
  { dst := some 106, op := SOp.lenSl (Operand.tmp 105), guard := none },
  { dst := some 107, op := SOp.mv (Operand.const (Value.int (IntKind.i64) 0)), guard := none }]
def c46_r35 : List SIns := [
  { dst := some 108, op := SOp.ib (BinOp.lss) (Operand.tmp 107) (Operand.tmp 106), guard := none }]
def c46_r36 : List SIns := [
  { dst := some 109, op := SOp.mv (Operand.tmp 107), guard := none },
  { dst := some 110, op := SOp.idx 1 (Operand.tmp 105) (Operand.tmp 107), guard := none },
  { dst := some 111, op := SOp.load1 (Operand.tmp 110), guard := none },
  { dst := some 18, op := SOp.mv (Operand.tmp 109), guard := none },
  { dst := some 19, op := SOp.mv (Operand.tmp 111), guard := none }]
def c46_r37 : List SIns := [
  { dst := some 112, op := SOp.mv (Operand.tmp 17), guard := none },
  { dst := some 113, op := SOp.mv (Operand.tmp 18), guard := none },
  { dst := some 114, op := SOp.mv (Operand.tmp 19), guard := none },
  { dst := some 115, op := SOp.mkfn (Fn.func 74) [] [Operand.tmp 15], guard := none },
  { dst := some 116, op := SOp.call 58 [Operand.tmp 114, Operand.tmp 115], guard := none },
  { dst := some 117, op := SOp.nt (Operand.tmp 116), guard := none },
  { dst := some 118, op := SOp.idx 1 (Operand.tmp 112) (Operand.tmp 113), guard := none },
  { dst := none, op := SOp.store 1 (Operand.tmp 118) (Operand.tmp 117), guard := none }]
def c46_r38 : List SIns := [
  { dst := some 119, op := SOp.ib (BinOp.add) (Operand.tmp 107) (Operand.const (Value.int (IntKind.i64) 1)), guard := none },
  { dst := some 107, op := SOp.mv (Operand.tmp 119), guard := none }]
def c46_l3 : SCode := (.seq (.reg c46_r35 [6, 15, 16, 17, 105, 106, 107, 108]) (.seq (.cond (Operand.tmp 108) .skip (.exit 8)) (.seq (.block 9 (.seq (.reg c46_r36 [6, 15, 16, 17, 18, 19, 105, 106, 107]) (.reg c46_r37 [6, 15, 16, 17, 105, 106, 107]))) (.reg c46_r38 [6, 15, 16, 17, 105, 106, 107]))))
def c46_r39 : List SIns := [
  { dst := some 121, op := SOp.mv (Operand.tmp 17), guard := none },
  { dst := some 122, op := SOp.idx 1 (Operand.tmp 121) (Operand.const (Value.int (IntKind.i64) 0)), guard := none },
  { dst := some 123, op := SOp.load1 (Operand.tmp 122), guard := none },
  { dst := some 120, op := SOp.mv (Operand.tmp 123), guard := none }]
def c46_r40 : List SIns := [
  { dst := some 124, op := SOp.mv (Operand.tmp 16), guard := none },
  { dst := some 2, op := SOp.mv (Operand.tmp 124), guard := none }]
def c46_r41 : List SIns := [
  { dst := some 126, op := SOp.mv (Operand.tmp 17), guard := none },
  { dst := some 127, op := SOp.load1 (Operand.tmp 15), guard := none },
  { dst := some 128, op := SOp.call 75 [Operand.tmp 126, Operand.tmp 127], guard := none },
  { dst := some 125, op := SOp.mv (Operand.tmp 128), guard := none }]
def c46_r42 : List SIns := [
  { dst := some 2, op := SOp.mv (Operand.const (Value.int (IntKind.i64) (-1))), guard := none }]
def c46_r43 : List SIns := [
  { dst := some 129, op := SOp.mv (Operand.tmp 17), guard := none },
  { dst := none, op := SOp.store 1 (Operand.tmp 15) (Operand.tmp 129), guard := none }]
def c46_r44 : List SIns := [
  { dst := some 101, op := SOp.mv (Operand.tmp 16), guard := none },
  { dst := some 102, op := SOp.ib (BinOp.add) (Operand.tmp 101) (Operand.const (Value.int (IntKind.i64) 1)), guard := none },
  { dst := some 16, op := SOp.mv (Operand.tmp 102), guard := none }]
def c46_l4 : SCode := (.seq (.block 7 (.seq (.reg c46_r33 [6, 15, 16, 17]) (.seq (.seq (.reg c46_r34 [6, 15, 16, 17, 105, 106, 107]) (.block 8 (.loop c46_l3))) (.seq (.block 10 (.seq (.reg c46_r39 [6, 15, 16, 17, 120]) (.cond (Operand.tmp 120) (.seq (.reg c46_r40 [2]) .ret) (.seq (.reg c46_r41 [6, 15, 16, 17, 125]) (.cond (Operand.tmp 125) (.seq (.reg c46_r42 [2]) .ret) .skip))))) (.reg c46_r43 [6, 15, 16]))))) (.reg c46_r44 [6, 15, 16]))
def c46 : SCode := (.seq (.reg c46_r0 [0]) (.seq (.reg c46_r1 [0, 3]) (.seq (.reg c46_r2 [0, 3]) (.seq (.reg c46_r3 [0, 3, 4]) (.seq (.reg c46_r4 [0, 4, 5]) (.seq (.reg c46_r5 [0, 4, 5, 6]) (.seq (.seq (.reg c46_r6 [0, 4, 5, 6, 7]) (.block 0 (.loop c46_l2))) (.seq (.reg c46_r31 [6, 15]) (.seq (.reg c46_r32 [6, 15, 16]) (.block 6 (.loop c46_l4)))))))))))
theorem F46 : Fn Try.prog 46 c46 [SRes.tmp 2] 130 := ⟨Try.f46, Try.f46.body.getD .skip, [[0], [0, 3], [0, 3], [0, 3, 4], [0, 4, 5], [0, 4, 5, 6], [0, 4, 5, 6, 7], [0, 4, 5, 6, 7, 31], [0, 4, 5, 6, 7, 8], [0, 4, 5, 6, 7, 8, 35, 36], [0, 4, 5, 6, 7, 8, 35, 36, 37], [0, 4, 5, 6, 7, 8, 9, 35, 36], [0, 4, 5, 6, 7, 8, 9, 10, 35, 36], [0, 4, 5, 6, 7, 8, 9, 10, 11, 35, 36], [0, 4, 5, 6, 7, 8, 9, 10, 11, 35, 36, 44, 45], [0, 4, 5, 6, 7, 8, 9, 10, 11, 35, 36, 44, 45, 46], [0, 4, 5, 6, 7, 8, 9, 10, 11, 12, 35, 36, 44, 45], [0, 4, 5, 6, 7, 8, 9, 10, 11, 12, 35, 36, 44, 45], [0, 4, 5, 6, 7, 8, 9, 10, 11, 35, 36, 44, 45, 61], [0, 4, 5, 6, 7, 8, 9, 10, 11, 35, 36, 44, 45], [0, 4, 5, 6, 7, 8, 9, 10, 11, 35, 36, 44, 45], [0, 4, 5, 6, 7, 8, 10, 11, 35, 36], [0, 4, 5, 6, 7, 8, 10, 35, 36, 70], [0, 4, 5, 6, 7, 8, 10, 14, 35, 36], [0, 4, 5, 6, 7, 8, 10, 35, 36, 78], [0, 4, 5, 6, 7, 8, 10, 35, 36], [0, 4, 5, 6, 7, 8, 10, 35, 36], [0, 4, 5, 6, 7, 8, 35, 36], [0, 4, 5, 6, 7, 8, 35, 36], [0, 4, 5, 6, 7], [0, 4, 5, 6, 7], [6, 15], [6, 15, 16], [6, 15, 16, 17], [6, 15, 16, 17, 105, 106, 107], [6, 15, 16, 17, 105, 106, 107, 108], [6, 15, 16, 17, 18, 19, 105, 106, 107], [6, 15, 16, 17, 105, 106, 107], [6, 15, 16, 17, 105, 106, 107], [6, 15, 16, 17, 120], [2], [6, 15, 16, 17, 125], [2], [6, 15, 16], [6, 15, 16]], Try.func46, by kernel_rfl, by kernel_rfl, by kernel_rfl, by kernel_rfl, by decide⟩
end Go.Sx.Wk
/- The codes of the functions, written by a program (Gen.lean), and that they are the functions'. No conditions. -/
set_option linter.unusedVariables false
set_option maxRecDepth 100000
namespace Go.Sx.Wk
open Go Go.Sx Go.Proofs

def c72_r0 : List SIns := [
  { dst := some 4, op := SOp.mv (Operand.const (Value.bool false)), guard := none }]
def c72_r1 : List SIns := [
  { dst := some 5, op := SOp.mv (Operand.tmp 0), guard := none },
  { dst := some 6, op := SOp.mv (Operand.tmp 1), guard := none },
  { dst := some 7, op := SOp.call 67 [Operand.tmp 5, Operand.tmp 6], guard := none },
  { dst := some 8, op := SOp.ib (BinOp.geq) (Operand.tmp 7) (Operand.const (Value.int (IntKind.i64) 0)), guard := none },
  { dst := some 4, op := SOp.mv (Operand.tmp 8), guard := none }]
def c72 : SCode := (.seq (.reg c72_r0 [0, 1]) (.seq (.reg c72_r1 [4]) .ret))
theorem F72 : Fn Try.prog 72 c72 [SRes.tmp 4] 9 := ⟨Try.f72, Try.f72.body.getD .skip, [[0, 1], [4]], Try.func72, by kernel_rfl, by kernel_rfl, by kernel_rfl, by kernel_rfl, by decide⟩
end Go.Sx.Wk
/- The codes of the functions, written by a program (Gen.lean), and that they are the functions'. No conditions. -/
set_option linter.unusedVariables false
set_option maxRecDepth 100000
namespace Go.Sx.Wk
open Go Go.Sx Go.Proofs

def c73_r0 : List SIns := [
  { dst := some 2, op := SOp.mv (Operand.const (Value.slice none 0 0)), guard := none }]
def c73_r1 : List SIns := [
  { dst := some 3, op := SOp.mv (Operand.tmp 0), guard := none },
  { dst := some 4, op := SOp.eqn false (TypeDesc.slice 4) (Operand.tmp 3), guard := none }]
def c73_r2 : List SIns := [
  { dst := some 2, op := SOp.mv (Operand.const (Value.slice none 0 0)), guard := none }]
def c73_r3 : List SIns := [
  { dst := some 5, op := SOp.mks0 1, guard := none },
  { dst := some 6, op := SOp.mv (Operand.tmp 0), guard := none },
  { dst := some 7, op := SOp.app 1 1 (Operand.tmp 5) (Operand.tmp 6), guard := none },
  { dst := some 2, op := SOp.mv (Operand.tmp 7), guard := none }]
def c73 : SCode := (.seq (.reg c73_r0 [0]) (.seq (.seq (.reg c73_r1 [0, 4]) (.cond (Operand.tmp 4) (.seq (.reg c73_r2 [2]) .ret) .skip)) (.seq (.reg c73_r3 [2]) .ret)))
theorem F73 : Fn Try.prog 73 c73 [SRes.tmp 2] 8 := ⟨Try.f73, Try.f73.body.getD .skip, [[0], [0, 4], [2], [2]], Try.func73, by kernel_rfl, by kernel_rfl, by kernel_rfl, by kernel_rfl, by decide⟩
end Go.Sx.Wk
/- The codes of the functions, written by a program (Gen.lean), and that they are the functions'. No conditions. -/
set_option linter.unusedVariables false
set_option maxRecDepth 100000
namespace Go.Sx.Wk
open Go Go.Sx Go.Proofs

def c74_r0 : List SIns := [
  { dst := some 3, op := SOp.mv (Operand.const (Value.bool false)), guard := none }]
def c74_r1 : List SIns := [
  { dst := some 4, op := SOp.load1 (Operand.tmp 1), guard := none },
  { dst := some 5, op := SOp.mv (Operand.tmp 0), guard := none },
  { dst := some 6, op := SOp.idx 1 (Operand.tmp 4) (Operand.tmp 5), guard := none },
  { dst := some 7, op := SOp.load1 (Operand.tmp 6), guard := none },
  { dst := some 8, op := SOp.nt (Operand.tmp 7), guard := none },
  { dst := some 3, op := SOp.mv (Operand.tmp 8), guard := none }]
def c74 : SCode := (.seq (.reg c74_r0 [0, 1]) (.seq (.reg c74_r1 [3]) .ret))
theorem F74 : Fn Try.prog 74 c74 [SRes.tmp 3] 9 := ⟨Try.f74, Try.f74.body.getD .skip, [[0, 1], [3]], Try.func74, by kernel_rfl, by kernel_rfl, by kernel_rfl, by kernel_rfl, by decide⟩
end Go.Sx.Wk
/- The codes of the functions, written by a program (Gen.lean), and that they are the functions'. No conditions. -/
set_option linter.unusedVariables false
set_option maxRecDepth 100000
namespace Go.Sx.Wk
open Go Go.Sx Go.Proofs

def c75_r0 : List SIns := [
  { dst := some 4, op := SOp.mv (Operand.const (Value.bool false)), guard := none }]
def c75_r1 : List SIns := [
  { dst := some 6, op := SOp.mv (Operand.tmp 0), guard := none },
  { dst := some 7, op := SOp.lenSl (Operand.tmp 6), guard := none },
  { dst := some 8, op := SOp.mv (Operand.tmp 1), guard := none },
  { dst := some 9, op := SOp.lenSl (Operand.tmp 8), guard := none },
  { dst := some 10, op := SOp.ib (BinOp.neq) (Operand.tmp 7) (Operand.tmp 9), guard := none }]
def c75_r2 : List SIns := [
  { dst := some 4, op := SOp.mv (Operand.const (Value.bool false)), guard := none }]
def c75_r3 : List SIns := [
  { dst := some 11, op := SOp.mv (Operand.tmp 0), guard := none },
  { dst := some 12, op := SOp.lenSl (Operand.tmp 11), guard := none },
  { dst := some 13, op := SOp.mv (Operand.const (Value.int (IntKind.i64) 0)), guard := none }]
def c75_r4 : List SIns := [
  { dst := some 14, op := SOp.ib (BinOp.lss) (Operand.tmp 13) (Operand.tmp 12), guard := none }]
def c75_r5 : List SIns := [
  { dst := some 15, op := SOp.mv (Operand.tmp 13), guard := none },
  { dst := some 5, op := SOp.mv (Operand.tmp 15), guard := none }]
def c75_r6 : List SIns := [
  { dst := some 16, op := SOp.mv (Operand.tmp 0), guard := none },
  { dst := some 17, op := SOp.mv (Operand.tmp 5), guard := none },
  { dst := some 18, op := SOp.idx 1 (Operand.tmp 16) (Operand.tmp 17), guard := none },
  { dst := some 19, op := SOp.load1 (Operand.tmp 18), guard := none },
  { dst := some 20, op := SOp.mv (Operand.tmp 1), guard := none },
  { dst := some 21, op := SOp.mv (Operand.tmp 5), guard := none },
  { dst := some 22, op := SOp.idx 1 (Operand.tmp 20) (Operand.tmp 21), guard := none },
  { dst := some 23, op := SOp.load1 (Operand.tmp 22), guard := none },
  { dst := some 24, op := SOp.bb true (Operand.tmp 19) (Operand.tmp 23), guard := none }]
def c75_r7 : List SIns := [
  { dst := some 4, op := SOp.mv (Operand.const (Value.bool false)), guard := none }]
def c75_r8 : List SIns := [
  { dst := some 25, op := SOp.ib (BinOp.add) (Operand.tmp 13) (Operand.const (Value.int (IntKind.i64) 1)), guard := none },
  { dst := some 13, op := SOp.mv (Operand.tmp 25), guard := none }]
def c75_l0 : SCode := (.seq (.reg c75_r4 [0, 1, 12, 13, 14]) (.seq (.cond (Operand.tmp 14) .skip (.exit 0)) (.seq (.block 1 (.seq (.reg c75_r5 [0, 1, 5, 12, 13]) (.seq (.draw c75_r6 [[], [], [0, 1], [2, 0, 1], [], [], [4, 5], [6, 4, 5], [3, 7, 2, 0, 1, 6, 4, 5]] [0, 1, 12, 13, 24]) (.cond (Operand.tmp 24) (.seq (.reg c75_r7 [4]) .ret) .skip)))) (.reg c75_r8 [0, 1, 12, 13]))))
def c75_r9 : List SIns := [
  { dst := some 4, op := SOp.mv (Operand.const (Value.bool true)), guard := none }]
def c75 : SCode := (.seq (.reg c75_r0 [0, 1]) (.seq (.seq (.reg c75_r1 [0, 1, 10]) (.cond (Operand.tmp 10) (.seq (.reg c75_r2 [4]) .ret) .skip)) (.seq (.seq (.reg c75_r3 [0, 1, 12, 13]) (.block 0 (.loop c75_l0))) (.seq (.reg c75_r9 [4]) .ret))))
theorem F75 : Fn Try.prog 75 c75 [SRes.tmp 4] 26 := ⟨Try.f75, Try.f75.body.getD .skip, [[0, 1], [0, 1, 10], [4], [0, 1, 12, 13], [0, 1, 12, 13, 14], [0, 1, 5, 12, 13], [0, 1, 12, 13, 24], [4], [0, 1, 12, 13], [4]], Try.func75, by kernel_rfl, by kernel_rfl, by kernel_rfl, by kernel_rfl, by decide⟩
end Go.Sx.Wk
