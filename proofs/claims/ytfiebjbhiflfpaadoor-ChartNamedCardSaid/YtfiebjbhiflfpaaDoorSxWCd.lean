/- The codes of the functions, written by a program (Gen.lean), and that they are the functions'. No conditions. -/
import Derived.Test.YtfiebjbhiflfpaaDoorSxN
import Derived.KernelRfl
import Derived.Test.YtfiebjbhiflfpaaDoorProg
set_option linter.unusedVariables false
set_option maxRecDepth 100000
namespace Go.Sx.Ch
open Go Go.Sx Go.Proofs

def c10_r0 : List SIns := [
  { dst := some 2, op := SOp.box (Operand.tmp 0), guard := none },
  { dst := some 4, op := SOp.mv (Operand.const (Value.bool false)), guard := none }]
def c10_r1 : List SIns := [
  { dst := some 21, op := SOp.loadN 18 (Operand.tmp 2), guard := none },
  { dst := some 22, op := SOp.call 49 [Operand.tmp 21, Operand.const (Value.int (IntKind.i64) 8)], guard := none },
  { dst := some 5, op := SOp.alloc [Value.slice none 0 0], guard := none },
  { dst := none, op := SOp.store 1 (Operand.tmp 5) (Operand.tmp 22), guard := none }]
def c10_r2 : List SIns := [
  { dst := some 6, op := SOp.alloc [Value.slice none 0 0], guard := none }]
def c10_r3 : List SIns := [
  { dst := some 23, op := SOp.off 0 (Operand.tmp 5), guard := none },
  { dst := some 24, op := SOp.load1 (Operand.tmp 23), guard := none },
  { dst := some 25, op := SOp.lenSl (Operand.tmp 24), guard := none },
  { dst := some 7, op := SOp.mv (Operand.tmp 25), guard := none }]
def c10_r4 : List SIns := [
  { dst := some 26, op := SOp.off 0 (Operand.tmp 5), guard := none },
  { dst := some 27, op := SOp.load1 (Operand.tmp 26), guard := none },
  { dst := some 28, op := SOp.lenSl (Operand.tmp 27), guard := none },
  { dst := some 29, op := SOp.mv (Operand.const (Value.int (IntKind.i64) 0)), guard := none }]
def c10_r5 : List SIns := [
  { dst := some 30, op := SOp.ib (BinOp.lss) (Operand.tmp 29) (Operand.tmp 28), guard := none }]
def c10_r6 : List SIns := [
  { dst := some 31, op := SOp.mv (Operand.tmp 29), guard := none },
  { dst := some 8, op := SOp.mv (Operand.tmp 31), guard := none }]
def c10_r7 : List SIns := [
  { dst := some 32, op := SOp.off 0 (Operand.tmp 5), guard := none },
  { dst := some 33, op := SOp.load1 (Operand.tmp 32), guard := none },
  { dst := some 34, op := SOp.mv (Operand.tmp 8), guard := none },
  { dst := some 35, op := SOp.mv (Operand.tmp 1), guard := none },
  { dst := some 36, op := SOp.ci (IntKind.i64) (Operand.tmp 35), guard := none },
  { dst := some 37, op := SOp.ib (BinOp.add) (Operand.tmp 34) (Operand.tmp 36), guard := none },
  { dst := some 38, op := SOp.mv (Operand.tmp 7), guard := none },
  { dst := some 39, op := SOp.ib (BinOp.rem) (Operand.tmp 37) (Operand.tmp 38), guard := none },
  { dst := some 40, op := SOp.idx 1 (Operand.tmp 33) (Operand.tmp 39), guard := none },
  { dst := some 41, op := SOp.load1 (Operand.tmp 40), guard := none },
  { dst := some 9, op := SOp.mv (Operand.tmp 41), guard := none }]
def c10_r8 : List SIns := [
  { dst := some 42, op := SOp.mv (Operand.tmp 1), guard := none },
  { dst := some 43, op := SOp.ci (IntKind.i64) (Operand.tmp 42), guard := none },
  { dst := some 44, op := SOp.mv (Operand.tmp 9), guard := none },
  { dst := some 45, op := SOp.lenSl (Operand.tmp 44), guard := none },
  { dst := some 46, op := SOp.ib (BinOp.rem) (Operand.tmp 43) (Operand.tmp 45), guard := none },
  { dst := some 10, op := SOp.mv (Operand.tmp 46), guard := none }]
def c10_r9 : List SIns := [
  { dst := some 47, op := SOp.off 0 (Operand.tmp 6), guard := none },
  { dst := some 48, op := SOp.load1 (Operand.tmp 47), guard := none },
  { dst := some 49, op := SOp.mv (Operand.tmp 9), guard := none },
  { dst := some 50, op := SOp.mv (Operand.tmp 10), guard := none },
  { dst := some 51, op := SOp.slc 1 (Operand.tmp 49) (some (Operand.tmp 50)) none none, guard := none },
  { dst := some 52, op := SOp.call 50 [Operand.tmp 51], guard := none },
  { dst := some 53, op := SOp.mv (Operand.tmp 9), guard := none },
  { dst := some 54, op := SOp.mv (Operand.tmp 10), guard := none },
  { dst := some 55, op := SOp.slc 1 (Operand.tmp 53) none (some (Operand.tmp 54)) none, guard := none },
  { dst := some 56, op := SOp.app 1 8 (Operand.tmp 52) (Operand.tmp 55), guard := none },
  { dst := some 57, op := SOp.mks 1 1 [Value.slice none 0 0] [(0, 1, Operand.tmp 56)], guard := none },
  { dst := some 58, op := SOp.app 1 24 (Operand.tmp 48) (Operand.tmp 57), guard := none },
  { dst := some 59, op := SOp.off 0 (Operand.tmp 6), guard := none },
  { dst := none, op := SOp.store 1 (Operand.tmp 59) (Operand.tmp 58), guard := none }]
def c10_r10 : List SIns := [
  { dst := some 60, op := SOp.ib (BinOp.add) (Operand.tmp 29) (Operand.const (Value.int (IntKind.i64) 1)), guard := none },
  { dst := some 29, op := SOp.mv (Operand.tmp 60), guard := none }]
def c10_l0 : SCode := (.seq (.reg c10_r5 [1, 5, 6, 7, 28, 29, 30]) (.seq (.cond (Operand.tmp 30) .skip (.exit 0)) (.seq (.block 1 (.seq (.reg c10_r6 [1, 5, 6, 7, 8, 28, 29]) (.seq (.draw c10_r7 [[], [0], [], [], [3], [2, 4, 3], [], [5, 6, 2, 4, 3], [1, 7, 0, 5, 6, 2, 4, 3], [8, 1, 7, 0, 5, 6, 2, 4, 3], [9, 8, 1, 7, 0, 5, 6, 2, 4, 3]] [1, 5, 6, 7, 9, 28, 29]) (.seq (.reg c10_r8 [1, 5, 6, 7, 9, 10, 28, 29]) (.draw c10_r9 [[], [0], [], [], [2, 3], [4, 2, 3], [], [], [6, 7], [8, 5, 6, 7, 4, 2, 3], [9, 8, 5, 6, 7, 4, 2, 3], [1, 10, 0, 9, 8, 5, 6, 7, 4, 2, 3], [11, 1, 10, 0, 9, 8, 5, 6, 7, 4, 2, 3], [12, 11, 1, 10, 0, 9, 8, 5, 6, 7, 4, 2, 3]] [1, 5, 6, 7, 28, 29]))))) (.reg c10_r10 [1, 5, 6, 7, 28, 29]))))
def c10_r11 : List SIns := [
  { dst := some 61, op := SOp.off 0 (Operand.tmp 6), guard := none },
  { dst := some 62, op := SOp.load1 (Operand.tmp 61), guard := none },
  { dst := some 63, op := SOp.call 55 [Operand.tmp 62], guard := none }]
def c10_r12 : List SIns := [
  { dst := some 65, op := SOp.loadN 1 (Operand.tmp 5), guard := none },
  { dst := some 66, op := SOp.call 42 [Operand.tmp 65], guard := none },
  { dst := some 64, op := SOp.mv (Operand.tmp 66), guard := none },
  { dst := some 67, op := SOp.ext (Operand.tmp 64) 0, guard := none },
  { dst := some 68, op := SOp.ext (Operand.tmp 64) 1, guard := none },
  { dst := some 11, op := SOp.alloc [Value.slice none 0 0], guard := none },
  { dst := none, op := SOp.store 1 (Operand.tmp 11) (Operand.tmp 67), guard := none },
  { dst := some 12, op := SOp.mv (Operand.tmp 68), guard := none }]
def c10_r13 : List SIns := [
  { dst := some 70, op := SOp.loadN 1 (Operand.tmp 6), guard := none },
  { dst := some 71, op := SOp.call 42 [Operand.tmp 70], guard := none },
  { dst := some 69, op := SOp.mv (Operand.tmp 71), guard := none },
  { dst := some 72, op := SOp.ext (Operand.tmp 69) 0, guard := none },
  { dst := some 73, op := SOp.ext (Operand.tmp 69) 1, guard := none },
  { dst := some 13, op := SOp.alloc [Value.slice none 0 0], guard := none },
  { dst := none, op := SOp.store 1 (Operand.tmp 13) (Operand.tmp 72), guard := none },
  { dst := some 14, op := SOp.mv (Operand.tmp 73), guard := none }]
def c10_r14 : List SIns := [
  { dst := some 75, op := SOp.loadN 1 (Operand.tmp 5), guard := none },
  { dst := some 76, op := SOp.call 33 [Operand.tmp 75], guard := none },
  { dst := some 74, op := SOp.mv (Operand.tmp 76), guard := none },
  { dst := some 77, op := SOp.ext (Operand.tmp 74) 0, guard := none },
  { dst := some 78, op := SOp.ext (Operand.tmp 74) 1, guard := none },
  { dst := some 15, op := SOp.mv (Operand.tmp 77), guard := none },
  { dst := some 16, op := SOp.mv (Operand.tmp 78), guard := none }]
def c10_r15 : List SIns := [
  { dst := some 80, op := SOp.loadN 1 (Operand.tmp 6), guard := none },
  { dst := some 81, op := SOp.call 33 [Operand.tmp 80], guard := none },
  { dst := some 79, op := SOp.mv (Operand.tmp 81), guard := none },
  { dst := some 82, op := SOp.ext (Operand.tmp 79) 0, guard := none },
  { dst := some 83, op := SOp.ext (Operand.tmp 79) 1, guard := none },
  { dst := some 17, op := SOp.mv (Operand.tmp 82), guard := none },
  { dst := some 18, op := SOp.mv (Operand.tmp 83), guard := none }]
def c10_r16 : List SIns := [
  { dst := some 84, op := SOp.mv (Operand.tmp 12), guard := none },
  { dst := some 85, op := SOp.ib (BinOp.neq) (Operand.tmp 84) (Operand.const (Value.int (IntKind.i64) 0)), guard := none },
  { dst := some 86, op := SOp.mv (Operand.tmp 85), guard := none },
  { dst := some 87, op := SOp.mv (Operand.tmp 14), guard := some (86, false) },
  { dst := some 88, op := SOp.ib (BinOp.neq) (Operand.tmp 87) (Operand.const (Value.int (IntKind.i64) 0)), guard := some (86, false) },
  { dst := some 89, op := SOp.pick (Operand.tmp 86) (Operand.const (Value.bool true)) (Operand.tmp 88), guard := none },
  { dst := some 90, op := SOp.mv (Operand.tmp 89), guard := none },
  { dst := some 91, op := SOp.mv (Operand.tmp 16), guard := some (90, false) },
  { dst := some 92, op := SOp.ib (BinOp.neq) (Operand.tmp 91) (Operand.const (Value.int (IntKind.i64) 0)), guard := some (90, false) },
  { dst := some 93, op := SOp.pick (Operand.tmp 90) (Operand.const (Value.bool true)) (Operand.tmp 92), guard := none },
  { dst := some 94, op := SOp.mv (Operand.tmp 93), guard := none },
  { dst := some 95, op := SOp.mv (Operand.tmp 18), guard := some (94, false) },
  { dst := some 96, op := SOp.ib (BinOp.neq) (Operand.tmp 95) (Operand.const (Value.int (IntKind.i64) 0)), guard := some (94, false) },
  { dst := some 97, op := SOp.pick (Operand.tmp 94) (Operand.const (Value.bool true)) (Operand.tmp 96), guard := none },
  { dst := some 98, op := SOp.mv (Operand.tmp 97), guard := none },
  { dst := some 99, op := SOp.off 0 (Operand.tmp 11), guard := some (98, false) },
  { dst := some 100, op := SOp.load1 (Operand.tmp 99), guard := some (98, false) },
  { dst := some 101, op := SOp.off 0 (Operand.tmp 13), guard := some (98, false) },
  { dst := some 102, op := SOp.load1 (Operand.tmp 101), guard := some (98, false) },
  { dst := some 103, op := SOp.call 23 [Operand.tmp 100, Operand.tmp 102], guard := some (98, false) },
  { dst := some 104, op := SOp.nt (Operand.tmp 103), guard := some (98, false) },
  { dst := some 105, op := SOp.pick (Operand.tmp 98) (Operand.const (Value.bool true)) (Operand.tmp 104), guard := none },
  { dst := some 106, op := SOp.mv (Operand.tmp 105), guard := none },
  { dst := some 107, op := SOp.mv (Operand.tmp 15), guard := some (106, false) },
  { dst := some 108, op := SOp.mv (Operand.tmp 17), guard := some (106, false) },
  { dst := some 109, op := SOp.call 23 [Operand.tmp 107, Operand.tmp 108], guard := some (106, false) },
  { dst := some 110, op := SOp.nt (Operand.tmp 109), guard := some (106, false) },
  { dst := some 111, op := SOp.pick (Operand.tmp 106) (Operand.const (Value.bool true)) (Operand.tmp 110), guard := none }]
def c10_r17 : List SIns := [
  { dst := some 4, op := SOp.mv (Operand.const (Value.bool false)), guard := none }]
def c10_r18 : List SIns := [
  { dst := some 113, op := SOp.loadN 1 (Operand.tmp 5), guard := none },
  { dst := some 114, op := SOp.call 26 [Operand.tmp 113], guard := none },
  { dst := some 112, op := SOp.mv (Operand.tmp 114), guard := none },
  { dst := some 115, op := SOp.ext (Operand.tmp 112) 0, guard := none },
  { dst := some 116, op := SOp.ext (Operand.tmp 112) 1, guard := none },
  { dst := some 19, op := SOp.mv (Operand.tmp 115), guard := none },
  { dst := some 12, op := SOp.mv (Operand.tmp 116), guard := none }]
def c10_r19 : List SIns := [
  { dst := some 118, op := SOp.loadN 1 (Operand.tmp 6), guard := none },
  { dst := some 119, op := SOp.call 26 [Operand.tmp 118], guard := none },
  { dst := some 117, op := SOp.mv (Operand.tmp 119), guard := none },
  { dst := some 120, op := SOp.ext (Operand.tmp 117) 0, guard := none },
  { dst := some 121, op := SOp.ext (Operand.tmp 117) 1, guard := none },
  { dst := some 20, op := SOp.mv (Operand.tmp 120), guard := none },
  { dst := some 14, op := SOp.mv (Operand.tmp 121), guard := none }]
def c10_r20 : List SIns := [
  { dst := some 122, op := SOp.mv (Operand.tmp 19), guard := none },
  { dst := some 123, op := SOp.mv (Operand.tmp 20), guard := none },
  { dst := some 124, op := SOp.ib (BinOp.eql) (Operand.tmp 122) (Operand.tmp 123), guard := none },
  { dst := some 125, op := SOp.mv (Operand.tmp 124), guard := none },
  { dst := some 126, op := SOp.mv (Operand.tmp 12), guard := some (125, true) },
  { dst := some 127, op := SOp.mv (Operand.tmp 14), guard := some (125, true) },
  { dst := some 128, op := SOp.ib (BinOp.eql) (Operand.tmp 126) (Operand.tmp 127), guard := some (125, true) },
  { dst := some 129, op := SOp.pick (Operand.tmp 125) (Operand.tmp 128) (Operand.const (Value.bool false)), guard := none },
  { dst := some 130, op := SOp.mv (Operand.tmp 129), guard := none },
  { dst := some 131, op := SOp.mv (Operand.tmp 12), guard := some (130, true) },
  { dst := some 132, op := SOp.ib (BinOp.eql) (Operand.tmp 131) (Operand.const (Value.int (IntKind.i64) 12)), guard := some (130, true) },
  { dst := some 133, op := SOp.loadN 1 (Operand.tmp 5), guard := some (130, true) },
  { dst := some 134, op := SOp.call 51 [Operand.tmp 133], guard := some (130, true) },
  { dst := some 135, op := SOp.bb false (Operand.tmp 132) (Operand.tmp 134), guard := some (130, true) },
  { dst := some 136, op := SOp.pick (Operand.tmp 130) (Operand.tmp 135) (Operand.const (Value.bool false)), guard := none },
  { dst := some 137, op := SOp.mv (Operand.tmp 136), guard := none },
  { dst := some 138, op := SOp.call 16 [], guard := some (137, true) },
  { dst := some 139, op := SOp.pick (Operand.tmp 137) (Operand.tmp 138) (Operand.const (Value.bool false)), guard := none },
  { dst := some 4, op := SOp.mv (Operand.tmp 139), guard := none }]
def c10 : SCode := (.seq (.reg c10_r0 [1, 2]) (.seq (.reg c10_r1 [1, 5]) (.seq (.reg c10_r2 [1, 5, 6]) (.seq (.reg c10_r3 [1, 5, 6, 7]) (.seq (.seq (.reg c10_r4 [1, 5, 6, 7, 28, 29]) (.block 0 (.loop c10_l0))) (.seq (.reg c10_r11 [5, 6]) (.seq (.reg c10_r12 [5, 6, 11, 12]) (.seq (.reg c10_r13 [5, 6, 11, 12, 13, 14]) (.seq (.reg c10_r14 [5, 6, 11, 12, 13, 14, 15, 16]) (.seq (.reg c10_r15 [5, 6, 11, 12, 13, 14, 15, 16, 17, 18]) (.seq (.seq (.reg c10_r16 [5, 6, 111]) (.cond (Operand.tmp 111) (.seq (.reg c10_r17 [4]) .ret) .skip)) (.seq (.reg c10_r18 [5, 6, 12, 19]) (.seq (.reg c10_r19 [5, 12, 14, 19, 20]) (.seq (.reg c10_r20 [4]) .ret))))))))))))))
theorem F10 : Fn Tryd.prog 10 c10 [SRes.tmp 4] 140 := ⟨Tryd.f10, Tryd.f10.body.getD .skip, [[1, 2], [1, 5], [1, 5, 6], [1, 5, 6, 7], [1, 5, 6, 7, 28, 29], [1, 5, 6, 7, 28, 29, 30], [1, 5, 6, 7, 8, 28, 29], [1, 5, 6, 7, 9, 28, 29], [1, 5, 6, 7, 9, 10, 28, 29], [1, 5, 6, 7, 28, 29], [1, 5, 6, 7, 28, 29], [5, 6], [5, 6, 11, 12], [5, 6, 11, 12, 13, 14], [5, 6, 11, 12, 13, 14, 15, 16], [5, 6, 11, 12, 13, 14, 15, 16, 17, 18], [5, 6, 111], [4], [5, 6, 12, 19], [5, 12, 14, 19, 20], [4]], Tryd.func10, by kernel_rfl, by kernel_rfl, by kernel_rfl, by kernel_rfl, by decide⟩

def c49_r0 : List SIns := [
  { dst := some 2, op := SOp.box (Operand.tmp 0), guard := none },
  { dst := some 4, op := SOp.alloc [Value.slice none 0 0], guard := none }]
def c49_r1 : List SIns := [
  { dst := some 12, op := SOp.off 0 (Operand.tmp 2), guard := none },
  { dst := some 13, op := SOp.load1 (Operand.tmp 12), guard := none },
  { dst := some 14, op := SOp.ci (IntKind.i64) (Operand.tmp 13), guard := none },
  { dst := some 15, op := SOp.mv (Operand.tmp 1), guard := none },
  { dst := some 16, op := SOp.ib (BinOp.add) (Operand.tmp 15) (Operand.const (Value.int (IntKind.i64) 1)), guard := none },
  { dst := some 17, op := SOp.ib (BinOp.rem) (Operand.tmp 14) (Operand.tmp 16), guard := none },
  { dst := some 18, op := SOp.ib (BinOp.mul) (Operand.const (Value.int (IntKind.i64) 2)) (Operand.tmp 17), guard := none },
  { dst := some 5, op := SOp.mv (Operand.tmp 18), guard := none }]
def c49_r2 : List SIns := [
  { dst := some 6, op := SOp.mv (Operand.const (Value.slice none 0 0)), guard := none }]
def c49_r3 : List SIns := [
  { dst := some 19, op := SOp.mv (Operand.tmp 5), guard := none },
  { dst := some 20, op := SOp.mv (Operand.const (Value.int (IntKind.i64) 0)), guard := none }]
def c49_r4 : List SIns := [
  { dst := some 21, op := SOp.ib (BinOp.lss) (Operand.tmp 20) (Operand.tmp 19), guard := none }]
def c49_r5 : List SIns := [
  { dst := some 22, op := SOp.mv (Operand.tmp 20), guard := none },
  { dst := some 7, op := SOp.mv (Operand.tmp 22), guard := none }]
def c49_r6 : List SIns := [
  { dst := some 23, op := SOp.mv (Operand.tmp 6), guard := none },
  { dst := some 24, op := SOp.mv (Operand.tmp 7), guard := none },
  { dst := some 25, op := SOp.mks 1 1 [Value.int (IntKind.i64) 0] [(0, 1, Operand.tmp 24)], guard := none },
  { dst := some 26, op := SOp.app 1 8 (Operand.tmp 23) (Operand.tmp 25), guard := none },
  { dst := some 6, op := SOp.mv (Operand.tmp 26), guard := none }]
def c49_r7 : List SIns := [
  { dst := some 27, op := SOp.ib (BinOp.add) (Operand.tmp 20) (Operand.const (Value.int (IntKind.i64) 1)), guard := none },
  { dst := some 20, op := SOp.mv (Operand.tmp 27), guard := none }]
def c49_l0 : SCode := (.seq (.reg c49_r4 [2, 4, 5, 6, 19, 20, 21]) (.seq (.cond (Operand.tmp 21) .skip (.exit 0)) (.seq (.block 1 (.seq (.reg c49_r5 [2, 4, 5, 6, 7, 19, 20]) (.reg c49_r6 [2, 4, 5, 6, 19, 20]))) (.reg c49_r7 [2, 4, 5, 6, 19, 20]))))
def c49_r8 : List SIns := [
  { dst := some 8, op := SOp.alloc [Value.slice none 0 0], guard := none }]
def c49_r9 : List SIns := [
  { dst := some 28, op := SOp.mv (Operand.tmp 5), guard := none },
  { dst := some 29, op := SOp.mv (Operand.const (Value.int (IntKind.i64) 0)), guard := none }]
def c49_r10 : List SIns := [
  { dst := some 30, op := SOp.ib (BinOp.lss) (Operand.tmp 29) (Operand.tmp 28), guard := none }]
def c49_r11 : List SIns := [
  { dst := some 31, op := SOp.mv (Operand.tmp 29), guard := none },
  { dst := some 9, op := SOp.mv (Operand.tmp 31), guard := none }]
def c49_r12 : List SIns := [
  { dst := some 32, op := SOp.mv (Operand.tmp 9), guard := none },
  { dst := some 33, op := SOp.off 1 (Operand.tmp 2), guard := none },
  { dst := some 34, op := SOp.idxA 16 1 (Operand.tmp 33) (Operand.tmp 32), guard := none },
  { dst := some 35, op := SOp.load1 (Operand.tmp 34), guard := none },
  { dst := some 36, op := SOp.ci (IntKind.i64) (Operand.tmp 35), guard := none },
  { dst := some 37, op := SOp.mv (Operand.tmp 6), guard := none },
  { dst := some 38, op := SOp.lenSl (Operand.tmp 37), guard := none },
  { dst := some 39, op := SOp.ib (BinOp.rem) (Operand.tmp 36) (Operand.tmp 38), guard := none },
  { dst := some 10, op := SOp.mv (Operand.tmp 39), guard := none }]
def c49_r13 : List SIns := [
  { dst := some 40, op := SOp.mv (Operand.tmp 9), guard := none },
  { dst := some 41, op := SOp.ib (BinOp.eql) (Operand.tmp 40) (Operand.const (Value.int (IntKind.i64) 0)), guard := none },
  { dst := some 42, op := SOp.mv (Operand.tmp 41), guard := none },
  { dst := some 43, op := SOp.off 17 (Operand.tmp 2), guard := some (42, false) },
  { dst := some 44, op := SOp.load1 (Operand.tmp 43), guard := some (42, false) },
  { dst := some 45, op := SOp.mv (Operand.tmp 9), guard := some (42, false) },
  { dst := some 46, op := SOp.bin (BinOp.shr) 58 (Operand.tmp 44) (Operand.tmp 45), guard := some (42, false) },
  { dst := some 47, op := SOp.bin (BinOp.and) 58 (Operand.tmp 46) (Operand.const (Value.int (IntKind.u16) 1)), guard := some (42, false) },
  { dst := some 48, op := SOp.ib (BinOp.eql) (Operand.tmp 47) (Operand.const (Value.int (IntKind.u16) 1)), guard := some (42, false) },
  { dst := some 49, op := SOp.pick (Operand.tmp 42) (Operand.const (Value.bool true)) (Operand.tmp 48), guard := none }]
def c49_r14 : List SIns := [
  { dst := some 50, op := SOp.off 0 (Operand.tmp 8), guard := none },
  { dst := some 51, op := SOp.load1 (Operand.tmp 50), guard := none },
  { dst := some 52, op := SOp.mks 1 1 [Value.slice none 0 0] [(0, 1, Operand.const (Value.slice none 0 0))], guard := none },
  { dst := some 53, op := SOp.app 1 24 (Operand.tmp 51) (Operand.tmp 52), guard := none },
  { dst := some 54, op := SOp.off 0 (Operand.tmp 8), guard := none },
  { dst := none, op := SOp.store 1 (Operand.tmp 54) (Operand.tmp 53), guard := none }]
def c49_r15 : List SIns := [
  { dst := some 55, op := SOp.off 0 (Operand.tmp 8), guard := none },
  { dst := some 56, op := SOp.load1 (Operand.tmp 55), guard := none },
  { dst := some 57, op := SOp.lenSl (Operand.tmp 56), guard := none },
  { dst := some 58, op := SOp.ib (BinOp.sub) (Operand.tmp 57) (Operand.const (Value.int (IntKind.i64) 1)), guard := none },
  { dst := some 11, op := SOp.mv (Operand.tmp 58), guard := none }]
def c49_r16 : List SIns := [
  { dst := some 59, op := SOp.off 0 (Operand.tmp 8), guard := none },
  { dst := some 60, op := SOp.load1 (Operand.tmp 59), guard := none },
  { dst := some 61, op := SOp.mv (Operand.tmp 11), guard := none },
  { dst := some 62, op := SOp.off 0 (Operand.tmp 8), guard := none },
  { dst := some 63, op := SOp.load1 (Operand.tmp 62), guard := none },
  { dst := some 64, op := SOp.mv (Operand.tmp 11), guard := none },
  { dst := some 65, op := SOp.idx 1 (Operand.tmp 63) (Operand.tmp 64), guard := none },
  { dst := some 66, op := SOp.load1 (Operand.tmp 65), guard := none },
  { dst := some 67, op := SOp.mv (Operand.tmp 6), guard := none },
  { dst := some 68, op := SOp.mv (Operand.tmp 10), guard := none },
  { dst := some 69, op := SOp.idx 1 (Operand.tmp 67) (Operand.tmp 68), guard := none },
  { dst := some 70, op := SOp.load1 (Operand.tmp 69), guard := none },
  { dst := some 71, op := SOp.mks 1 1 [Value.int (IntKind.i64) 0] [(0, 1, Operand.tmp 70)], guard := none },
  { dst := some 72, op := SOp.app 1 8 (Operand.tmp 66) (Operand.tmp 71), guard := none },
  { dst := some 73, op := SOp.idx 1 (Operand.tmp 60) (Operand.tmp 61), guard := none },
  { dst := none, op := SOp.store 1 (Operand.tmp 73) (Operand.tmp 72), guard := none }]
def c49_r17 : List SIns := [
  { dst := some 74, op := SOp.mv (Operand.tmp 6), guard := none },
  { dst := some 75, op := SOp.mv (Operand.tmp 10), guard := none },
  { dst := some 76, op := SOp.mv (Operand.tmp 10), guard := none },
  { dst := some 77, op := SOp.ib (BinOp.add) (Operand.tmp 76) (Operand.const (Value.int (IntKind.i64) 1)), guard := none },
  { dst := some 78, op := SOp.call 89 [Operand.tmp 74, Operand.tmp 75, Operand.tmp 77], guard := none },
  { dst := some 6, op := SOp.mv (Operand.tmp 78), guard := none }]
def c49_r18 : List SIns := [
  { dst := some 79, op := SOp.ib (BinOp.add) (Operand.tmp 29) (Operand.const (Value.int (IntKind.i64) 1)), guard := none },
  { dst := some 29, op := SOp.mv (Operand.tmp 79), guard := none }]
def c49_l1 : SCode := (.seq (.reg c49_r10 [2, 4, 6, 8, 28, 29, 30]) (.seq (.cond (Operand.tmp 30) .skip (.exit 2)) (.seq (.block 3 (.seq (.reg c49_r11 [2, 4, 6, 8, 9, 28, 29]) (.seq (.reg c49_r12 [2, 4, 6, 8, 9, 10, 28, 29]) (.seq (.seq (.reg c49_r13 [2, 4, 6, 8, 10, 28, 29, 49]) (.cond (Operand.tmp 49) (.reg c49_r14 [2, 4, 6, 8, 10, 28, 29]) .skip)) (.seq (.reg c49_r15 [2, 4, 6, 8, 10, 11, 28, 29]) (.seq (.draw c49_r16 [[], [0], [], [], [3], [], [4, 5, 3], [6, 4, 5, 3], [], [], [8, 9], [10, 8, 9], [11, 10, 8, 9], [7, 12, 6, 4, 5, 3, 11, 10, 8, 9], [1, 2, 13, 0, 7, 12, 6, 4, 5, 3, 11, 10, 8, 9], [14, 1, 2, 13, 0, 7, 12, 6, 4, 5, 3, 11, 10, 8, 9]] [2, 4, 6, 8, 10, 28, 29]) (.reg c49_r17 [2, 4, 6, 8, 28, 29]))))))) (.reg c49_r18 [2, 4, 6, 8, 28, 29]))))
def c49_r19 : List SIns := [
  { dst := some 80, op := SOp.loadN 1 (Operand.tmp 8), guard := none },
  { dst := none, op := SOp.store 1 (Operand.tmp 4) (Operand.tmp 80), guard := none }]
def c49 : SCode := (.seq (.reg c49_r0 [1, 2, 4]) (.seq (.reg c49_r1 [2, 4, 5]) (.seq (.reg c49_r2 [2, 4, 5, 6]) (.seq (.seq (.reg c49_r3 [2, 4, 5, 6, 19, 20]) (.block 0 (.loop c49_l0))) (.seq (.reg c49_r8 [2, 4, 5, 6, 8]) (.seq (.seq (.reg c49_r9 [2, 4, 6, 8, 28, 29]) (.block 2 (.loop c49_l1))) (.seq (.reg c49_r19 [4]) .ret)))))))
theorem F49 : Fn Tryd.prog 49 c49 [SRes.cell 4 (some 1)] 81 := ⟨Tryd.f49, Tryd.f49.body.getD .skip, [[1, 2, 4], [2, 4, 5], [2, 4, 5, 6], [2, 4, 5, 6, 19, 20], [2, 4, 5, 6, 19, 20, 21], [2, 4, 5, 6, 7, 19, 20], [2, 4, 5, 6, 19, 20], [2, 4, 5, 6, 19, 20], [2, 4, 5, 6, 8], [2, 4, 6, 8, 28, 29], [2, 4, 6, 8, 28, 29, 30], [2, 4, 6, 8, 9, 28, 29], [2, 4, 6, 8, 9, 10, 28, 29], [2, 4, 6, 8, 10, 28, 29, 49], [2, 4, 6, 8, 10, 28, 29], [2, 4, 6, 8, 10, 11, 28, 29], [2, 4, 6, 8, 10, 28, 29], [2, 4, 6, 8, 28, 29], [2, 4, 6, 8, 28, 29], [4]], Tryd.func49, by kernel_rfl, by kernel_rfl, by kernel_rfl, by kernel_rfl, by decide⟩

def c50_r0 : List SIns := [
  { dst := some 2, op := SOp.mv (Operand.const (Value.slice none 0 0)), guard := none }]
def c50_r1 : List SIns := [
  { dst := some 3, op := SOp.mv (Operand.tmp 0), guard := none },
  { dst := some 4, op := SOp.eqn false (TypeDesc.slice 3) (Operand.tmp 3), guard := none }]
def c50_r2 : List SIns := [
  { dst := some 2, op := SOp.mv (Operand.const (Value.slice none 0 0)), guard := none }]
def c50_r3 : List SIns := [
  { dst := some 5, op := SOp.mks0 1, guard := none },
  { dst := some 6, op := SOp.mv (Operand.tmp 0), guard := none },
  { dst := some 7, op := SOp.app 1 8 (Operand.tmp 5) (Operand.tmp 6), guard := none },
  { dst := some 2, op := SOp.mv (Operand.tmp 7), guard := none }]
def c50 : SCode := (.seq (.reg c50_r0 [0]) (.seq (.seq (.reg c50_r1 [0, 4]) (.cond (Operand.tmp 4) (.seq (.reg c50_r2 [2]) .ret) .skip)) (.seq (.reg c50_r3 [2]) .ret)))
theorem F50 : Fn Tryd.prog 50 c50 [SRes.tmp 2] 8 := ⟨Tryd.f50, Tryd.f50.body.getD .skip, [[0], [0, 4], [2], [2]], Tryd.func50, by kernel_rfl, by kernel_rfl, by kernel_rfl, by kernel_rfl, by decide⟩

def c51_r0 : List SIns := [
  { dst := some 1, op := SOp.box (Operand.tmp 0), guard := none },
  { dst := some 2, op := SOp.mv (Operand.const (Value.bool false)), guard := none }]
def c51_r1 : List SIns := [
  { dst := some 5, op := SOp.loadN 1 (Operand.tmp 1), guard := none },
  { dst := some 6, op := SOp.call 52 [Operand.tmp 5], guard := none },
  { dst := some 7, op := SOp.lenSl (Operand.tmp 6), guard := none },
  { dst := some 8, op := SOp.mv (Operand.const (Value.int (IntKind.i64) 0)), guard := none }]
def c51_r2 : List SIns := [
  { dst := some 9, op := SOp.ib (BinOp.lss) (Operand.tmp 8) (Operand.tmp 7), guard := none }]
def c51_r3 : List SIns := [
  { dst := some 10, op := SOp.mv (Operand.tmp 8), guard := none },
  { dst := some 11, op := SOp.idx 1 (Operand.tmp 6) (Operand.tmp 8), guard := none },
  { dst := some 12, op := SOp.load1 (Operand.tmp 11), guard := none },
  { dst := some 3, op := SOp.mv (Operand.tmp 10), guard := none },
  { dst := some 4, op := SOp.mv (Operand.tmp 12), guard := none }]
def c51_r4 : List SIns := [
  { dst := some 13, op := SOp.mv (Operand.tmp 4), guard := none },
  { dst := some 14, op := SOp.mv (Operand.tmp 3), guard := none },
  { dst := some 15, op := SOp.bin (BinOp.shr) 65 (Operand.tmp 13) (Operand.tmp 14), guard := none },
  { dst := some 16, op := SOp.bin (BinOp.and) 65 (Operand.tmp 15) (Operand.const (Value.int (IntKind.u32) 1)), guard := none },
  { dst := some 17, op := SOp.ib (BinOp.eql) (Operand.tmp 16) (Operand.const (Value.int (IntKind.u32) 1)), guard := none }]
def c51_r5 : List SIns := [
  { dst := some 2, op := SOp.mv (Operand.const (Value.bool true)), guard := none }]
def c51_r6 : List SIns := [
  { dst := some 18, op := SOp.ib (BinOp.add) (Operand.tmp 8) (Operand.const (Value.int (IntKind.i64) 1)), guard := none },
  { dst := some 8, op := SOp.mv (Operand.tmp 18), guard := none }]
def c51_l0 : SCode := (.seq (.reg c51_r2 [6, 7, 8, 9]) (.seq (.cond (Operand.tmp 9) .skip (.exit 0)) (.seq (.block 1 (.seq (.reg c51_r3 [3, 4, 6, 7, 8]) (.seq (.reg c51_r4 [6, 7, 8, 17]) (.cond (Operand.tmp 17) (.seq (.reg c51_r5 [2]) .ret) .skip)))) (.reg c51_r6 [6, 7, 8]))))
def c51_r7 : List SIns := [
  { dst := some 2, op := SOp.mv (Operand.const (Value.bool false)), guard := none }]
def c51 : SCode := (.seq (.reg c51_r0 [1]) (.seq (.seq (.reg c51_r1 [6, 7, 8]) (.block 0 (.loop c51_l0))) (.seq (.reg c51_r7 [2]) .ret)))
theorem F51 : Fn Tryd.prog 51 c51 [SRes.tmp 2] 19 := ⟨Tryd.f51, Tryd.f51.body.getD .skip, [[1], [6, 7, 8], [6, 7, 8, 9], [3, 4, 6, 7, 8], [6, 7, 8, 17], [2], [6, 7, 8], [2]], Tryd.func51, by kernel_rfl, by kernel_rfl, by kernel_rfl, by kernel_rfl, by decide⟩

def c52_r0 : List SIns := [
  { dst := some 1, op := SOp.box (Operand.tmp 0), guard := none },
  { dst := some 2, op := SOp.mv (Operand.const (Value.slice none 0 0)), guard := none }]
def c52_r1 : List SIns := [
  { dst := some 9, op := SOp.loadN 1 (Operand.tmp 1), guard := none },
  { dst := some 10, op := SOp.call 90 [Operand.tmp 9], guard := none },
  { dst := some 8, op := SOp.mv (Operand.tmp 10), guard := none },
  { dst := some 11, op := SOp.ext (Operand.tmp 8) 0, guard := none },
  { dst := some 12, op := SOp.ext (Operand.tmp 8) 1, guard := none },
  { dst := some 3, op := SOp.mv (Operand.tmp 11), guard := none },
  { dst := some 4, op := SOp.mv (Operand.tmp 12), guard := none }]
def c52_r2 : List SIns := [
  { dst := some 13, op := SOp.off 0 (Operand.tmp 1), guard := none },
  { dst := some 14, op := SOp.load1 (Operand.tmp 13), guard := none },
  { dst := some 15, op := SOp.lenSl (Operand.tmp 14), guard := none },
  { dst := some 16, op := SOp.mk 4 (Value.int (IntKind.u32) 0) (Operand.tmp 15) (Operand.tmp 15), guard := none },
  { dst := some 5, op := SOp.mv (Operand.tmp 16), guard := none }]
def c52_r3 : List SIns := [
  { dst := some 17, op := SOp.mv (Operand.tmp 4), guard := none },
  { dst := some 18, op := SOp.lenSl (Operand.tmp 17), guard := none },
  { dst := some 19, op := SOp.mv (Operand.const (Value.int (IntKind.i64) 0)), guard := none }]
def c52_r4 : List SIns := [
  { dst := some 20, op := SOp.ib (BinOp.lss) (Operand.tmp 19) (Operand.tmp 18), guard := none }]
def c52_r5 : List SIns := [
  { dst := some 21, op := SOp.mv (Operand.tmp 19), guard := none },
  { dst := some 22, op := SOp.idx 1 (Operand.tmp 17) (Operand.tmp 19), guard := none },
  { dst := some 23, op := SOp.load1 (Operand.tmp 22), guard := none },
  { dst := some 6, op := SOp.mv (Operand.tmp 21), guard := none },
  { dst := some 7, op := SOp.mv (Operand.tmp 23), guard := none }]
def c52_r6 : List SIns := [
  { dst := some 24, op := SOp.mv (Operand.tmp 5), guard := none },
  { dst := some 25, op := SOp.mv (Operand.tmp 7), guard := none },
  { dst := some 26, op := SOp.idx 1 (Operand.tmp 24) (Operand.tmp 25), guard := none },
  { dst := some 27, op := SOp.load1 (Operand.tmp 26), guard := none },
  { dst := some 28, op := SOp.mv (Operand.tmp 4), guard := none },
  { dst := some 29, op := SOp.mv (Operand.tmp 6), guard := none },
  { dst := some 30, op := SOp.bin (BinOp.xor) 3 (Operand.tmp 29) (Operand.const (Value.int (IntKind.i64) 1)), guard := none },
  { dst := some 31, op := SOp.idx 1 (Operand.tmp 28) (Operand.tmp 30), guard := none },
  { dst := some 32, op := SOp.load1 (Operand.tmp 31), guard := none },
  { dst := some 33, op := SOp.bin (BinOp.shl) 65 (Operand.const (Value.int (IntKind.u32) 1)) (Operand.tmp 32), guard := none },
  { dst := some 34, op := SOp.bin (BinOp.or) 65 (Operand.tmp 27) (Operand.tmp 33), guard := none },
  { dst := some 35, op := SOp.idx 1 (Operand.tmp 24) (Operand.tmp 25), guard := none },
  { dst := none, op := SOp.store 1 (Operand.tmp 35) (Operand.tmp 34), guard := none }]
def c52_r7 : List SIns := [
  { dst := some 36, op := SOp.ib (BinOp.add) (Operand.tmp 19) (Operand.const (Value.int (IntKind.i64) 1)), guard := none },
  { dst := some 19, op := SOp.mv (Operand.tmp 36), guard := none }]
def c52_l0 : SCode := (.seq (.reg c52_r4 [4, 5, 17, 18, 19, 20]) (.seq (.cond (Operand.tmp 20) .skip (.exit 0)) (.seq (.block 1 (.seq (.reg c52_r5 [4, 5, 6, 7, 17, 18, 19]) (.draw c52_r6 [[], [], [0, 1], [2, 0, 1], [], [], [5], [4, 6, 5], [7, 4, 6, 5], [8, 7, 4, 6, 5], [3, 9, 2, 0, 1, 8, 7, 4, 6, 5], [10, 3, 9, 2, 0, 1, 8, 7, 4, 6, 5], [11, 10, 3, 9, 2, 0, 1, 8, 7, 4, 6, 5]] [4, 5, 17, 18, 19]))) (.reg c52_r7 [4, 5, 17, 18, 19]))))
def c52_r8 : List SIns := [
  { dst := some 37, op := SOp.mv (Operand.tmp 5), guard := none },
  { dst := some 2, op := SOp.mv (Operand.tmp 37), guard := none }]
def c52 : SCode := (.seq (.reg c52_r0 [1]) (.seq (.reg c52_r1 [1, 4]) (.seq (.reg c52_r2 [4, 5]) (.seq (.seq (.reg c52_r3 [4, 5, 17, 18, 19]) (.block 0 (.loop c52_l0))) (.seq (.reg c52_r8 [2]) .ret)))))
theorem F52 : Fn Tryd.prog 52 c52 [SRes.tmp 2] 38 := ⟨Tryd.f52, Tryd.f52.body.getD .skip, [[1], [1, 4], [4, 5], [4, 5, 17, 18, 19], [4, 5, 17, 18, 19, 20], [4, 5, 6, 7, 17, 18, 19], [4, 5, 17, 18, 19], [4, 5, 17, 18, 19], [2]], Tryd.func52, by kernel_rfl, by kernel_rfl, by kernel_rfl, by kernel_rfl, by decide⟩

def c55_r0 : List SIns := [
  { dst := some 4, op := SOp.mv (Operand.tmp 0), guard := none },
  { dst := some 5, op := SOp.lenSl (Operand.tmp 4), guard := none },
  { dst := some 6, op := SOp.ib (BinOp.sub) (Operand.tmp 5) (Operand.const (Value.int (IntKind.i64) 1)), guard := none },
  { dst := some 2, op := SOp.mv (Operand.const (Value.int (IntKind.i64) 0)), guard := none },
  { dst := some 3, op := SOp.mv (Operand.tmp 6), guard := none }]
def c55_r1 : List SIns := [
  { dst := some 7, op := SOp.mv (Operand.tmp 2), guard := none },
  { dst := some 8, op := SOp.mv (Operand.tmp 3), guard := none },
  { dst := some 9, op := SOp.ib (BinOp.lss) (Operand.tmp 7) (Operand.tmp 8), guard := none }]
def c55_r2 : List SIns := [
  { dst := some 14, op := SOp.mv (Operand.tmp 0), guard := none },
  { dst := some 15, op := SOp.mv (Operand.tmp 2), guard := none },
  { dst := some 16, op := SOp.mv (Operand.tmp 0), guard := none },
  { dst := some 17, op := SOp.mv (Operand.tmp 3), guard := none },
  { dst := some 18, op := SOp.mv (Operand.tmp 0), guard := none },
  { dst := some 19, op := SOp.mv (Operand.tmp 3), guard := none },
  { dst := some 20, op := SOp.idx 1 (Operand.tmp 18) (Operand.tmp 19), guard := none },
  { dst := some 21, op := SOp.load1 (Operand.tmp 20), guard := none },
  { dst := some 22, op := SOp.mv (Operand.tmp 0), guard := none },
  { dst := some 23, op := SOp.mv (Operand.tmp 2), guard := none },
  { dst := some 24, op := SOp.idx 1 (Operand.tmp 22) (Operand.tmp 23), guard := none },
  { dst := some 25, op := SOp.load1 (Operand.tmp 24), guard := none },
  { dst := some 26, op := SOp.idx 1 (Operand.tmp 14) (Operand.tmp 15), guard := none },
  { dst := none, op := SOp.store 1 (Operand.tmp 26) (Operand.tmp 21), guard := none },
  { dst := some 27, op := SOp.idx 1 (Operand.tmp 16) (Operand.tmp 17), guard := none },
  { dst := none, op := SOp.store 1 (Operand.tmp 27) (Operand.tmp 25), guard := none }]
def c55_r3 : List SIns := [
  { dst := some 10, op := SOp.mv (Operand.tmp 2), guard := none },
  { dst := some 11, op := SOp.ib (BinOp.add) (Operand.tmp 10) (Operand.const (Value.int (IntKind.i64) 1)), guard := none },
  { dst := some 12, op := SOp.mv (Operand.tmp 3), guard := none },
  { dst := some 13, op := SOp.ib (BinOp.sub) (Operand.tmp 12) (Operand.const (Value.int (IntKind.i64) 1)), guard := none },
  { dst := some 2, op := SOp.mv (Operand.tmp 11), guard := none },
  { dst := some 3, op := SOp.mv (Operand.tmp 13), guard := none }]
def c55_l0 : SCode := (.seq (.seq (.reg c55_r1 [0, 2, 3, 9]) (.cond (Operand.tmp 9) .skip (.exit 0))) (.seq (.block 1 (.draw c55_r2 [[], [], [], [], [], [], [4, 5], [6, 4, 5], [], [], [8, 9], [10, 8, 9], [0, 1, 7, 11, 6, 4, 5, 10, 8, 9], [12, 0, 1, 7, 11, 6, 4, 5, 10, 8, 9], [2, 3, 13, 12, 0, 1, 7, 11, 6, 4, 5, 10, 8, 9], [14, 2, 3, 13, 12, 0, 1, 7, 11, 6, 4, 5, 10, 8, 9]] [0, 2, 3])) (.reg c55_r3 [0, 2, 3])))
def c55 : SCode := (.seq (.reg c55_r0 [0, 2, 3]) (.block 0 (.loop c55_l0)))
theorem F55 : Fn Tryd.prog 55 c55 [] 28 := ⟨Tryd.f55, Tryd.f55.body.getD .skip, [[0, 2, 3], [0, 2, 3, 9], [0, 2, 3], [0, 2, 3]], Tryd.func55, by kernel_rfl, by kernel_rfl, by kernel_rfl, by kernel_rfl, by decide⟩

def c59_r0 : List SIns := [
  { dst := some 1, op := SOp.box (Operand.tmp 0), guard := none },
  { dst := some 2, op := SOp.mv (Operand.const (Value.int (IntKind.i64) 0)), guard := none }]
def c59_r1 : List SIns := [
  { dst := some 3, op := SOp.mv (Operand.const (Value.int (IntKind.i64) 0)), guard := none }]
def c59_r2 : List SIns := [
  { dst := some 6, op := SOp.off 0 (Operand.tmp 1), guard := none },
  { dst := some 7, op := SOp.load1 (Operand.tmp 6), guard := none },
  { dst := some 8, op := SOp.lenSl (Operand.tmp 7), guard := none },
  { dst := some 9, op := SOp.mv (Operand.const (Value.int (IntKind.i64) 0)), guard := none }]
def c59_r3 : List SIns := [
  { dst := some 10, op := SOp.ib (BinOp.lss) (Operand.tmp 9) (Operand.tmp 8), guard := none }]
def c59_r4 : List SIns := [
  { dst := some 11, op := SOp.idx 1 (Operand.tmp 7) (Operand.tmp 9), guard := none },
  { dst := some 12, op := SOp.load1 (Operand.tmp 11), guard := none },
  { dst := some 5, op := SOp.mv (Operand.tmp 12), guard := none }]
def c59_r5 : List SIns := [
  { dst := some 13, op := SOp.mv (Operand.tmp 3), guard := none },
  { dst := some 14, op := SOp.mv (Operand.tmp 5), guard := none },
  { dst := some 15, op := SOp.lenSl (Operand.tmp 14), guard := none },
  { dst := some 16, op := SOp.ib (BinOp.add) (Operand.tmp 13) (Operand.tmp 15), guard := none },
  { dst := some 3, op := SOp.mv (Operand.tmp 16), guard := none }]
def c59_r6 : List SIns := [
  { dst := some 17, op := SOp.ib (BinOp.add) (Operand.tmp 9) (Operand.const (Value.int (IntKind.i64) 1)), guard := none },
  { dst := some 9, op := SOp.mv (Operand.tmp 17), guard := none }]
def c59_l0 : SCode := (.seq (.reg c59_r3 [3, 7, 8, 9, 10]) (.seq (.cond (Operand.tmp 10) .skip (.exit 0)) (.seq (.block 1 (.seq (.reg c59_r4 [3, 5, 7, 8, 9]) (.reg c59_r5 [3, 7, 8, 9]))) (.reg c59_r6 [3, 7, 8, 9]))))
def c59_r7 : List SIns := [
  { dst := some 18, op := SOp.mv (Operand.tmp 3), guard := none },
  { dst := some 2, op := SOp.mv (Operand.tmp 18), guard := none }]
def c59 : SCode := (.seq (.reg c59_r0 [1]) (.seq (.reg c59_r1 [1, 3]) (.seq (.seq (.reg c59_r2 [3, 7, 8, 9]) (.block 0 (.loop c59_l0))) (.seq (.reg c59_r7 [2]) .ret))))
theorem F59 : Fn Tryd.prog 59 c59 [SRes.tmp 2] 19 := ⟨Tryd.f59, Tryd.f59.body.getD .skip, [[1], [1, 3], [3, 7, 8, 9], [3, 7, 8, 9, 10], [3, 5, 7, 8, 9], [3, 7, 8, 9], [3, 7, 8, 9], [2]], Tryd.func59, by kernel_rfl, by kernel_rfl, by kernel_rfl, by kernel_rfl, by decide⟩

def c89_r0 : List SIns := [
  { dst := some 6, op := SOp.mv (Operand.const (Value.slice none 0 0)), guard := none }]
def c89_r1 : List SIns := [
  { dst := some 8, op := SOp.mv (Operand.tmp 0), guard := none },
  { dst := some 9, op := SOp.mv (Operand.tmp 1), guard := none },
  { dst := some 10, op := SOp.mv (Operand.tmp 2), guard := none },
  { dst := some 11, op := SOp.mv (Operand.tmp 0), guard := none },
  { dst := some 12, op := SOp.lenSl (Operand.tmp 11), guard := none },
  { dst := some 13, op := SOp.slc 1 (Operand.tmp 8) (some (Operand.tmp 9)) (some (Operand.tmp 10)) (some (Operand.tmp 12)), guard := none }]
def c89_r2 : List SIns := [
  { dst := some 14, op := SOp.mv (Operand.tmp 1), guard := none },
  { dst := some 15, op := SOp.mv (Operand.tmp 2), guard := none },
  { dst := some 16, op := SOp.ib (BinOp.eql) (Operand.tmp 14) (Operand.tmp 15), guard := none }]
def c89_r3 : List SIns := [
  { dst := some 17, op := SOp.mv (Operand.tmp 0), guard := none },
  { dst := some 6, op := SOp.mv (Operand.tmp 17), guard := none }]
def c89_r4 : List SIns := [
  { dst := some 18, op := SOp.mv (Operand.tmp 0), guard := none },
  { dst := some 19, op := SOp.lenSl (Operand.tmp 18), guard := none },
  { dst := some 7, op := SOp.mv (Operand.tmp 19), guard := none }]
def c89_r5 : List SIns := [
  { dst := some 20, op := SOp.mv (Operand.tmp 0), guard := none },
  { dst := some 21, op := SOp.mv (Operand.tmp 1), guard := none },
  { dst := some 22, op := SOp.slc 1 (Operand.tmp 20) none (some (Operand.tmp 21)) none, guard := none },
  { dst := some 23, op := SOp.mv (Operand.tmp 0), guard := none },
  { dst := some 24, op := SOp.mv (Operand.tmp 2), guard := none },
  { dst := some 25, op := SOp.slc 1 (Operand.tmp 23) (some (Operand.tmp 24)) none none, guard := none },
  { dst := some 26, op := SOp.app 1 8 (Operand.tmp 22) (Operand.tmp 25), guard := none },
  { dst := some 0, op := SOp.mv (Operand.tmp 26), guard := none }]
def c89_r6 : List SIns := [
  { dst := some 27, op := SOp.mv (Operand.tmp 0), guard := none },
  { dst := some 28, op := SOp.mv (Operand.tmp 0), guard := none },
  { dst := some 29, op := SOp.lenSl (Operand.tmp 28), guard := none },
  { dst := some 30, op := SOp.mv (Operand.tmp 7), guard := none },
  { dst := some 31, op := SOp.slc 1 (Operand.tmp 27) (some (Operand.tmp 29)) (some (Operand.tmp 30)) none, guard := none },
  { dst := none, op := SOp.clear (Value.int (IntKind.i64) 0) (Operand.tmp 31), guard := none }]
def c89_r7 : List SIns := [
  { dst := some 32, op := SOp.mv (Operand.tmp 0), guard := none },
  { dst := some 6, op := SOp.mv (Operand.tmp 32), guard := none }]
def c89 : SCode := (.seq (.reg c89_r0 [0, 1, 2]) (.seq (.reg c89_r1 [0, 1, 2]) (.seq (.seq (.reg c89_r2 [0, 1, 2, 16]) (.cond (Operand.tmp 16) (.seq (.reg c89_r3 [6]) .ret) .skip)) (.seq (.reg c89_r4 [0, 1, 2, 7]) (.seq (.draw c89_r5 [[], [], [0, 1], [], [], [3, 4], [2, 5, 0, 1, 3, 4], [6, 2, 5, 0, 1, 3, 4]] [0, 7]) (.seq (.reg c89_r6 [0]) (.seq (.reg c89_r7 [6]) .ret)))))))
theorem F89 : Fn Tryd.prog 89 c89 [SRes.tmp 6] 33 := ⟨Tryd.f89, Tryd.f89.body.getD .skip, [[0, 1, 2], [0, 1, 2], [0, 1, 2, 16], [6], [0, 1, 2, 7], [0, 7], [0], [6]], Tryd.func89, by kernel_rfl, by kernel_rfl, by kernel_rfl, by kernel_rfl, by decide⟩

def c90_r0 : List SIns := [
  { dst := some 1, op := SOp.box (Operand.tmp 0), guard := none },
  { dst := some 2, op := SOp.mv (Operand.const (Value.slice none 0 0)), guard := none },
  { dst := some 3, op := SOp.mv (Operand.const (Value.slice none 0 0)), guard := none }]
def c90_r1 : List SIns := [
  { dst := some 9, op := SOp.loadN 1 (Operand.tmp 1), guard := none },
  { dst := some 10, op := SOp.call 59 [Operand.tmp 9], guard := none },
  { dst := some 4, op := SOp.mv (Operand.tmp 10), guard := none }]
def c90_r2 : List SIns := [
  { dst := some 11, op := SOp.mv (Operand.tmp 4), guard := none },
  { dst := some 12, op := SOp.mk 8 (Value.int (IntKind.i64) 0) (Operand.tmp 11) (Operand.tmp 11), guard := none },
  { dst := some 13, op := SOp.mv (Operand.tmp 4), guard := none },
  { dst := some 14, op := SOp.mk 8 (Value.int (IntKind.i64) 0) (Operand.tmp 13) (Operand.tmp 13), guard := none },
  { dst := some 2, op := SOp.mv (Operand.tmp 12), guard := none },
  { dst := some 3, op := SOp.mv (Operand.tmp 14), guard := none }]
def c90_r3 : List SIns := [
  { dst := some 15, op := SOp.off 0 (Operand.tmp 1), guard := none },
  { dst := some 16, op := SOp.load1 (Operand.tmp 15), guard := none },
  { dst := some 17, op := SOp.lenSl (Operand.tmp 16), guard := none },
  { dst := some 18, op := SOp.mv (Operand.const (Value.int (IntKind.i64) 0)), guard := none }]
def c90_r4 : List SIns := [
  { dst := some 19, op := SOp.ib (BinOp.lss) (Operand.tmp 18) (Operand.tmp 17), guard := none }]
def c90_r5 : List SIns := [
  { dst := some 20, op := SOp.mv (Operand.tmp 18), guard := none },
  { dst := some 21, op := SOp.idx 1 (Operand.tmp 16) (Operand.tmp 18), guard := none },
  { dst := some 22, op := SOp.load1 (Operand.tmp 21), guard := none },
  { dst := some 5, op := SOp.mv (Operand.tmp 20), guard := none },
  { dst := some 6, op := SOp.mv (Operand.tmp 22), guard := none }]
def c90_r6 : List SIns := [
  { dst := some 23, op := SOp.mv (Operand.tmp 6), guard := none },
  { dst := some 24, op := SOp.lenSl (Operand.tmp 23), guard := none },
  { dst := some 25, op := SOp.mv (Operand.const (Value.int (IntKind.i64) 0)), guard := none }]
def c90_r7 : List SIns := [
  { dst := some 26, op := SOp.ib (BinOp.lss) (Operand.tmp 25) (Operand.tmp 24), guard := none }]
def c90_r8 : List SIns := [
  { dst := some 27, op := SOp.mv (Operand.tmp 25), guard := none },
  { dst := some 28, op := SOp.idx 1 (Operand.tmp 23) (Operand.tmp 25), guard := none },
  { dst := some 29, op := SOp.load1 (Operand.tmp 28), guard := none },
  { dst := some 7, op := SOp.mv (Operand.tmp 27), guard := none },
  { dst := some 8, op := SOp.mv (Operand.tmp 29), guard := none }]
def c90_r9 : List SIns := [
  { dst := some 30, op := SOp.mv (Operand.tmp 2), guard := none },
  { dst := some 31, op := SOp.mv (Operand.tmp 8), guard := none },
  { dst := some 32, op := SOp.mv (Operand.tmp 3), guard := none },
  { dst := some 33, op := SOp.mv (Operand.tmp 8), guard := none },
  { dst := some 34, op := SOp.mv (Operand.tmp 6), guard := none },
  { dst := some 35, op := SOp.mv (Operand.tmp 7), guard := none },
  { dst := some 36, op := SOp.ib (BinOp.add) (Operand.tmp 35) (Operand.const (Value.int (IntKind.i64) 1)), guard := none },
  { dst := some 37, op := SOp.mv (Operand.tmp 6), guard := none },
  { dst := some 38, op := SOp.lenSl (Operand.tmp 37), guard := none },
  { dst := some 39, op := SOp.ib (BinOp.rem) (Operand.tmp 36) (Operand.tmp 38), guard := none },
  { dst := some 40, op := SOp.idx 1 (Operand.tmp 34) (Operand.tmp 39), guard := none },
  { dst := some 41, op := SOp.load1 (Operand.tmp 40), guard := none },
  { dst := some 42, op := SOp.mv (Operand.tmp 5), guard := none },
  { dst := some 43, op := SOp.idx 1 (Operand.tmp 30) (Operand.tmp 31), guard := none },
  { dst := none, op := SOp.store 1 (Operand.tmp 43) (Operand.tmp 41), guard := none },
  { dst := some 44, op := SOp.idx 1 (Operand.tmp 32) (Operand.tmp 33), guard := none },
  { dst := none, op := SOp.store 1 (Operand.tmp 44) (Operand.tmp 42), guard := none }]
def c90_r10 : List SIns := [
  { dst := some 45, op := SOp.ib (BinOp.add) (Operand.tmp 25) (Operand.const (Value.int (IntKind.i64) 1)), guard := none },
  { dst := some 25, op := SOp.mv (Operand.tmp 45), guard := none }]
def c90_l0 : SCode := (.seq (.reg c90_r7 [2, 3, 5, 6, 16, 17, 18, 23, 24, 25, 26]) (.seq (.cond (Operand.tmp 26) .skip (.exit 2)) (.seq (.block 3 (.seq (.reg c90_r8 [2, 3, 5, 6, 7, 8, 16, 17, 18, 23, 24, 25]) (.reg c90_r9 [2, 3, 5, 6, 16, 17, 18, 23, 24, 25]))) (.reg c90_r10 [2, 3, 5, 6, 16, 17, 18, 23, 24, 25]))))
def c90_r11 : List SIns := [
  { dst := some 46, op := SOp.ib (BinOp.add) (Operand.tmp 18) (Operand.const (Value.int (IntKind.i64) 1)), guard := none },
  { dst := some 18, op := SOp.mv (Operand.tmp 46), guard := none }]
def c90_l1 : SCode := (.seq (.reg c90_r4 [2, 3, 16, 17, 18, 19]) (.seq (.cond (Operand.tmp 19) .skip (.exit 0)) (.seq (.block 1 (.seq (.reg c90_r5 [2, 3, 5, 6, 16, 17, 18]) (.seq (.reg c90_r6 [2, 3, 5, 6, 16, 17, 18, 23, 24, 25]) (.block 2 (.loop c90_l0))))) (.reg c90_r11 [2, 3, 16, 17, 18]))))
def c90_r12 : List SIns := [
  { dst := some 47, op := SOp.mv (Operand.tmp 2), guard := none },
  { dst := some 48, op := SOp.mv (Operand.tmp 3), guard := none },
  { dst := some 2, op := SOp.mv (Operand.tmp 47), guard := none },
  { dst := some 3, op := SOp.mv (Operand.tmp 48), guard := none }]
def c90 : SCode := (.seq (.reg c90_r0 [1]) (.seq (.reg c90_r1 [1, 4]) (.seq (.draw c90_r2 [[], [0], [], [2], [1, 0], [3, 4, 2, 1, 0]] [1, 2, 3]) (.seq (.seq (.reg c90_r3 [2, 3, 16, 17, 18]) (.block 0 (.loop c90_l1))) (.seq (.reg c90_r12 [2, 3]) .ret)))))
theorem F90 : Fn Tryd.prog 90 c90 [SRes.tmp 2, SRes.tmp 3] 49 := ⟨Tryd.f90, Tryd.f90.body.getD .skip, [[1], [1, 4], [1, 2, 3], [2, 3, 16, 17, 18], [2, 3, 16, 17, 18, 19], [2, 3, 5, 6, 16, 17, 18], [2, 3, 5, 6, 16, 17, 18, 23, 24, 25], [2, 3, 5, 6, 16, 17, 18, 23, 24, 25, 26], [2, 3, 5, 6, 7, 8, 16, 17, 18, 23, 24, 25], [2, 3, 5, 6, 16, 17, 18, 23, 24, 25], [2, 3, 5, 6, 16, 17, 18, 23, 24, 25], [2, 3, 16, 17, 18], [2, 3]], Tryd.func90, by kernel_rfl, by kernel_rfl, by kernel_rfl, by kernel_rfl, by decide⟩

end Go.Sx.Ch
