/- The codes of the functions, written by a program (Gen.lean), and that they are the functions'. No conditions. -/
import Derived.Test.YtfiebjbhiflfpaaDoorSxN
import Derived.KernelRfl
import Derived.Test.YtfiebjbhiflfpaaDoorProg
set_option linter.unusedVariables false
set_option maxRecDepth 100000
namespace Go.Sx.Ch
open Go Go.Sx Go.Proofs

def c3_r0 : List SIns := [
  { dst := some 2, op := SOp.box (Operand.tmp 0), guard := none },
  { dst := some 4, op := SOp.mv (Operand.const (Value.bool false)), guard := none }]
def c3_r1 : List SIns := [
  { dst := some 18, op := SOp.loadN 1 (Operand.tmp 2), guard := none },
  { dst := some 19, op := SOp.call 15 [Operand.tmp 18], guard := none }]
def c3_r2 : List SIns := [
  { dst := some 20, op := SOp.call 16 [], guard := none },
  { dst := some 4, op := SOp.mv (Operand.tmp 20), guard := none }]
def c3_r3 : List SIns := [
  { dst := some 21, op := SOp.loadN 1 (Operand.tmp 2), guard := none },
  { dst := some 5, op := SOp.alloc [Value.slice none 0 0], guard := none },
  { dst := none, op := SOp.store 1 (Operand.tmp 5) (Operand.tmp 21), guard := none }]
def c3_r4 : List SIns := [
  { dst := some 23, op := SOp.loadN 1 (Operand.tmp 2), guard := none },
  { dst := some 24, op := SOp.call 17 [Operand.tmp 23], guard := none },
  { dst := some 22, op := SOp.mv (Operand.tmp 24), guard := none },
  { dst := some 25, op := SOp.ext (Operand.tmp 22) 0, guard := none },
  { dst := some 26, op := SOp.ext (Operand.tmp 22) 1, guard := none },
  { dst := some 6, op := SOp.alloc [Value.slice none 0 0], guard := none },
  { dst := none, op := SOp.store 1 (Operand.tmp 6) (Operand.tmp 25), guard := none },
  { dst := some 7, op := SOp.mv (Operand.tmp 26), guard := none }]
def c3_r5 : List SIns := [
  { dst := some 28, op := SOp.loadN 1 (Operand.tmp 5), guard := none },
  { dst := some 29, op := SOp.call 18 [Operand.tmp 28], guard := none },
  { dst := some 27, op := SOp.mv (Operand.tmp 29), guard := none },
  { dst := some 30, op := SOp.ext (Operand.tmp 27) 0, guard := none },
  { dst := some 31, op := SOp.ext (Operand.tmp 27) 1, guard := none },
  { dst := some 8, op := SOp.alloc [Value.slice none 0 0], guard := none },
  { dst := none, op := SOp.store 1 (Operand.tmp 8) (Operand.tmp 30), guard := none },
  { dst := some 9, op := SOp.mv (Operand.tmp 31), guard := none }]
def c3_r6 : List SIns := [
  { dst := some 33, op := SOp.loadN 1 (Operand.tmp 2), guard := none },
  { dst := some 34, op := SOp.call 19 [Operand.tmp 33], guard := none },
  { dst := some 32, op := SOp.mv (Operand.tmp 34), guard := none },
  { dst := some 35, op := SOp.ext (Operand.tmp 32) 0, guard := none },
  { dst := some 36, op := SOp.ext (Operand.tmp 32) 1, guard := none },
  { dst := some 10, op := SOp.alloc [Value.slice none 0 0], guard := none },
  { dst := none, op := SOp.store 1 (Operand.tmp 10) (Operand.tmp 35), guard := none },
  { dst := some 11, op := SOp.mv (Operand.tmp 36), guard := none }]
def c3_r7 : List SIns := [
  { dst := some 38, op := SOp.loadN 1 (Operand.tmp 5), guard := none },
  { dst := some 39, op := SOp.call 20 [Operand.tmp 38], guard := none },
  { dst := some 37, op := SOp.mv (Operand.tmp 39), guard := none },
  { dst := some 40, op := SOp.ext (Operand.tmp 37) 0, guard := none },
  { dst := some 41, op := SOp.ext (Operand.tmp 37) 1, guard := none },
  { dst := some 12, op := SOp.alloc [Value.slice none 0 0], guard := none },
  { dst := none, op := SOp.store 1 (Operand.tmp 12) (Operand.tmp 40), guard := none },
  { dst := some 13, op := SOp.mv (Operand.tmp 41), guard := none }]
def c3_r8 : List SIns := [
  { dst := some 43, op := SOp.loadN 1 (Operand.tmp 2), guard := none },
  { dst := some 44, op := SOp.mv (Operand.tmp 1), guard := none },
  { dst := some 45, op := SOp.call 21 [Operand.tmp 43, Operand.tmp 44], guard := none },
  { dst := some 42, op := SOp.mv (Operand.tmp 45), guard := none },
  { dst := some 46, op := SOp.ext (Operand.tmp 42) 0, guard := none },
  { dst := some 47, op := SOp.ext (Operand.tmp 42) 1, guard := none },
  { dst := some 14, op := SOp.alloc [Value.slice none 0 0], guard := none },
  { dst := none, op := SOp.store 1 (Operand.tmp 14) (Operand.tmp 46), guard := none },
  { dst := some 15, op := SOp.mv (Operand.tmp 47), guard := none }]
def c3_r9 : List SIns := [
  { dst := some 49, op := SOp.loadN 1 (Operand.tmp 5), guard := none },
  { dst := some 50, op := SOp.mv (Operand.tmp 1), guard := none },
  { dst := some 51, op := SOp.call 22 [Operand.tmp 49, Operand.tmp 50], guard := none },
  { dst := some 48, op := SOp.mv (Operand.tmp 51), guard := none },
  { dst := some 52, op := SOp.ext (Operand.tmp 48) 0, guard := none },
  { dst := some 53, op := SOp.ext (Operand.tmp 48) 1, guard := none },
  { dst := some 16, op := SOp.alloc [Value.slice none 0 0], guard := none },
  { dst := none, op := SOp.store 1 (Operand.tmp 16) (Operand.tmp 52), guard := none },
  { dst := some 17, op := SOp.mv (Operand.tmp 53), guard := none }]
def c3_r10 : List SIns := [
  { dst := some 54, op := SOp.off 0 (Operand.tmp 6), guard := none },
  { dst := some 55, op := SOp.load1 (Operand.tmp 54), guard := none },
  { dst := some 56, op := SOp.off 0 (Operand.tmp 8), guard := none },
  { dst := some 57, op := SOp.load1 (Operand.tmp 56), guard := none },
  { dst := some 58, op := SOp.call 23 [Operand.tmp 55, Operand.tmp 57], guard := none },
  { dst := some 59, op := SOp.mv (Operand.tmp 58), guard := none },
  { dst := some 60, op := SOp.mv (Operand.tmp 7), guard := some (59, true) },
  { dst := some 61, op := SOp.mv (Operand.tmp 9), guard := some (59, true) },
  { dst := some 62, op := SOp.ib (BinOp.eql) (Operand.tmp 60) (Operand.tmp 61), guard := some (59, true) },
  { dst := some 63, op := SOp.pick (Operand.tmp 59) (Operand.tmp 62) (Operand.const (Value.bool false)), guard := none },
  { dst := some 64, op := SOp.mv (Operand.tmp 63), guard := none },
  { dst := some 65, op := SOp.off 0 (Operand.tmp 10), guard := some (64, true) },
  { dst := some 66, op := SOp.load1 (Operand.tmp 65), guard := some (64, true) },
  { dst := some 67, op := SOp.off 0 (Operand.tmp 12), guard := some (64, true) },
  { dst := some 68, op := SOp.load1 (Operand.tmp 67), guard := some (64, true) },
  { dst := some 69, op := SOp.call 23 [Operand.tmp 66, Operand.tmp 68], guard := some (64, true) },
  { dst := some 70, op := SOp.pick (Operand.tmp 64) (Operand.tmp 69) (Operand.const (Value.bool false)), guard := none },
  { dst := some 71, op := SOp.mv (Operand.tmp 70), guard := none },
  { dst := some 72, op := SOp.mv (Operand.tmp 11), guard := some (71, true) },
  { dst := some 73, op := SOp.mv (Operand.tmp 13), guard := some (71, true) },
  { dst := some 74, op := SOp.ib (BinOp.eql) (Operand.tmp 72) (Operand.tmp 73), guard := some (71, true) },
  { dst := some 75, op := SOp.pick (Operand.tmp 71) (Operand.tmp 74) (Operand.const (Value.bool false)), guard := none },
  { dst := some 76, op := SOp.mv (Operand.tmp 75), guard := none },
  { dst := some 77, op := SOp.off 0 (Operand.tmp 14), guard := some (76, true) },
  { dst := some 78, op := SOp.load1 (Operand.tmp 77), guard := some (76, true) },
  { dst := some 79, op := SOp.off 0 (Operand.tmp 16), guard := some (76, true) },
  { dst := some 80, op := SOp.load1 (Operand.tmp 79), guard := some (76, true) },
  { dst := some 81, op := SOp.call 23 [Operand.tmp 78, Operand.tmp 80], guard := some (76, true) },
  { dst := some 82, op := SOp.pick (Operand.tmp 76) (Operand.tmp 81) (Operand.const (Value.bool false)), guard := none },
  { dst := some 83, op := SOp.mv (Operand.tmp 82), guard := none },
  { dst := some 84, op := SOp.mv (Operand.tmp 15), guard := some (83, true) },
  { dst := some 85, op := SOp.mv (Operand.tmp 17), guard := some (83, true) },
  { dst := some 86, op := SOp.ib (BinOp.eql) (Operand.tmp 84) (Operand.tmp 85), guard := some (83, true) },
  { dst := some 87, op := SOp.pick (Operand.tmp 83) (Operand.tmp 86) (Operand.const (Value.bool false)), guard := none },
  { dst := some 88, op := SOp.mv (Operand.tmp 87), guard := none },
  { dst := some 89, op := SOp.call 16 [], guard := some (88, true) },
  { dst := some 90, op := SOp.pick (Operand.tmp 88) (Operand.tmp 89) (Operand.const (Value.bool false)), guard := none },
  { dst := some 4, op := SOp.mv (Operand.tmp 90), guard := none }]
def c3 : SCode := (.seq (.reg c3_r0 [1, 2]) (.seq (.seq (.reg c3_r1 [1, 2, 19]) (.cond (Operand.tmp 19) (.seq (.reg c3_r2 [4]) .ret) .skip)) (.seq (.reg c3_r3 [1, 2, 5]) (.seq (.reg c3_r4 [1, 2, 5, 6, 7]) (.seq (.reg c3_r5 [1, 2, 5, 6, 7, 8, 9]) (.seq (.reg c3_r6 [1, 2, 5, 6, 7, 8, 9, 10, 11]) (.seq (.reg c3_r7 [1, 2, 5, 6, 7, 8, 9, 10, 11, 12, 13]) (.seq (.reg c3_r8 [1, 5, 6, 7, 8, 9, 10, 11, 12, 13, 14, 15]) (.seq (.reg c3_r9 [6, 7, 8, 9, 10, 11, 12, 13, 14, 15, 16, 17]) (.seq (.reg c3_r10 [4]) .ret))))))))))
theorem F3 : Fn Tryd.prog 3 c3 [SRes.tmp 4] 91 := ⟨Tryd.f3, Tryd.f3.body.getD .skip, [[1, 2], [1, 2, 19], [4], [1, 2, 5], [1, 2, 5, 6, 7], [1, 2, 5, 6, 7, 8, 9], [1, 2, 5, 6, 7, 8, 9, 10, 11], [1, 2, 5, 6, 7, 8, 9, 10, 11, 12, 13], [1, 5, 6, 7, 8, 9, 10, 11, 12, 13, 14, 15], [6, 7, 8, 9, 10, 11, 12, 13, 14, 15, 16, 17], [4]], Tryd.func3, by kernel_rfl, by kernel_rfl, by kernel_rfl, by kernel_rfl, by decide⟩

def c5_r0 : List SIns := [
  { dst := some 1, op := SOp.box (Operand.tmp 0), guard := none },
  { dst := some 2, op := SOp.mv (Operand.const (Value.bool false)), guard := none }]
def c5_r1 : List SIns := [
  { dst := some 7, op := SOp.loadN 1 (Operand.tmp 1), guard := none },
  { dst := some 8, op := SOp.call 15 [Operand.tmp 7], guard := none }]
def c5_r2 : List SIns := [
  { dst := some 9, op := SOp.call 16 [], guard := none },
  { dst := some 2, op := SOp.mv (Operand.tmp 9), guard := none }]
def c5_r3 : List SIns := [
  { dst := some 11, op := SOp.loadN 1 (Operand.tmp 1), guard := none },
  { dst := some 12, op := SOp.call 31 [Operand.tmp 11], guard := none },
  { dst := some 10, op := SOp.mv (Operand.tmp 12), guard := none },
  { dst := some 13, op := SOp.ext (Operand.tmp 10) 0, guard := none },
  { dst := some 14, op := SOp.ext (Operand.tmp 10) 1, guard := none },
  { dst := some 3, op := SOp.mv (Operand.tmp 13), guard := none },
  { dst := some 4, op := SOp.mv (Operand.tmp 14), guard := none }]
def c5_r4 : List SIns := [
  { dst := some 16, op := SOp.loadN 1 (Operand.tmp 1), guard := none },
  { dst := some 17, op := SOp.call 32 [Operand.tmp 16], guard := none },
  { dst := some 15, op := SOp.mv (Operand.tmp 17), guard := none },
  { dst := some 18, op := SOp.ext (Operand.tmp 15) 0, guard := none },
  { dst := some 19, op := SOp.ext (Operand.tmp 15) 1, guard := none },
  { dst := some 5, op := SOp.mv (Operand.tmp 18), guard := none },
  { dst := some 6, op := SOp.mv (Operand.tmp 19), guard := none }]
def c5_r5 : List SIns := [
  { dst := some 20, op := SOp.mv (Operand.tmp 3), guard := none },
  { dst := some 21, op := SOp.mv (Operand.tmp 5), guard := none },
  { dst := some 22, op := SOp.call 30 [Operand.tmp 20, Operand.tmp 21], guard := none },
  { dst := some 23, op := SOp.mv (Operand.tmp 22), guard := none },
  { dst := some 24, op := SOp.mv (Operand.tmp 4), guard := some (23, true) },
  { dst := some 25, op := SOp.mv (Operand.tmp 6), guard := some (23, true) },
  { dst := some 26, op := SOp.ib (BinOp.eql) (Operand.tmp 24) (Operand.tmp 25), guard := some (23, true) },
  { dst := some 27, op := SOp.pick (Operand.tmp 23) (Operand.tmp 26) (Operand.const (Value.bool false)), guard := none },
  { dst := some 28, op := SOp.mv (Operand.tmp 27), guard := none },
  { dst := some 29, op := SOp.call 16 [], guard := some (28, true) },
  { dst := some 30, op := SOp.pick (Operand.tmp 28) (Operand.tmp 29) (Operand.const (Value.bool false)), guard := none },
  { dst := some 2, op := SOp.mv (Operand.tmp 30), guard := none }]
def c5 : SCode := (.seq (.reg c5_r0 [1]) (.seq (.seq (.reg c5_r1 [1, 8]) (.cond (Operand.tmp 8) (.seq (.reg c5_r2 [2]) .ret) .skip)) (.seq (.reg c5_r3 [1, 3, 4]) (.seq (.reg c5_r4 [3, 4, 5, 6]) (.seq (.reg c5_r5 [2]) .ret)))))
theorem F5 : Fn Tryd.prog 5 c5 [SRes.tmp 2] 31 := ⟨Tryd.f5, Tryd.f5.body.getD .skip, [[1], [1, 8], [2], [1, 3, 4], [3, 4, 5, 6], [2]], Tryd.func5, by kernel_rfl, by kernel_rfl, by kernel_rfl, by kernel_rfl, by decide⟩

def c15_r0 : List SIns := [
  { dst := some 1, op := SOp.box (Operand.tmp 0), guard := none },
  { dst := some 2, op := SOp.mv (Operand.const (Value.bool false)), guard := none }]
def c15_r1 : List SIns := [
  { dst := some 4, op := SOp.off 0 (Operand.tmp 1), guard := none },
  { dst := some 5, op := SOp.load1 (Operand.tmp 4), guard := none },
  { dst := some 6, op := SOp.lenSl (Operand.tmp 5), guard := none },
  { dst := some 7, op := SOp.ib (BinOp.gtr) (Operand.tmp 6) (Operand.const (Value.int (IntKind.i64) 40)), guard := none }]
def c15_r2 : List SIns := [
  { dst := some 2, op := SOp.mv (Operand.const (Value.bool true)), guard := none }]
def c15_r3 : List SIns := [
  { dst := some 3, op := SOp.mv (Operand.const (Value.int (IntKind.i64) 0)), guard := none }]
def c15_r4 : List SIns := [
  { dst := some 8, op := SOp.mv (Operand.tmp 3), guard := none },
  { dst := some 9, op := SOp.off 0 (Operand.tmp 1), guard := none },
  { dst := some 10, op := SOp.load1 (Operand.tmp 9), guard := none },
  { dst := some 11, op := SOp.lenSl (Operand.tmp 10), guard := none },
  { dst := some 12, op := SOp.ib (BinOp.lss) (Operand.tmp 8) (Operand.tmp 11), guard := none }]
def c15_r5 : List SIns := [
  { dst := some 15, op := SOp.off 0 (Operand.tmp 1), guard := none },
  { dst := some 16, op := SOp.load1 (Operand.tmp 15), guard := none },
  { dst := some 17, op := SOp.mv (Operand.tmp 3), guard := none },
  { dst := some 18, op := SOp.idx 1 (Operand.tmp 16) (Operand.tmp 17), guard := none },
  { dst := some 19, op := SOp.load1 (Operand.tmp 18), guard := none },
  { dst := some 20, op := SOp.lenSl (Operand.tmp 19), guard := none },
  { dst := some 21, op := SOp.ib (BinOp.gtr) (Operand.tmp 20) (Operand.const (Value.int (IntKind.i64) 40)), guard := none }]
def c15_r6 : List SIns := [
  { dst := some 2, op := SOp.mv (Operand.const (Value.bool true)), guard := none }]
def c15_r7 : List SIns := [
  { dst := some 13, op := SOp.mv (Operand.tmp 3), guard := none },
  { dst := some 14, op := SOp.ib (BinOp.add) (Operand.tmp 13) (Operand.const (Value.int (IntKind.i64) 1)), guard := none },
  { dst := some 3, op := SOp.mv (Operand.tmp 14), guard := none }]
def c15_l0 : SCode := (.seq (.seq (.reg c15_r4 [1, 3, 12]) (.cond (Operand.tmp 12) .skip (.exit 0))) (.seq (.block 1 (.seq (.reg c15_r5 [1, 3, 21]) (.cond (Operand.tmp 21) (.seq (.reg c15_r6 [2]) .ret) .skip))) (.reg c15_r7 [1, 3])))
def c15_r8 : List SIns := [
  { dst := some 2, op := SOp.mv (Operand.const (Value.bool false)), guard := none }]
def c15 : SCode := (.seq (.reg c15_r0 [1]) (.seq (.seq (.reg c15_r1 [1, 7]) (.cond (Operand.tmp 7) (.seq (.reg c15_r2 [2]) .ret) .skip)) (.seq (.seq (.reg c15_r3 [1, 3]) (.block 0 (.loop c15_l0))) (.seq (.reg c15_r8 [2]) .ret))))
theorem F15 : Fn Tryd.prog 15 c15 [SRes.tmp 2] 22 := ⟨Tryd.f15, Tryd.f15.body.getD .skip, [[1], [1, 7], [2], [1, 3], [1, 3, 12], [1, 3, 21], [2], [1, 3], [2]], Tryd.func15, by kernel_rfl, by kernel_rfl, by kernel_rfl, by kernel_rfl, by decide⟩

def c27_r0 : List SIns := [
  { dst := some 1, op := SOp.box (Operand.tmp 0), guard := none },
  { dst := some 2, op := SOp.mv (Operand.const (Value.int (IntKind.i64) 0)), guard := none },
  { dst := some 3, op := SOp.mv (Operand.const (Value.int (IntKind.i64) 0)), guard := none }]
def c27_r1 : List SIns := [
  { dst := some 7, op := SOp.loadN 1 (Operand.tmp 1), guard := none },
  { dst := some 8, op := SOp.call 45 [Operand.tmp 7], guard := none },
  { dst := some 4, op := SOp.mv (Operand.tmp 8), guard := none }]
def c27_r2 : List SIns := [
  { dst := some 9, op := SOp.mv (Operand.tmp 4), guard := none },
  { dst := some 10, op := SOp.ib (BinOp.eql) (Operand.tmp 9) (Operand.const (Value.int (IntKind.i64) 0)), guard := none },
  { dst := some 11, op := SOp.mv (Operand.tmp 10), guard := none },
  { dst := some 12, op := SOp.loadN 1 (Operand.tmp 1), guard := some (11, true) },
  { dst := some 13, op := SOp.call 77 [Operand.tmp 12], guard := some (11, true) },
  { dst := some 14, op := SOp.pick (Operand.tmp 11) (Operand.tmp 13) (Operand.const (Value.bool false)), guard := none }]
def c27_r3 : List SIns := [
  { dst := some 4, op := SOp.mv (Operand.const (Value.int (IntKind.i64) 12)), guard := none }]
def c27_r4 : List SIns := [
  { dst := some 15, op := SOp.mv (Operand.tmp 4), guard := none },
  { dst := some 16, op := SOp.ib (BinOp.neq) (Operand.tmp 15) (Operand.const (Value.int (IntKind.i64) 0)), guard := none }]
def c27_r5 : List SIns := [
  { dst := some 17, op := SOp.mv (Operand.tmp 4), guard := none },
  { dst := some 2, op := SOp.mv (Operand.const (Value.int (IntKind.i64) 0)), guard := none },
  { dst := some 3, op := SOp.mv (Operand.tmp 17), guard := none }]
def c27_r6 : List SIns := [
  { dst := some 19, op := SOp.loadN 1 (Operand.tmp 1), guard := none },
  { dst := some 20, op := SOp.call 78 [Operand.tmp 19], guard := none },
  { dst := some 18, op := SOp.mv (Operand.tmp 20), guard := none },
  { dst := some 21, op := SOp.ext (Operand.tmp 18) 0, guard := none },
  { dst := some 22, op := SOp.ext (Operand.tmp 18) 1, guard := none },
  { dst := some 5, op := SOp.mv (Operand.tmp 21), guard := none },
  { dst := some 6, op := SOp.mv (Operand.tmp 22), guard := none }]
def c27_r7 : List SIns := [
  { dst := some 23, op := SOp.mv (Operand.tmp 6), guard := none },
  { dst := some 2, op := SOp.mv (Operand.tmp 23), guard := none },
  { dst := some 3, op := SOp.mv (Operand.const (Value.int (IntKind.i64) 0)), guard := none }]
def c27 : SCode := (.seq (.reg c27_r0 [1]) (.seq (.reg c27_r1 [1, 4]) (.seq (.seq (.reg c27_r2 [1, 4, 14]) (.cond (Operand.tmp 14) (.reg c27_r3 [1, 4]) .skip)) (.seq (.seq (.reg c27_r4 [1, 4, 16]) (.cond (Operand.tmp 16) (.seq (.reg c27_r5 [2, 3]) .ret) .skip)) (.seq (.reg c27_r6 [6]) (.seq (.reg c27_r7 [2, 3]) .ret))))))
theorem F27 : Fn Tryd.prog 27 c27 [SRes.tmp 2, SRes.tmp 3] 24 := ⟨Tryd.f27, Tryd.f27.body.getD .skip, [[1], [1, 4], [1, 4, 14], [1, 4], [1, 4, 16], [2, 3], [6], [2, 3]], Tryd.func27, by kernel_rfl, by kernel_rfl, by kernel_rfl, by kernel_rfl, by decide⟩

def c29_r0 : List SIns := [
  { dst := some 1, op := SOp.box (Operand.tmp 0), guard := none },
  { dst := some 2, op := SOp.mv (Operand.const (Value.slice none 0 0)), guard := none },
  { dst := some 3, op := SOp.mv (Operand.const (Value.int (IntKind.i64) 0)), guard := none }]
def c29_r1 : List SIns := [
  { dst := some 7, op := SOp.loadN 1 (Operand.tmp 1), guard := none },
  { dst := some 8, op := SOp.call 45 [Operand.tmp 7], guard := none },
  { dst := some 4, op := SOp.mv (Operand.tmp 8), guard := none }]
def c29_r2 : List SIns := [
  { dst := some 9, op := SOp.mv (Operand.tmp 4), guard := none },
  { dst := some 10, op := SOp.ib (BinOp.eql) (Operand.tmp 9) (Operand.const (Value.int (IntKind.i64) 0)), guard := none },
  { dst := some 11, op := SOp.mv (Operand.tmp 10), guard := none },
  { dst := some 12, op := SOp.loadN 1 (Operand.tmp 1), guard := some (11, true) },
  { dst := some 13, op := SOp.call 77 [Operand.tmp 12], guard := some (11, true) },
  { dst := some 14, op := SOp.pick (Operand.tmp 11) (Operand.tmp 13) (Operand.const (Value.bool false)), guard := none }]
def c29_r3 : List SIns := [
  { dst := some 4, op := SOp.mv (Operand.const (Value.int (IntKind.i64) 12)), guard := none }]
def c29_r4 : List SIns := [
  { dst := some 15, op := SOp.mv (Operand.tmp 4), guard := none },
  { dst := some 16, op := SOp.ib (BinOp.neq) (Operand.tmp 15) (Operand.const (Value.int (IntKind.i64) 0)), guard := none }]
def c29_r5 : List SIns := [
  { dst := some 17, op := SOp.mv (Operand.tmp 4), guard := none },
  { dst := some 2, op := SOp.mv (Operand.const (Value.slice none 0 0)), guard := none },
  { dst := some 3, op := SOp.mv (Operand.tmp 17), guard := none }]
def c29_r6 : List SIns := [
  { dst := some 19, op := SOp.loadN 1 (Operand.tmp 1), guard := none },
  { dst := some 20, op := SOp.call 78 [Operand.tmp 19], guard := none },
  { dst := some 18, op := SOp.mv (Operand.tmp 20), guard := none },
  { dst := some 21, op := SOp.ext (Operand.tmp 18) 0, guard := none },
  { dst := some 22, op := SOp.ext (Operand.tmp 18) 1, guard := none },
  { dst := some 5, op := SOp.mv (Operand.tmp 21), guard := none },
  { dst := some 6, op := SOp.mv (Operand.tmp 22), guard := none }]
def c29_r7 : List SIns := [
  { dst := some 23, op := SOp.mv (Operand.tmp 5), guard := none },
  { dst := some 2, op := SOp.mv (Operand.tmp 23), guard := none },
  { dst := some 3, op := SOp.mv (Operand.const (Value.int (IntKind.i64) 0)), guard := none }]
def c29 : SCode := (.seq (.reg c29_r0 [1]) (.seq (.reg c29_r1 [1, 4]) (.seq (.seq (.reg c29_r2 [1, 4, 14]) (.cond (Operand.tmp 14) (.reg c29_r3 [1, 4]) .skip)) (.seq (.seq (.reg c29_r4 [1, 4, 16]) (.cond (Operand.tmp 16) (.seq (.reg c29_r5 [2, 3]) .ret) .skip)) (.seq (.reg c29_r6 [5]) (.seq (.reg c29_r7 [2, 3]) .ret))))))
theorem F29 : Fn Tryd.prog 29 c29 [SRes.tmp 2, SRes.tmp 3] 24 := ⟨Tryd.f29, Tryd.f29.body.getD .skip, [[1], [1, 4], [1, 4, 14], [1, 4], [1, 4, 16], [2, 3], [5], [2, 3]], Tryd.func29, by kernel_rfl, by kernel_rfl, by kernel_rfl, by kernel_rfl, by decide⟩

def c32_r0 : List SIns := [
  { dst := some 1, op := SOp.box (Operand.tmp 0), guard := none },
  { dst := some 2, op := SOp.mv (Operand.const (Value.slice none 0 0)), guard := none },
  { dst := some 3, op := SOp.mv (Operand.const (Value.int (IntKind.i64) 0)), guard := none }]
def c32_r1 : List SIns := [
  { dst := some 8, op := SOp.loadN 1 (Operand.tmp 1), guard := none },
  { dst := some 9, op := SOp.call 45 [Operand.tmp 8], guard := none },
  { dst := some 4, op := SOp.mv (Operand.tmp 9), guard := none }]
def c32_r2 : List SIns := [
  { dst := some 10, op := SOp.mv (Operand.tmp 4), guard := none },
  { dst := some 11, op := SOp.ib (BinOp.eql) (Operand.tmp 10) (Operand.const (Value.int (IntKind.i64) 0)), guard := none },
  { dst := some 12, op := SOp.mv (Operand.tmp 11), guard := none },
  { dst := some 13, op := SOp.loadN 1 (Operand.tmp 1), guard := some (12, true) },
  { dst := some 14, op := SOp.call 77 [Operand.tmp 13], guard := some (12, true) },
  { dst := some 15, op := SOp.pick (Operand.tmp 12) (Operand.tmp 14) (Operand.const (Value.bool false)), guard := none }]
def c32_r3 : List SIns := [
  { dst := some 4, op := SOp.mv (Operand.const (Value.int (IntKind.i64) 12)), guard := none }]
def c32_r4 : List SIns := [
  { dst := some 16, op := SOp.mv (Operand.tmp 4), guard := none },
  { dst := some 17, op := SOp.ib (BinOp.neq) (Operand.tmp 16) (Operand.const (Value.int (IntKind.i64) 0)), guard := none }]
def c32_r5 : List SIns := [
  { dst := some 18, op := SOp.mv (Operand.tmp 4), guard := none },
  { dst := some 2, op := SOp.mv (Operand.const (Value.slice none 0 0)), guard := none },
  { dst := some 3, op := SOp.mv (Operand.tmp 18), guard := none }]
def c32_r6 : List SIns := [
  { dst := some 5, op := SOp.mv (Operand.const (Value.int (IntKind.i64) 3)), guard := none }]
def c32_r7 : List SIns := [
  { dst := some 19, op := SOp.mv (Operand.tmp 5), guard := none },
  { dst := some 20, op := SOp.off 0 (Operand.tmp 1), guard := none },
  { dst := some 21, op := SOp.load1 (Operand.tmp 20), guard := none },
  { dst := some 22, op := SOp.lenSl (Operand.tmp 21), guard := none },
  { dst := some 23, op := SOp.ib (BinOp.leq) (Operand.tmp 19) (Operand.tmp 22), guard := none }]
def c32_r8 : List SIns := [
  { dst := some 27, op := SOp.loadN 1 (Operand.tmp 1), guard := none },
  { dst := some 28, op := SOp.mv (Operand.tmp 5), guard := none },
  { dst := some 29, op := SOp.call 83 [Operand.tmp 27, Operand.const (Value.slice none 0 0), Operand.tmp 28], guard := none },
  { dst := some 26, op := SOp.mv (Operand.tmp 29), guard := none },
  { dst := some 30, op := SOp.ext (Operand.tmp 26) 0, guard := none },
  { dst := some 31, op := SOp.ext (Operand.tmp 26) 1, guard := none },
  { dst := some 6, op := SOp.mv (Operand.tmp 30), guard := none },
  { dst := some 7, op := SOp.mv (Operand.tmp 31), guard := none }]
def c32_r9 : List SIns := [
  { dst := some 32, op := SOp.mv (Operand.tmp 7), guard := none }]
def c32_r10 : List SIns := [
  { dst := some 33, op := SOp.mv (Operand.tmp 6), guard := none },
  { dst := some 2, op := SOp.mv (Operand.tmp 33), guard := none },
  { dst := some 3, op := SOp.mv (Operand.const (Value.int (IntKind.i64) 0)), guard := none }]
def c32_r11 : List SIns := [
  { dst := some 24, op := SOp.mv (Operand.tmp 5), guard := none },
  { dst := some 25, op := SOp.ib (BinOp.add) (Operand.tmp 24) (Operand.const (Value.int (IntKind.i64) 2)), guard := none },
  { dst := some 5, op := SOp.mv (Operand.tmp 25), guard := none }]
def c32_l0 : SCode := (.seq (.seq (.reg c32_r7 [1, 5, 23]) (.cond (Operand.tmp 23) .skip (.exit 0))) (.seq (.block 1 (.seq (.reg c32_r8 [1, 5, 6, 7]) (.seq (.reg c32_r9 [1, 5, 6, 32]) (.cond (Operand.tmp 32) (.seq (.reg c32_r10 [2, 3]) .ret) .skip)))) (.reg c32_r11 [1, 5])))
def c32_r12 : List SIns := [
  { dst := some 2, op := SOp.mv (Operand.const (Value.slice none 0 0)), guard := none },
  { dst := some 3, op := SOp.mv (Operand.const (Value.int (IntKind.i64) 13)), guard := none }]
def c32 : SCode := (.seq (.reg c32_r0 [1]) (.seq (.reg c32_r1 [1, 4]) (.seq (.seq (.reg c32_r2 [1, 4, 15]) (.cond (Operand.tmp 15) (.reg c32_r3 [1, 4]) .skip)) (.seq (.seq (.reg c32_r4 [1, 4, 17]) (.cond (Operand.tmp 17) (.seq (.reg c32_r5 [2, 3]) .ret) .skip)) (.seq (.seq (.reg c32_r6 [1, 5]) (.block 0 (.loop c32_l0))) (.seq (.reg c32_r12 [2, 3]) .ret))))))
theorem F32 : Fn Tryd.prog 32 c32 [SRes.tmp 2, SRes.tmp 3] 34 := ⟨Tryd.f32, Tryd.f32.body.getD .skip, [[1], [1, 4], [1, 4, 15], [1, 4], [1, 4, 17], [2, 3], [1, 5], [1, 5, 23], [1, 5, 6, 7], [1, 5, 6, 32], [2, 3], [1, 5], [2, 3]], Tryd.func32, by kernel_rfl, by kernel_rfl, by kernel_rfl, by kernel_rfl, by decide⟩

def c45_r0 : List SIns := [
  { dst := some 1, op := SOp.box (Operand.tmp 0), guard := none },
  { dst := some 2, op := SOp.mv (Operand.const (Value.int (IntKind.i64) 0)), guard := none }]
def c45_r1 : List SIns := [
  { dst := some 7, op := SOp.loadN 1 (Operand.tmp 1), guard := none },
  { dst := some 8, op := SOp.call 66 [Operand.tmp 7], guard := none },
  { dst := some 3, op := SOp.mv (Operand.tmp 8), guard := none }]
def c45_r2 : List SIns := [
  { dst := some 9, op := SOp.mv (Operand.tmp 3), guard := none },
  { dst := some 10, op := SOp.ib (BinOp.gtr) (Operand.tmp 9) (Operand.const (Value.int (IntKind.i64) 16)), guard := none }]
def c45_r3 : List SIns := [
  { dst := some 2, op := SOp.mv (Operand.const (Value.int (IntKind.i64) 3)), guard := none }]
def c45_r4 : List SIns := [
  { dst := some 4, op := SOp.mv (Operand.const (Value.int (IntKind.i64) 0)), guard := none }]
def c45_r5 : List SIns := [
  { dst := some 11, op := SOp.mv (Operand.tmp 4), guard := none },
  { dst := some 12, op := SOp.off 0 (Operand.tmp 1), guard := none },
  { dst := some 13, op := SOp.load1 (Operand.tmp 12), guard := none },
  { dst := some 14, op := SOp.lenSl (Operand.tmp 13), guard := none },
  { dst := some 15, op := SOp.ib (BinOp.lss) (Operand.tmp 11) (Operand.tmp 14), guard := none }]
def c45_r6 : List SIns := [
  { dst := some 18, op := SOp.off 0 (Operand.tmp 1), guard := none },
  { dst := some 19, op := SOp.load1 (Operand.tmp 18), guard := none },
  { dst := some 20, op := SOp.mv (Operand.tmp 4), guard := none },
  { dst := some 21, op := SOp.idx 1 (Operand.tmp 19) (Operand.tmp 20), guard := none },
  { dst := some 22, op := SOp.load1 (Operand.tmp 21), guard := none },
  { dst := some 5, op := SOp.mv (Operand.tmp 22), guard := none }]
def c45_r7 : List SIns := [
  { dst := some 23, op := SOp.mv (Operand.tmp 5), guard := none },
  { dst := some 24, op := SOp.lenSl (Operand.tmp 23), guard := none },
  { dst := some 25, op := SOp.ib (BinOp.eql) (Operand.tmp 24) (Operand.const (Value.int (IntKind.i64) 0)), guard := none }]
def c45_r8 : List SIns := [
  { dst := some 2, op := SOp.mv (Operand.const (Value.int (IntKind.i64) 4)), guard := none }]
def c45_r9 : List SIns := [
  { dst := some 6, op := SOp.mv (Operand.const (Value.int (IntKind.i64) 0)), guard := none }]
def c45_r10 : List SIns := [
  { dst := some 26, op := SOp.mv (Operand.tmp 6), guard := none },
  { dst := some 27, op := SOp.mv (Operand.tmp 5), guard := none },
  { dst := some 28, op := SOp.lenSl (Operand.tmp 27), guard := none },
  { dst := some 29, op := SOp.ib (BinOp.lss) (Operand.tmp 26) (Operand.tmp 28), guard := none }]
def c45_r11 : List SIns := [
  { dst := some 32, op := SOp.mv (Operand.tmp 5), guard := none },
  { dst := some 33, op := SOp.mv (Operand.tmp 6), guard := none },
  { dst := some 34, op := SOp.idx 1 (Operand.tmp 32) (Operand.tmp 33), guard := none },
  { dst := some 35, op := SOp.load1 (Operand.tmp 34), guard := none },
  { dst := some 36, op := SOp.mv (Operand.tmp 3), guard := none },
  { dst := some 37, op := SOp.ib (BinOp.sub) (Operand.tmp 36) (Operand.const (Value.int (IntKind.i64) 1)), guard := none },
  { dst := some 38, op := SOp.call 72 [Operand.tmp 35, Operand.const (Value.int (IntKind.i64) 0), Operand.tmp 37], guard := none },
  { dst := some 39, op := SOp.nt (Operand.tmp 38), guard := none }]
def c45_r12 : List SIns := [
  { dst := some 2, op := SOp.mv (Operand.const (Value.int (IntKind.i64) 2)), guard := none }]
def c45_r13 : List SIns := [
  { dst := some 40, op := SOp.mv (Operand.tmp 5), guard := none },
  { dst := some 41, op := SOp.mv (Operand.tmp 6), guard := none },
  { dst := some 42, op := SOp.slc 1 (Operand.tmp 40) none (some (Operand.tmp 41)) none, guard := none },
  { dst := some 43, op := SOp.mv (Operand.tmp 5), guard := none },
  { dst := some 44, op := SOp.mv (Operand.tmp 6), guard := none },
  { dst := some 45, op := SOp.idx 1 (Operand.tmp 43) (Operand.tmp 44), guard := none },
  { dst := some 46, op := SOp.load1 (Operand.tmp 45), guard := none },
  { dst := some 47, op := SOp.call 86 [Operand.tmp 42, Operand.tmp 46], guard := none },
  { dst := some 48, op := SOp.ib (BinOp.geq) (Operand.tmp 47) (Operand.const (Value.int (IntKind.i64) 0)), guard := none },
  { dst := some 49, op := SOp.mv (Operand.tmp 48), guard := none },
  { dst := some 50, op := SOp.loadN 1 (Operand.tmp 1), guard := some (49, false) },
  { dst := some 51, op := SOp.mv (Operand.tmp 4), guard := some (49, false) },
  { dst := some 52, op := SOp.mv (Operand.tmp 5), guard := some (49, false) },
  { dst := some 53, op := SOp.mv (Operand.tmp 6), guard := some (49, false) },
  { dst := some 54, op := SOp.idx 1 (Operand.tmp 52) (Operand.tmp 53), guard := some (49, false) },
  { dst := some 55, op := SOp.load1 (Operand.tmp 54), guard := some (49, false) },
  { dst := some 56, op := SOp.call 87 [Operand.tmp 50, Operand.tmp 51, Operand.tmp 55], guard := some (49, false) },
  { dst := some 57, op := SOp.ib (BinOp.geq) (Operand.tmp 56) (Operand.const (Value.int (IntKind.i64) 0)), guard := some (49, false) },
  { dst := some 58, op := SOp.pick (Operand.tmp 49) (Operand.const (Value.bool true)) (Operand.tmp 57), guard := none }]
def c45_r14 : List SIns := [
  { dst := some 2, op := SOp.mv (Operand.const (Value.int (IntKind.i64) 6)), guard := none }]
def c45_r15 : List SIns := [
  { dst := some 30, op := SOp.mv (Operand.tmp 6), guard := none },
  { dst := some 31, op := SOp.ib (BinOp.add) (Operand.tmp 30) (Operand.const (Value.int (IntKind.i64) 1)), guard := none },
  { dst := some 6, op := SOp.mv (Operand.tmp 31), guard := none }]
def c45_l0 : SCode := (.seq (.seq (.reg c45_r10 [1, 3, 4, 5, 6, 29]) (.cond (Operand.tmp 29) .skip (.exit 2))) (.seq (.block 3 (.seq (.seq (.reg c45_r11 [1, 3, 4, 5, 6, 39]) (.cond (Operand.tmp 39) (.seq (.reg c45_r12 [2]) .ret) .skip)) (.seq (.draw c45_r13 [[], [], [0, 1], [], [], [3, 4], [5, 3, 4], [2, 6, 0, 1, 5, 3, 4], [7, 2, 6, 0, 1, 5, 3, 4], [8, 7, 2, 6, 0, 1, 5, 3, 4], [9, 8, 7, 2, 6, 0, 1, 5, 3, 4], [9, 8, 7, 2, 6, 0, 1, 5, 3, 4], [9, 8, 7, 2, 6, 0, 1, 5, 3, 4], [9, 8, 7, 2, 6, 0, 1, 5, 3, 4], [12, 13, 9, 8, 7, 2, 6, 0, 1, 5, 3, 4], [14, 12, 13, 9, 8, 7, 2, 6, 0, 1, 5, 3, 4], [10, 11, 15, 14, 12, 13, 9, 8, 7, 2, 6, 0, 1, 5, 3, 4], [16, 10, 11, 15, 14, 12, 13, 9, 8, 7, 2, 6, 0, 1, 5, 3, 4], [17, 16, 10, 11, 15, 14, 12, 13, 9, 8, 7, 2, 6, 0, 1, 5, 3, 4]] [1, 3, 4, 5, 6, 58]) (.cond (Operand.tmp 58) (.seq (.reg c45_r14 [2]) .ret) .skip)))) (.reg c45_r15 [1, 3, 4, 5, 6])))
def c45_r16 : List SIns := [
  { dst := some 16, op := SOp.mv (Operand.tmp 4), guard := none },
  { dst := some 17, op := SOp.ib (BinOp.add) (Operand.tmp 16) (Operand.const (Value.int (IntKind.i64) 1)), guard := none },
  { dst := some 4, op := SOp.mv (Operand.tmp 17), guard := none }]
def c45_l1 : SCode := (.seq (.seq (.reg c45_r5 [1, 3, 4, 15]) (.cond (Operand.tmp 15) .skip (.exit 0))) (.seq (.block 1 (.seq (.reg c45_r6 [1, 3, 4, 5]) (.seq (.seq (.reg c45_r7 [1, 3, 4, 5, 25]) (.cond (Operand.tmp 25) (.seq (.reg c45_r8 [2]) .ret) .skip)) (.seq (.reg c45_r9 [1, 3, 4, 5, 6]) (.block 2 (.loop c45_l0)))))) (.reg c45_r16 [1, 3, 4])))
def c45_r17 : List SIns := [
  { dst := some 59, op := SOp.mv (Operand.tmp 3), guard := none },
  { dst := some 60, op := SOp.ib (BinOp.rem) (Operand.tmp 59) (Operand.const (Value.int (IntKind.i64) 2)), guard := none },
  { dst := some 61, op := SOp.ib (BinOp.eql) (Operand.tmp 60) (Operand.const (Value.int (IntKind.i64) 1)), guard := none }]
def c45_r18 : List SIns := [
  { dst := some 2, op := SOp.mv (Operand.const (Value.int (IntKind.i64) 5)), guard := none }]
def c45_r19 : List SIns := [
  { dst := some 2, op := SOp.mv (Operand.const (Value.int (IntKind.i64) 0)), guard := none }]
def c45 : SCode := (.seq (.reg c45_r0 [1]) (.seq (.reg c45_r1 [1, 3]) (.seq (.seq (.reg c45_r2 [1, 3, 10]) (.cond (Operand.tmp 10) (.seq (.reg c45_r3 [2]) .ret) .skip)) (.seq (.seq (.reg c45_r4 [1, 3, 4]) (.block 0 (.loop c45_l1))) (.seq (.seq (.reg c45_r17 [61]) (.cond (Operand.tmp 61) (.seq (.reg c45_r18 [2]) .ret) .skip)) (.seq (.reg c45_r19 [2]) .ret))))))
theorem F45 : Fn Tryd.prog 45 c45 [SRes.tmp 2] 62 := ⟨Tryd.f45, Tryd.f45.body.getD .skip, [[1], [1, 3], [1, 3, 10], [2], [1, 3, 4], [1, 3, 4, 15], [1, 3, 4, 5], [1, 3, 4, 5, 25], [2], [1, 3, 4, 5, 6], [1, 3, 4, 5, 6, 29], [1, 3, 4, 5, 6, 39], [2], [1, 3, 4, 5, 6, 58], [2], [1, 3, 4, 5, 6], [1, 3, 4], [61], [2], [2]], Tryd.func45, by kernel_rfl, by kernel_rfl, by kernel_rfl, by kernel_rfl, by decide⟩

def c64_r0 : List SIns := [
  { dst := some 4, op := SOp.alloc [Value.slice none 0 0], guard := none }]
def c64_r1 : List SIns := [
  { dst := some 8, op := SOp.build [Value.slice none 0 0] [], guard := none },
  { dst := some 5, op := SOp.alloc [Value.slice none 0 0], guard := none },
  { dst := none, op := SOp.store 1 (Operand.tmp 5) (Operand.tmp 8), guard := none }]
def c64_r2 : List SIns := [
  { dst := some 6, op := SOp.mv (Operand.const (Value.int (IntKind.i64) 0)), guard := none }]
def c64_r3 : List SIns := [
  { dst := some 9, op := SOp.mv (Operand.tmp 6), guard := none },
  { dst := some 10, op := SOp.mv (Operand.tmp 1), guard := none },
  { dst := some 11, op := SOp.ib (BinOp.lss) (Operand.tmp 9) (Operand.tmp 10), guard := none }]
def c64_r4 : List SIns := [
  { dst := some 7, op := SOp.mv (Operand.const (Value.int (IntKind.i64) 0)), guard := none }]
def c64_r5 : List SIns := [
  { dst := some 14, op := SOp.mv (Operand.tmp 7), guard := none },
  { dst := some 15, op := SOp.mv (Operand.tmp 0), guard := none },
  { dst := some 16, op := SOp.lenSl (Operand.tmp 15), guard := none },
  { dst := some 17, op := SOp.ib (BinOp.lss) (Operand.tmp 14) (Operand.tmp 16), guard := none }]
def c64_r6 : List SIns := [
  { dst := some 20, op := SOp.mv (Operand.tmp 0), guard := none },
  { dst := some 21, op := SOp.mv (Operand.tmp 7), guard := none },
  { dst := some 22, op := SOp.idx 1 (Operand.tmp 20) (Operand.tmp 21), guard := none },
  { dst := some 23, op := SOp.load1 (Operand.tmp 22), guard := none },
  { dst := some 24, op := SOp.lenSl (Operand.tmp 23), guard := none },
  { dst := some 25, op := SOp.ib (BinOp.gtr) (Operand.tmp 24) (Operand.const (Value.int (IntKind.i64) 0)), guard := none },
  { dst := some 26, op := SOp.mv (Operand.tmp 25), guard := none },
  { dst := some 27, op := SOp.mv (Operand.tmp 0), guard := some (26, true) },
  { dst := some 28, op := SOp.mv (Operand.tmp 7), guard := some (26, true) },
  { dst := some 29, op := SOp.idx 1 (Operand.tmp 27) (Operand.tmp 28), guard := some (26, true) },
  { dst := some 30, op := SOp.load1 (Operand.tmp 29), guard := some (26, true) },
  { dst := some 31, op := SOp.call 96 [Operand.tmp 30], guard := some (26, true) },
  { dst := some 32, op := SOp.idx 1 (Operand.tmp 31) (Operand.const (Value.int (IntKind.i64) 0)), guard := some (26, true) },
  { dst := some 33, op := SOp.load1 (Operand.tmp 32), guard := some (26, true) },
  { dst := some 34, op := SOp.mv (Operand.tmp 6), guard := some (26, true) },
  { dst := some 35, op := SOp.ib (BinOp.eql) (Operand.tmp 33) (Operand.tmp 34), guard := some (26, true) },
  { dst := some 36, op := SOp.pick (Operand.tmp 26) (Operand.tmp 35) (Operand.const (Value.bool false)), guard := none }]
def c64_r7 : List SIns := [
  { dst := some 37, op := SOp.off 0 (Operand.tmp 5), guard := none },
  { dst := some 38, op := SOp.load1 (Operand.tmp 37), guard := none },
  { dst := some 39, op := SOp.mv (Operand.tmp 0), guard := none },
  { dst := some 40, op := SOp.mv (Operand.tmp 7), guard := none },
  { dst := some 41, op := SOp.idx 1 (Operand.tmp 39) (Operand.tmp 40), guard := none },
  { dst := some 42, op := SOp.load1 (Operand.tmp 41), guard := none },
  { dst := some 43, op := SOp.call 96 [Operand.tmp 42], guard := none },
  { dst := some 44, op := SOp.mks 1 1 [Value.slice none 0 0] [(0, 1, Operand.tmp 43)], guard := none },
  { dst := some 45, op := SOp.app 1 24 (Operand.tmp 38) (Operand.tmp 44), guard := none },
  { dst := some 46, op := SOp.off 0 (Operand.tmp 5), guard := none },
  { dst := none, op := SOp.store 1 (Operand.tmp 46) (Operand.tmp 45), guard := none }]
def c64_r8 : List SIns := [
  { dst := some 18, op := SOp.mv (Operand.tmp 7), guard := none },
  { dst := some 19, op := SOp.ib (BinOp.add) (Operand.tmp 18) (Operand.const (Value.int (IntKind.i64) 1)), guard := none },
  { dst := some 7, op := SOp.mv (Operand.tmp 19), guard := none }]
def c64_l0 : SCode := (.seq (.seq (.reg c64_r5 [0, 1, 4, 5, 6, 7, 17]) (.cond (Operand.tmp 17) .skip (.exit 2))) (.seq (.block 3 (.seq (.reg c64_r6 [0, 1, 4, 5, 6, 7, 36]) (.cond (Operand.tmp 36) (.draw c64_r7 [[], [0], [], [], [2, 3], [4, 2, 3], [5, 4, 2, 3], [6, 5, 4, 2, 3], [1, 7, 0, 6, 5, 4, 2, 3], [8, 1, 7, 0, 6, 5, 4, 2, 3], [9, 8, 1, 7, 0, 6, 5, 4, 2, 3]] [0, 1, 4, 5, 6, 7]) .skip))) (.reg c64_r8 [0, 1, 4, 5, 6, 7])))
def c64_r9 : List SIns := [
  { dst := some 12, op := SOp.mv (Operand.tmp 6), guard := none },
  { dst := some 13, op := SOp.ib (BinOp.add) (Operand.tmp 12) (Operand.const (Value.int (IntKind.i64) 1)), guard := none },
  { dst := some 6, op := SOp.mv (Operand.tmp 13), guard := none }]
def c64_l1 : SCode := (.seq (.seq (.reg c64_r3 [0, 1, 4, 5, 6, 11]) (.cond (Operand.tmp 11) .skip (.exit 0))) (.seq (.block 1 (.seq (.reg c64_r4 [0, 1, 4, 5, 6, 7]) (.block 2 (.loop c64_l0)))) (.reg c64_r9 [0, 1, 4, 5, 6])))
def c64_r10 : List SIns := [
  { dst := some 47, op := SOp.loadN 1 (Operand.tmp 5), guard := none },
  { dst := none, op := SOp.store 1 (Operand.tmp 4) (Operand.tmp 47), guard := none }]
def c64 : SCode := (.seq (.reg c64_r0 [0, 1, 4]) (.seq (.reg c64_r1 [0, 1, 4, 5]) (.seq (.seq (.reg c64_r2 [0, 1, 4, 5, 6]) (.block 0 (.loop c64_l1))) (.seq (.reg c64_r10 [4]) .ret))))
theorem F64 : Fn Tryd.prog 64 c64 [SRes.cell 4 (some 1)] 48 := ⟨Tryd.f64, Tryd.f64.body.getD .skip, [[0, 1, 4], [0, 1, 4, 5], [0, 1, 4, 5, 6], [0, 1, 4, 5, 6, 11], [0, 1, 4, 5, 6, 7], [0, 1, 4, 5, 6, 7, 17], [0, 1, 4, 5, 6, 7, 36], [0, 1, 4, 5, 6, 7], [0, 1, 4, 5, 6, 7], [0, 1, 4, 5, 6], [4]], Tryd.func64, by kernel_rfl, by kernel_rfl, by kernel_rfl, by kernel_rfl, by decide⟩

def c65_r0 : List SIns := [
  { dst := some 1, op := SOp.box (Operand.tmp 0), guard := none },
  { dst := some 2, op := SOp.mv (Operand.const (Value.slice none 0 0)), guard := none }]
def c65_r1 : List SIns := [
  { dst := some 3, op := SOp.mv (Operand.const (Value.slice none 0 0)), guard := none }]
def c65_r2 : List SIns := [
  { dst := some 4, op := SOp.mv (Operand.const (Value.slice none 0 0)), guard := none }]
def c65_r3 : List SIns := [
  { dst := some 5, op := SOp.mv (Operand.const (Value.int (IntKind.i64) 0)), guard := none }]
def c65_r4 : List SIns := [
  { dst := some 8, op := SOp.mv (Operand.tmp 5), guard := none },
  { dst := some 9, op := SOp.loadN 1 (Operand.tmp 1), guard := none },
  { dst := some 10, op := SOp.call 66 [Operand.tmp 9], guard := none },
  { dst := some 11, op := SOp.ib (BinOp.lss) (Operand.tmp 8) (Operand.tmp 10), guard := none }]
def c65_r5 : List SIns := [
  { dst := some 14, op := SOp.mv (Operand.tmp 4), guard := none },
  { dst := some 15, op := SOp.mv (Operand.tmp 5), guard := none },
  { dst := some 16, op := SOp.call 86 [Operand.tmp 14, Operand.tmp 15], guard := none },
  { dst := some 17, op := SOp.ib (BinOp.geq) (Operand.tmp 16) (Operand.const (Value.int (IntKind.i64) 0)), guard := none }]
def c65_r6 : List SIns := [
  { dst := some 18, op := SOp.mv (Operand.tmp 5), guard := none },
  { dst := some 19, op := SOp.mks 1 1 [Value.int (IntKind.i64) 0] [(0, 1, Operand.tmp 18)], guard := none },
  { dst := some 6, op := SOp.mv (Operand.tmp 19), guard := none }]
def c65_r7 : List SIns := [
  { dst := some 20, op := SOp.loadN 1 (Operand.tmp 1), guard := none },
  { dst := some 21, op := SOp.mv (Operand.tmp 5), guard := none },
  { dst := some 22, op := SOp.call 98 [Operand.tmp 21], guard := none },
  { dst := some 23, op := SOp.call 97 [Operand.tmp 20, Operand.tmp 22], guard := none },
  { dst := some 7, op := SOp.mv (Operand.tmp 23), guard := none }]
def c65_r8 : List SIns := [
  { dst := some 24, op := SOp.mv (Operand.tmp 7), guard := none },
  { dst := some 25, op := SOp.mv (Operand.tmp 5), guard := none },
  { dst := some 26, op := SOp.ib (BinOp.neq) (Operand.tmp 24) (Operand.tmp 25), guard := none }]
def c65_r9 : List SIns := [
  { dst := some 31, op := SOp.mv (Operand.tmp 6), guard := none },
  { dst := some 32, op := SOp.mv (Operand.tmp 7), guard := none },
  { dst := some 33, op := SOp.mks 1 1 [Value.int (IntKind.i64) 0] [(0, 1, Operand.tmp 32)], guard := none },
  { dst := some 34, op := SOp.app 1 8 (Operand.tmp 31) (Operand.tmp 33), guard := none },
  { dst := some 6, op := SOp.mv (Operand.tmp 34), guard := none }]
def c65_r10 : List SIns := [
  { dst := some 27, op := SOp.loadN 1 (Operand.tmp 1), guard := none },
  { dst := some 28, op := SOp.mv (Operand.tmp 7), guard := none },
  { dst := some 29, op := SOp.call 98 [Operand.tmp 28], guard := none },
  { dst := some 30, op := SOp.call 97 [Operand.tmp 27, Operand.tmp 29], guard := none },
  { dst := some 7, op := SOp.mv (Operand.tmp 30), guard := none }]
def c65_l0 : SCode := (.seq (.seq (.reg c65_r8 [1, 3, 4, 5, 6, 7, 26]) (.cond (Operand.tmp 26) .skip (.exit 2))) (.seq (.block 3 (.reg c65_r9 [1, 3, 4, 5, 6, 7])) (.draw c65_r10 [[], [], [1], [0, 2, 1], [3, 0, 2, 1]] [1, 3, 4, 5, 6, 7])))
def c65_r11 : List SIns := [
  { dst := some 35, op := SOp.mv (Operand.tmp 4), guard := none },
  { dst := some 36, op := SOp.mv (Operand.tmp 6), guard := none },
  { dst := some 37, op := SOp.app 1 8 (Operand.tmp 35) (Operand.tmp 36), guard := none },
  { dst := some 4, op := SOp.mv (Operand.tmp 37), guard := none }]
def c65_r12 : List SIns := [
  { dst := some 38, op := SOp.mv (Operand.tmp 3), guard := none },
  { dst := some 39, op := SOp.mv (Operand.tmp 6), guard := none },
  { dst := some 40, op := SOp.mks 1 1 [Value.slice none 0 0] [(0, 1, Operand.tmp 39)], guard := none },
  { dst := some 41, op := SOp.app 1 24 (Operand.tmp 38) (Operand.tmp 40), guard := none },
  { dst := some 3, op := SOp.mv (Operand.tmp 41), guard := none }]
def c65_r13 : List SIns := [
  { dst := some 12, op := SOp.mv (Operand.tmp 5), guard := none },
  { dst := some 13, op := SOp.ib (BinOp.add) (Operand.tmp 12) (Operand.const (Value.int (IntKind.i64) 1)), guard := none },
  { dst := some 5, op := SOp.mv (Operand.tmp 13), guard := none }]
def c65_l1 : SCode := (.seq (.seq (.reg c65_r4 [1, 3, 4, 5, 11]) (.cond (Operand.tmp 11) .skip (.exit 0))) (.seq (.block 1 (.seq (.seq (.reg c65_r5 [1, 3, 4, 5, 17]) (.cond (Operand.tmp 17) (.exit 1) .skip)) (.seq (.reg c65_r6 [1, 3, 4, 5, 6]) (.seq (.seq (.draw c65_r7 [[], [], [1], [0, 2, 1], [3, 0, 2, 1]] [1, 3, 4, 5, 6, 7]) (.block 2 (.loop c65_l0))) (.seq (.reg c65_r11 [1, 3, 4, 5, 6]) (.reg c65_r12 [1, 3, 4, 5])))))) (.reg c65_r13 [1, 3, 4, 5])))
def c65_r14 : List SIns := [
  { dst := some 42, op := SOp.mv (Operand.tmp 3), guard := none },
  { dst := some 2, op := SOp.mv (Operand.tmp 42), guard := none }]
def c65 : SCode := (.seq (.reg c65_r0 [1]) (.seq (.reg c65_r1 [1, 3]) (.seq (.reg c65_r2 [1, 3, 4]) (.seq (.seq (.reg c65_r3 [1, 3, 4, 5]) (.block 0 (.loop c65_l1))) (.seq (.reg c65_r14 [2]) .ret)))))
theorem F65 : Fn Tryd.prog 65 c65 [SRes.tmp 2] 43 := ⟨Tryd.f65, Tryd.f65.body.getD .skip, [[1], [1, 3], [1, 3, 4], [1, 3, 4, 5], [1, 3, 4, 5, 11], [1, 3, 4, 5, 17], [1, 3, 4, 5, 6], [1, 3, 4, 5, 6, 7], [1, 3, 4, 5, 6, 7, 26], [1, 3, 4, 5, 6, 7], [1, 3, 4, 5, 6, 7], [1, 3, 4, 5, 6], [1, 3, 4, 5], [1, 3, 4, 5], [2]], Tryd.func65, by kernel_rfl, by kernel_rfl, by kernel_rfl, by kernel_rfl, by decide⟩

def c66_r0 : List SIns := [
  { dst := some 1, op := SOp.box (Operand.tmp 0), guard := none },
  { dst := some 2, op := SOp.mv (Operand.const (Value.int (IntKind.i64) 0)), guard := none }]
def c66_r1 : List SIns := [
  { dst := some 3, op := SOp.mv (Operand.const (Value.int (IntKind.i64) 0)), guard := none }]
def c66_r2 : List SIns := [
  { dst := some 4, op := SOp.mv (Operand.const (Value.int (IntKind.i64) 0)), guard := none }]
def c66_r3 : List SIns := [
  { dst := some 5, op := SOp.mv (Operand.tmp 4), guard := none },
  { dst := some 6, op := SOp.off 0 (Operand.tmp 1), guard := none },
  { dst := some 7, op := SOp.load1 (Operand.tmp 6), guard := none },
  { dst := some 8, op := SOp.lenSl (Operand.tmp 7), guard := none },
  { dst := some 9, op := SOp.ib (BinOp.lss) (Operand.tmp 5) (Operand.tmp 8), guard := none }]
def c66_r4 : List SIns := [
  { dst := some 12, op := SOp.mv (Operand.tmp 3), guard := none },
  { dst := some 13, op := SOp.off 0 (Operand.tmp 1), guard := none },
  { dst := some 14, op := SOp.load1 (Operand.tmp 13), guard := none },
  { dst := some 15, op := SOp.mv (Operand.tmp 4), guard := none },
  { dst := some 16, op := SOp.idx 1 (Operand.tmp 14) (Operand.tmp 15), guard := none },
  { dst := some 17, op := SOp.load1 (Operand.tmp 16), guard := none },
  { dst := some 18, op := SOp.lenSl (Operand.tmp 17), guard := none },
  { dst := some 19, op := SOp.ib (BinOp.add) (Operand.tmp 12) (Operand.tmp 18), guard := none },
  { dst := some 3, op := SOp.mv (Operand.tmp 19), guard := none }]
def c66_r5 : List SIns := [
  { dst := some 10, op := SOp.mv (Operand.tmp 4), guard := none },
  { dst := some 11, op := SOp.ib (BinOp.add) (Operand.tmp 10) (Operand.const (Value.int (IntKind.i64) 1)), guard := none },
  { dst := some 4, op := SOp.mv (Operand.tmp 11), guard := none }]
def c66_l0 : SCode := (.seq (.seq (.reg c66_r3 [1, 3, 4, 9]) (.cond (Operand.tmp 9) .skip (.exit 0))) (.seq (.block 1 (.reg c66_r4 [1, 3, 4])) (.reg c66_r5 [1, 3, 4])))
def c66_r6 : List SIns := [
  { dst := some 20, op := SOp.mv (Operand.tmp 3), guard := none },
  { dst := some 2, op := SOp.mv (Operand.tmp 20), guard := none }]
def c66 : SCode := (.seq (.reg c66_r0 [1]) (.seq (.reg c66_r1 [1, 3]) (.seq (.seq (.reg c66_r2 [1, 3, 4]) (.block 0 (.loop c66_l0))) (.seq (.reg c66_r6 [2]) .ret))))
theorem F66 : Fn Tryd.prog 66 c66 [SRes.tmp 2] 21 := ⟨Tryd.f66, Tryd.f66.body.getD .skip, [[1], [1, 3], [1, 3, 4], [1, 3, 4, 9], [1, 3, 4], [1, 3, 4], [2]], Tryd.func66, by kernel_rfl, by kernel_rfl, by kernel_rfl, by kernel_rfl, by decide⟩

def c72_r0 : List SIns := [
  { dst := some 6, op := SOp.mv (Operand.const (Value.bool false)), guard := none }]
def c72_r1 : List SIns := [
  { dst := some 7, op := SOp.mv (Operand.tmp 0), guard := none },
  { dst := some 8, op := SOp.mv (Operand.tmp 1), guard := none },
  { dst := some 9, op := SOp.ib (BinOp.geq) (Operand.tmp 7) (Operand.tmp 8), guard := none },
  { dst := some 10, op := SOp.mv (Operand.tmp 9), guard := none },
  { dst := some 11, op := SOp.mv (Operand.tmp 0), guard := some (10, true) },
  { dst := some 12, op := SOp.mv (Operand.tmp 2), guard := some (10, true) },
  { dst := some 13, op := SOp.ib (BinOp.leq) (Operand.tmp 11) (Operand.tmp 12), guard := some (10, true) },
  { dst := some 14, op := SOp.pick (Operand.tmp 10) (Operand.tmp 13) (Operand.const (Value.bool false)), guard := none },
  { dst := some 6, op := SOp.mv (Operand.tmp 14), guard := none }]
def c72 : SCode := (.seq (.reg c72_r0 [0, 1, 2]) (.seq (.reg c72_r1 [6]) .ret))
theorem F72 : Fn Tryd.prog 72 c72 [SRes.tmp 6] 15 := ⟨Tryd.f72, Tryd.f72.body.getD .skip, [[0, 1, 2], [6]], Tryd.func72, by kernel_rfl, by kernel_rfl, by kernel_rfl, by kernel_rfl, by decide⟩

def c75_r0 : List SIns := [
  { dst := some 2, op := SOp.box (Operand.tmp 0), guard := none },
  { dst := some 4, op := SOp.mv (Operand.const (Value.int (IntKind.i64) 0)), guard := none }]
def c75_r1 : List SIns := [
  { dst := some 5, op := SOp.loadN 1 (Operand.tmp 2), guard := none },
  { dst := some 6, op := SOp.off 0 (Operand.tmp 2), guard := none },
  { dst := some 7, op := SOp.load1 (Operand.tmp 6), guard := none },
  { dst := some 8, op := SOp.lenSl (Operand.tmp 7), guard := none },
  { dst := some 9, op := SOp.mv (Operand.tmp 1), guard := none },
  { dst := some 10, op := SOp.call 87 [Operand.tmp 5, Operand.tmp 8, Operand.tmp 9], guard := none },
  { dst := some 4, op := SOp.mv (Operand.tmp 10), guard := none }]
def c75 : SCode := (.seq (.reg c75_r0 [1, 2]) (.seq (.reg c75_r1 [4]) .ret))
theorem F75 : Fn Tryd.prog 75 c75 [SRes.tmp 4] 11 := ⟨Tryd.f75, Tryd.f75.body.getD .skip, [[1, 2], [4]], Tryd.func75, by kernel_rfl, by kernel_rfl, by kernel_rfl, by kernel_rfl, by decide⟩

def c77_r0 : List SIns := [
  { dst := some 1, op := SOp.box (Operand.tmp 0), guard := none },
  { dst := some 2, op := SOp.mv (Operand.const (Value.bool false)), guard := none }]
def c77_r1 : List SIns := [
  { dst := some 3, op := SOp.mv (Operand.const (Value.int (IntKind.i64) 0)), guard := none }]
def c77_r2 : List SIns := [
  { dst := some 4, op := SOp.mv (Operand.tmp 3), guard := none },
  { dst := some 5, op := SOp.off 0 (Operand.tmp 1), guard := none },
  { dst := some 6, op := SOp.load1 (Operand.tmp 5), guard := none },
  { dst := some 7, op := SOp.lenSl (Operand.tmp 6), guard := none },
  { dst := some 8, op := SOp.ib (BinOp.lss) (Operand.tmp 4) (Operand.tmp 7), guard := none }]
def c77_r3 : List SIns := [
  { dst := some 11, op := SOp.loadN 1 (Operand.tmp 1), guard := none },
  { dst := some 12, op := SOp.mv (Operand.tmp 3), guard := none },
  { dst := some 13, op := SOp.mv (Operand.tmp 3), guard := none },
  { dst := some 14, op := SOp.call 101 [Operand.tmp 11, Operand.tmp 12, Operand.tmp 13], guard := none }]
def c77_r4 : List SIns := [
  { dst := some 2, op := SOp.mv (Operand.const (Value.bool true)), guard := none }]
def c77_r5 : List SIns := [
  { dst := some 9, op := SOp.mv (Operand.tmp 3), guard := none },
  { dst := some 10, op := SOp.ib (BinOp.add) (Operand.tmp 9) (Operand.const (Value.int (IntKind.i64) 1)), guard := none },
  { dst := some 3, op := SOp.mv (Operand.tmp 10), guard := none }]
def c77_l0 : SCode := (.seq (.seq (.reg c77_r2 [1, 3, 8]) (.cond (Operand.tmp 8) .skip (.exit 0))) (.seq (.block 1 (.seq (.reg c77_r3 [1, 3, 14]) (.cond (Operand.tmp 14) (.seq (.reg c77_r4 [2]) .ret) .skip))) (.reg c77_r5 [1, 3])))
def c77_r6 : List SIns := [
  { dst := some 2, op := SOp.mv (Operand.const (Value.bool false)), guard := none }]
def c77 : SCode := (.seq (.reg c77_r0 [1]) (.seq (.seq (.reg c77_r1 [1, 3]) (.block 0 (.loop c77_l0))) (.seq (.reg c77_r6 [2]) .ret)))
theorem F77 : Fn Tryd.prog 77 c77 [SRes.tmp 2] 15 := ⟨Tryd.f77, Tryd.f77.body.getD .skip, [[1], [1, 3], [1, 3, 8], [1, 3, 14], [2], [1, 3], [2]], Tryd.func77, by kernel_rfl, by kernel_rfl, by kernel_rfl, by kernel_rfl, by decide⟩

def c78_r0 : List SIns := [
  { dst := some 1, op := SOp.box (Operand.tmp 0), guard := none },
  { dst := some 2, op := SOp.mv (Operand.const (Value.slice none 0 0)), guard := none },
  { dst := some 3, op := SOp.mv (Operand.const (Value.int (IntKind.i64) 0)), guard := none }]
def c78_r1 : List SIns := [
  { dst := some 4, op := SOp.mv (Operand.const (Value.int (IntKind.i64) 0)), guard := none }]
def c78_r2 : List SIns := [
  { dst := some 10, op := SOp.loadN 1 (Operand.tmp 1), guard := none },
  { dst := some 11, op := SOp.mv (Operand.tmp 4), guard := none },
  { dst := some 12, op := SOp.call 102 [Operand.tmp 10, Operand.const (Value.slice none 0 0), Operand.tmp 11], guard := none },
  { dst := some 9, op := SOp.mv (Operand.tmp 12), guard := none },
  { dst := some 13, op := SOp.ext (Operand.tmp 9) 0, guard := none },
  { dst := some 14, op := SOp.ext (Operand.tmp 9) 1, guard := none },
  { dst := some 5, op := SOp.mv (Operand.tmp 13), guard := none },
  { dst := some 6, op := SOp.mv (Operand.tmp 14), guard := none }]
def c78_r3 : List SIns := [
  { dst := some 15, op := SOp.mv (Operand.tmp 6), guard := none }]
def c78_r4 : List SIns := [
  { dst := some 16, op := SOp.mv (Operand.tmp 5), guard := none },
  { dst := some 17, op := SOp.mv (Operand.tmp 4), guard := none },
  { dst := some 2, op := SOp.mv (Operand.tmp 16), guard := none },
  { dst := some 3, op := SOp.mv (Operand.tmp 17), guard := none }]
def c78_r5 : List SIns := [
  { dst := some 7, op := SOp.mv (Operand.tmp 4), guard := none },
  { dst := some 8, op := SOp.ib (BinOp.add) (Operand.tmp 7) (Operand.const (Value.int (IntKind.i64) 1)), guard := none },
  { dst := some 4, op := SOp.mv (Operand.tmp 8), guard := none }]
def c78_l0 : SCode := (.seq (.block 1 (.seq (.reg c78_r2 [1, 4, 5, 6]) (.seq (.reg c78_r3 [1, 4, 5, 15]) (.cond (Operand.tmp 15) (.seq (.reg c78_r4 [2, 3]) .ret) .skip)))) (.reg c78_r5 [1, 4]))
def c78 : SCode := (.seq (.reg c78_r0 [1]) (.seq (.reg c78_r1 [1, 4]) (.block 0 (.loop c78_l0))))
theorem F78 : Fn Tryd.prog 78 c78 [SRes.tmp 2, SRes.tmp 3] 18 := ⟨Tryd.f78, Tryd.f78.body.getD .skip, [[1], [1, 4], [1, 4, 5, 6], [1, 4, 5, 15], [2, 3], [1, 4]], Tryd.func78, by kernel_rfl, by kernel_rfl, by kernel_rfl, by kernel_rfl, by decide⟩

def c83_r0 : List SIns := [
  { dst := some 3, op := SOp.box (Operand.tmp 0), guard := none },
  { dst := some 6, op := SOp.mv (Operand.const (Value.slice none 0 0)), guard := none },
  { dst := some 7, op := SOp.mv (Operand.const (Value.bool false)), guard := none }]
def c83_r1 : List SIns := [
  { dst := some 11, op := SOp.mv (Operand.tmp 1), guard := none },
  { dst := some 12, op := SOp.lenSl (Operand.tmp 11), guard := none },
  { dst := some 13, op := SOp.mv (Operand.tmp 2), guard := none },
  { dst := some 14, op := SOp.ib (BinOp.eql) (Operand.tmp 12) (Operand.tmp 13), guard := none }]
def c83_r2 : List SIns := [
  { dst := some 15, op := SOp.mv (Operand.tmp 1), guard := none },
  { dst := some 16, op := SOp.loadN 1 (Operand.tmp 3), guard := none },
  { dst := some 17, op := SOp.mv (Operand.tmp 1), guard := none },
  { dst := some 18, op := SOp.idx 1 (Operand.tmp 17) (Operand.const (Value.int (IntKind.i64) 0)), guard := none },
  { dst := some 19, op := SOp.load1 (Operand.tmp 18), guard := none },
  { dst := some 20, op := SOp.mv (Operand.tmp 1), guard := none },
  { dst := some 21, op := SOp.mv (Operand.tmp 2), guard := none },
  { dst := some 22, op := SOp.ib (BinOp.sub) (Operand.tmp 21) (Operand.const (Value.int (IntKind.i64) 1)), guard := none },
  { dst := some 23, op := SOp.idx 1 (Operand.tmp 20) (Operand.tmp 22), guard := none },
  { dst := some 24, op := SOp.load1 (Operand.tmp 23), guard := none },
  { dst := some 25, op := SOp.call 101 [Operand.tmp 16, Operand.tmp 19, Operand.tmp 24], guard := none },
  { dst := some 6, op := SOp.mv (Operand.tmp 15), guard := none },
  { dst := some 7, op := SOp.mv (Operand.tmp 25), guard := none }]
def c83_r3 : List SIns := [
  { dst := some 8, op := SOp.mv (Operand.const (Value.int (IntKind.i64) 0)), guard := none }]
def c83_r4 : List SIns := [
  { dst := some 26, op := SOp.mv (Operand.tmp 8), guard := none },
  { dst := some 27, op := SOp.off 0 (Operand.tmp 3), guard := none },
  { dst := some 28, op := SOp.load1 (Operand.tmp 27), guard := none },
  { dst := some 29, op := SOp.lenSl (Operand.tmp 28), guard := none },
  { dst := some 30, op := SOp.ib (BinOp.lss) (Operand.tmp 26) (Operand.tmp 29), guard := none }]
def c83_r5 : List SIns := [
  { dst := some 33, op := SOp.mv (Operand.tmp 1), guard := none },
  { dst := some 34, op := SOp.mv (Operand.tmp 8), guard := none },
  { dst := some 35, op := SOp.call 86 [Operand.tmp 33, Operand.tmp 34], guard := none },
  { dst := some 36, op := SOp.ib (BinOp.geq) (Operand.tmp 35) (Operand.const (Value.int (IntKind.i64) 0)), guard := none },
  { dst := some 37, op := SOp.mv (Operand.tmp 36), guard := none },
  { dst := some 38, op := SOp.mv (Operand.tmp 1), guard := some (37, false) },
  { dst := some 39, op := SOp.lenSl (Operand.tmp 38), guard := some (37, false) },
  { dst := some 40, op := SOp.ib (BinOp.gtr) (Operand.tmp 39) (Operand.const (Value.int (IntKind.i64) 0)), guard := some (37, false) },
  { dst := some 41, op := SOp.mv (Operand.tmp 40), guard := some (37, false) },
  { dst := some 42, op := SOp.loadN 1 (Operand.tmp 3), guard := some (41, true) },
  { dst := some 43, op := SOp.mv (Operand.tmp 1), guard := some (41, true) },
  { dst := some 44, op := SOp.mv (Operand.tmp 1), guard := some (41, true) },
  { dst := some 45, op := SOp.lenSl (Operand.tmp 44), guard := some (41, true) },
  { dst := some 46, op := SOp.ib (BinOp.sub) (Operand.tmp 45) (Operand.const (Value.int (IntKind.i64) 1)), guard := some (41, true) },
  { dst := some 47, op := SOp.idx 1 (Operand.tmp 43) (Operand.tmp 46), guard := some (41, true) },
  { dst := some 48, op := SOp.load1 (Operand.tmp 47), guard := some (41, true) },
  { dst := some 49, op := SOp.mv (Operand.tmp 8), guard := some (41, true) },
  { dst := some 50, op := SOp.call 101 [Operand.tmp 42, Operand.tmp 48, Operand.tmp 49], guard := some (41, true) },
  { dst := some 51, op := SOp.nt (Operand.tmp 50), guard := some (41, true) },
  { dst := some 52, op := SOp.pick (Operand.tmp 41) (Operand.tmp 51) (Operand.const (Value.bool false)), guard := some (37, false) },
  { dst := some 53, op := SOp.pick (Operand.tmp 37) (Operand.const (Value.bool true)) (Operand.tmp 52), guard := none }]
def c83_r6 : List SIns := [
  { dst := some 55, op := SOp.loadN 1 (Operand.tmp 3), guard := none },
  { dst := some 56, op := SOp.mks0 1, guard := none },
  { dst := some 57, op := SOp.mv (Operand.tmp 1), guard := none },
  { dst := some 58, op := SOp.app 1 8 (Operand.tmp 56) (Operand.tmp 57), guard := none },
  { dst := some 59, op := SOp.mv (Operand.tmp 8), guard := none },
  { dst := some 60, op := SOp.mks 1 1 [Value.int (IntKind.i64) 0] [(0, 1, Operand.tmp 59)], guard := none },
  { dst := some 61, op := SOp.app 1 8 (Operand.tmp 58) (Operand.tmp 60), guard := none },
  { dst := some 62, op := SOp.mv (Operand.tmp 2), guard := none },
  { dst := some 63, op := SOp.call 83 [Operand.tmp 55, Operand.tmp 61, Operand.tmp 62], guard := none },
  { dst := some 54, op := SOp.mv (Operand.tmp 63), guard := none },
  { dst := some 64, op := SOp.ext (Operand.tmp 54) 0, guard := none },
  { dst := some 65, op := SOp.ext (Operand.tmp 54) 1, guard := none },
  { dst := some 9, op := SOp.mv (Operand.tmp 64), guard := none },
  { dst := some 10, op := SOp.mv (Operand.tmp 65), guard := none }]
def c83_r7 : List SIns := [
  { dst := some 66, op := SOp.mv (Operand.tmp 10), guard := none }]
def c83_r8 : List SIns := [
  { dst := some 67, op := SOp.mv (Operand.tmp 9), guard := none },
  { dst := some 6, op := SOp.mv (Operand.tmp 67), guard := none },
  { dst := some 7, op := SOp.mv (Operand.const (Value.bool true)), guard := none }]
def c83_r9 : List SIns := [
  { dst := some 31, op := SOp.mv (Operand.tmp 8), guard := none },
  { dst := some 32, op := SOp.ib (BinOp.add) (Operand.tmp 31) (Operand.const (Value.int (IntKind.i64) 1)), guard := none },
  { dst := some 8, op := SOp.mv (Operand.tmp 32), guard := none }]
def c83_l0 : SCode := (.seq (.seq (.reg c83_r4 [1, 2, 3, 8, 30]) (.cond (Operand.tmp 30) .skip (.exit 0))) (.seq (.block 1 (.seq (.seq (.draw c83_r5 [[], [], [0, 1], [2, 0, 1], [3, 2, 0, 1], [4, 3, 2, 0, 1], [5, 4, 3, 2, 0, 1], [6, 5, 4, 3, 2, 0, 1], [7, 6, 5, 4, 3, 2, 0, 1], [8, 7, 6, 5, 4, 3, 2, 0, 1], [8, 7, 6, 5, 4, 3, 2, 0, 1], [8, 7, 6, 5, 4, 3, 2, 0, 1], [11, 8, 7, 6, 5, 4, 3, 2, 0, 1], [12, 11, 8, 7, 6, 5, 4, 3, 2, 0, 1], [10, 13, 12, 11, 8, 7, 6, 5, 4, 3, 2, 0, 1], [14, 10, 13, 12, 11, 8, 7, 6, 5, 4, 3, 2, 0, 1], [8, 7, 6, 5, 4, 3, 2, 0, 1], [9, 15, 16, 14, 10, 13, 12, 11, 8, 7, 6, 5, 4, 3, 2, 0, 1], [17, 9, 15, 16, 14, 10, 13, 12, 11, 8, 7, 6, 5, 4, 3, 2, 0, 1], [18, 17, 9, 15, 16, 14, 10, 13, 12, 11, 8, 7, 6, 5, 4, 3, 2, 0, 1], [19, 18, 17, 9, 15, 16, 14, 10, 13, 12, 11, 8, 7, 6, 5, 4, 3, 2, 0, 1]] [1, 2, 3, 8, 53]) (.cond (Operand.tmp 53) (.exit 1) .skip)) (.seq (.draw c83_r6 [[], [], [], [1, 2], [], [4], [5, 3, 4, 1, 2], [], [0, 7, 6, 5, 3, 4, 1, 2], [8, 0, 7, 6, 5, 3, 4, 1, 2], [9, 8, 0, 7, 6, 5, 3, 4, 1, 2], [9, 8, 0, 7, 6, 5, 3, 4, 1, 2], [10, 9, 8, 0, 7, 6, 5, 3, 4, 1, 2], [11, 12, 10, 9, 8, 0, 7, 6, 5, 3, 4, 1, 2]] [1, 2, 3, 8, 9, 10]) (.seq (.reg c83_r7 [1, 2, 3, 8, 9, 66]) (.cond (Operand.tmp 66) (.seq (.reg c83_r8 [6, 7]) .ret) .skip))))) (.reg c83_r9 [1, 2, 3, 8])))
def c83_r10 : List SIns := [
  { dst := some 6, op := SOp.mv (Operand.const (Value.slice none 0 0)), guard := none },
  { dst := some 7, op := SOp.mv (Operand.const (Value.bool false)), guard := none }]
def c83 : SCode := (.seq (.reg c83_r0 [1, 2, 3]) (.seq (.seq (.reg c83_r1 [1, 2, 3, 14]) (.cond (Operand.tmp 14) (.seq (.draw c83_r2 [[], [], [], [2], [3, 2], [], [], [6], [5, 7, 6], [8, 5, 7, 6], [1, 4, 9, 3, 2, 8, 5, 7, 6], [10, 0, 1, 4, 9, 3, 2, 8, 5, 7, 6], [11, 10, 0, 1, 4, 9, 3, 2, 8, 5, 7, 6]] [6, 7]) .ret) .skip)) (.seq (.seq (.reg c83_r3 [1, 2, 3, 8]) (.block 0 (.loop c83_l0))) (.seq (.reg c83_r10 [6, 7]) .ret))))
theorem F83 : Fn Tryd.prog 83 c83 [SRes.tmp 6, SRes.tmp 7] 68 := ⟨Tryd.f83, Tryd.f83.body.getD .skip, [[1, 2, 3], [1, 2, 3, 14], [6, 7], [1, 2, 3, 8], [1, 2, 3, 8, 30], [1, 2, 3, 8, 53], [1, 2, 3, 8, 9, 10], [1, 2, 3, 8, 9, 66], [6, 7], [1, 2, 3, 8], [6, 7]], Tryd.func83, by kernel_rfl, by kernel_rfl, by kernel_rfl, by kernel_rfl, by decide⟩

def c86_r0 : List SIns := [
  { dst := some 4, op := SOp.mv (Operand.const (Value.int (IntKind.i64) 0)), guard := none }]
def c86_r1 : List SIns := [
  { dst := some 5, op := SOp.mv (Operand.const (Value.int (IntKind.i64) 0)), guard := none }]
def c86_r2 : List SIns := [
  { dst := some 6, op := SOp.mv (Operand.tmp 5), guard := none },
  { dst := some 7, op := SOp.mv (Operand.tmp 0), guard := none },
  { dst := some 8, op := SOp.lenSl (Operand.tmp 7), guard := none },
  { dst := some 9, op := SOp.ib (BinOp.lss) (Operand.tmp 6) (Operand.tmp 8), guard := none }]
def c86_r3 : List SIns := [
  { dst := some 12, op := SOp.mv (Operand.tmp 0), guard := none },
  { dst := some 13, op := SOp.mv (Operand.tmp 5), guard := none },
  { dst := some 14, op := SOp.idx 1 (Operand.tmp 12) (Operand.tmp 13), guard := none },
  { dst := some 15, op := SOp.load1 (Operand.tmp 14), guard := none },
  { dst := some 16, op := SOp.mv (Operand.tmp 1), guard := none },
  { dst := some 17, op := SOp.ib (BinOp.eql) (Operand.tmp 15) (Operand.tmp 16), guard := none }]
def c86_r4 : List SIns := [
  { dst := some 18, op := SOp.mv (Operand.tmp 5), guard := none },
  { dst := some 4, op := SOp.mv (Operand.tmp 18), guard := none }]
def c86_r5 : List SIns := [
  { dst := some 10, op := SOp.mv (Operand.tmp 5), guard := none },
  { dst := some 11, op := SOp.ib (BinOp.add) (Operand.tmp 10) (Operand.const (Value.int (IntKind.i64) 1)), guard := none },
  { dst := some 5, op := SOp.mv (Operand.tmp 11), guard := none }]
def c86_l0 : SCode := (.seq (.seq (.reg c86_r2 [0, 1, 5, 9]) (.cond (Operand.tmp 9) .skip (.exit 0))) (.seq (.block 1 (.seq (.reg c86_r3 [0, 1, 5, 17]) (.cond (Operand.tmp 17) (.seq (.reg c86_r4 [4]) .ret) .skip))) (.reg c86_r5 [0, 1, 5])))
def c86_r6 : List SIns := [
  { dst := some 4, op := SOp.mv (Operand.const (Value.int (IntKind.i64) (-1))), guard := none }]
def c86 : SCode := (.seq (.reg c86_r0 [0, 1]) (.seq (.seq (.reg c86_r1 [0, 1, 5]) (.block 0 (.loop c86_l0))) (.seq (.reg c86_r6 [4]) .ret)))
theorem F86 : Fn Tryd.prog 86 c86 [SRes.tmp 4] 19 := ⟨Tryd.f86, Tryd.f86.body.getD .skip, [[0, 1], [0, 1, 5], [0, 1, 5, 9], [0, 1, 5, 17], [4], [0, 1, 5], [4]], Tryd.func86, by kernel_rfl, by kernel_rfl, by kernel_rfl, by kernel_rfl, by decide⟩

def c87_r0 : List SIns := [
  { dst := some 3, op := SOp.box (Operand.tmp 0), guard := none },
  { dst := some 6, op := SOp.mv (Operand.const (Value.int (IntKind.i64) 0)), guard := none }]
def c87_r1 : List SIns := [
  { dst := some 7, op := SOp.mv (Operand.const (Value.int (IntKind.i64) 0)), guard := none }]
def c87_r2 : List SIns := [
  { dst := some 8, op := SOp.mv (Operand.tmp 7), guard := none },
  { dst := some 9, op := SOp.mv (Operand.tmp 1), guard := none },
  { dst := some 10, op := SOp.ib (BinOp.lss) (Operand.tmp 8) (Operand.tmp 9), guard := none }]
def c87_r3 : List SIns := [
  { dst := some 13, op := SOp.off 0 (Operand.tmp 3), guard := none },
  { dst := some 14, op := SOp.load1 (Operand.tmp 13), guard := none },
  { dst := some 15, op := SOp.mv (Operand.tmp 7), guard := none },
  { dst := some 16, op := SOp.idx 1 (Operand.tmp 14) (Operand.tmp 15), guard := none },
  { dst := some 17, op := SOp.load1 (Operand.tmp 16), guard := none },
  { dst := some 18, op := SOp.mv (Operand.tmp 2), guard := none },
  { dst := some 19, op := SOp.call 86 [Operand.tmp 17, Operand.tmp 18], guard := none },
  { dst := some 20, op := SOp.ib (BinOp.geq) (Operand.tmp 19) (Operand.const (Value.int (IntKind.i64) 0)), guard := none }]
def c87_r4 : List SIns := [
  { dst := some 21, op := SOp.mv (Operand.tmp 7), guard := none },
  { dst := some 6, op := SOp.mv (Operand.tmp 21), guard := none }]
def c87_r5 : List SIns := [
  { dst := some 11, op := SOp.mv (Operand.tmp 7), guard := none },
  { dst := some 12, op := SOp.ib (BinOp.add) (Operand.tmp 11) (Operand.const (Value.int (IntKind.i64) 1)), guard := none },
  { dst := some 7, op := SOp.mv (Operand.tmp 12), guard := none }]
def c87_l0 : SCode := (.seq (.seq (.reg c87_r2 [1, 2, 3, 7, 10]) (.cond (Operand.tmp 10) .skip (.exit 0))) (.seq (.block 1 (.seq (.reg c87_r3 [1, 2, 3, 7, 20]) (.cond (Operand.tmp 20) (.seq (.reg c87_r4 [6]) .ret) .skip))) (.reg c87_r5 [1, 2, 3, 7])))
def c87_r6 : List SIns := [
  { dst := some 6, op := SOp.mv (Operand.const (Value.int (IntKind.i64) (-1))), guard := none }]
def c87 : SCode := (.seq (.reg c87_r0 [1, 2, 3]) (.seq (.seq (.reg c87_r1 [1, 2, 3, 7]) (.block 0 (.loop c87_l0))) (.seq (.reg c87_r6 [6]) .ret)))
theorem F87 : Fn Tryd.prog 87 c87 [SRes.tmp 6] 22 := ⟨Tryd.f87, Tryd.f87.body.getD .skip, [[1, 2, 3], [1, 2, 3, 7], [1, 2, 3, 7, 10], [1, 2, 3, 7, 20], [6], [1, 2, 3, 7], [6]], Tryd.func87, by kernel_rfl, by kernel_rfl, by kernel_rfl, by kernel_rfl, by decide⟩

def c96_r0 : List SIns := [
  { dst := some 2, op := SOp.mv (Operand.const (Value.slice none 0 0)), guard := none }]
def c96_r1 : List SIns := [
  { dst := some 3, op := SOp.mv (Operand.const (Value.int (IntKind.i64) 0)), guard := none }]
def c96_r2 : List SIns := [
  { dst := some 4, op := SOp.mv (Operand.const (Value.int (IntKind.i64) 0)), guard := none }]
def c96_r3 : List SIns := [
  { dst := some 5, op := SOp.mv (Operand.tmp 4), guard := none },
  { dst := some 6, op := SOp.mv (Operand.tmp 0), guard := none },
  { dst := some 7, op := SOp.lenSl (Operand.tmp 6), guard := none },
  { dst := some 8, op := SOp.ib (BinOp.lss) (Operand.tmp 5) (Operand.tmp 7), guard := none }]
def c96_r4 : List SIns := [
  { dst := some 11, op := SOp.mv (Operand.tmp 0), guard := none },
  { dst := some 12, op := SOp.mv (Operand.tmp 4), guard := none },
  { dst := some 13, op := SOp.idx 1 (Operand.tmp 11) (Operand.tmp 12), guard := none },
  { dst := some 14, op := SOp.load1 (Operand.tmp 13), guard := none },
  { dst := some 15, op := SOp.mv (Operand.tmp 0), guard := none },
  { dst := some 16, op := SOp.mv (Operand.tmp 3), guard := none },
  { dst := some 17, op := SOp.idx 1 (Operand.tmp 15) (Operand.tmp 16), guard := none },
  { dst := some 18, op := SOp.load1 (Operand.tmp 17), guard := none },
  { dst := some 19, op := SOp.ib (BinOp.lss) (Operand.tmp 14) (Operand.tmp 18), guard := none }]
def c96_r5 : List SIns := [
  { dst := some 20, op := SOp.mv (Operand.tmp 4), guard := none },
  { dst := some 3, op := SOp.mv (Operand.tmp 20), guard := none }]
def c96_r6 : List SIns := [
  { dst := some 9, op := SOp.mv (Operand.tmp 4), guard := none },
  { dst := some 10, op := SOp.ib (BinOp.add) (Operand.tmp 9) (Operand.const (Value.int (IntKind.i64) 1)), guard := none },
  { dst := some 4, op := SOp.mv (Operand.tmp 10), guard := none }]
def c96_l0 : SCode := (.seq (.seq (.reg c96_r3 [0, 3, 4, 8]) (.cond (Operand.tmp 8) .skip (.exit 0))) (.seq (.block 1 (.seq (.draw c96_r4 [[], [], [0, 1], [2, 0, 1], [], [], [4, 5], [6, 4, 5], [3, 7, 2, 0, 1, 6, 4, 5]] [0, 3, 4, 19]) (.cond (Operand.tmp 19) (.reg c96_r5 [0, 3, 4]) .skip))) (.reg c96_r6 [0, 3, 4])))
def c96_r7 : List SIns := [
  { dst := some 21, op := SOp.mks0 1, guard := none },
  { dst := some 22, op := SOp.mv (Operand.tmp 0), guard := none },
  { dst := some 23, op := SOp.mv (Operand.tmp 3), guard := none },
  { dst := some 24, op := SOp.slc 1 (Operand.tmp 22) (some (Operand.tmp 23)) none none, guard := none },
  { dst := some 25, op := SOp.app 1 8 (Operand.tmp 21) (Operand.tmp 24), guard := none },
  { dst := some 26, op := SOp.mv (Operand.tmp 0), guard := none },
  { dst := some 27, op := SOp.mv (Operand.tmp 3), guard := none },
  { dst := some 28, op := SOp.slc 1 (Operand.tmp 26) none (some (Operand.tmp 27)) none, guard := none },
  { dst := some 29, op := SOp.app 1 8 (Operand.tmp 25) (Operand.tmp 28), guard := none },
  { dst := some 2, op := SOp.mv (Operand.tmp 29), guard := none }]
def c96 : SCode := (.seq (.reg c96_r0 [0]) (.seq (.reg c96_r1 [0, 3]) (.seq (.seq (.reg c96_r2 [0, 3, 4]) (.block 0 (.loop c96_l0))) (.seq (.draw c96_r7 [[], [], [], [1, 2], [0, 3, 1, 2], [], [], [5, 6], [7, 4, 5, 6, 0, 3, 1, 2], [8, 7, 4, 5, 6, 0, 3, 1, 2]] [2]) .ret))))
theorem F96 : Fn Tryd.prog 96 c96 [SRes.tmp 2] 30 := ⟨Tryd.f96, Tryd.f96.body.getD .skip, [[0], [0, 3], [0, 3, 4], [0, 3, 4, 8], [0, 3, 4, 19], [0, 3, 4], [0, 3, 4], [2]], Tryd.func96, by kernel_rfl, by kernel_rfl, by kernel_rfl, by kernel_rfl, by decide⟩

def c97_r0 : List SIns := [
  { dst := some 2, op := SOp.box (Operand.tmp 0), guard := none },
  { dst := some 4, op := SOp.mv (Operand.const (Value.int (IntKind.i64) 0)), guard := none }]
def c97_r1 : List SIns := [
  { dst := some 6, op := SOp.off 0 (Operand.tmp 2), guard := none },
  { dst := some 7, op := SOp.load1 (Operand.tmp 6), guard := none },
  { dst := some 8, op := SOp.loadN 1 (Operand.tmp 2), guard := none },
  { dst := some 9, op := SOp.mv (Operand.tmp 1), guard := none },
  { dst := some 10, op := SOp.call 75 [Operand.tmp 8, Operand.tmp 9], guard := none },
  { dst := some 11, op := SOp.idx 1 (Operand.tmp 7) (Operand.tmp 10), guard := none },
  { dst := some 12, op := SOp.load1 (Operand.tmp 11), guard := none },
  { dst := some 5, op := SOp.mv (Operand.tmp 12), guard := none }]
def c97_r2 : List SIns := [
  { dst := some 13, op := SOp.mv (Operand.tmp 5), guard := none },
  { dst := some 14, op := SOp.mv (Operand.tmp 5), guard := none },
  { dst := some 15, op := SOp.mv (Operand.tmp 1), guard := none },
  { dst := some 16, op := SOp.call 86 [Operand.tmp 14, Operand.tmp 15], guard := none },
  { dst := some 17, op := SOp.ib (BinOp.add) (Operand.tmp 16) (Operand.const (Value.int (IntKind.i64) 1)), guard := none },
  { dst := some 18, op := SOp.mv (Operand.tmp 5), guard := none },
  { dst := some 19, op := SOp.lenSl (Operand.tmp 18), guard := none },
  { dst := some 20, op := SOp.ib (BinOp.rem) (Operand.tmp 17) (Operand.tmp 19), guard := none },
  { dst := some 21, op := SOp.idx 1 (Operand.tmp 13) (Operand.tmp 20), guard := none },
  { dst := some 22, op := SOp.load1 (Operand.tmp 21), guard := none },
  { dst := some 4, op := SOp.mv (Operand.tmp 22), guard := none }]
def c97 : SCode := (.seq (.reg c97_r0 [1, 2]) (.seq (.draw c97_r1 [[], [0], [], [], [2, 3], [1, 4, 0, 2, 3], [5, 1, 4, 0, 2, 3], [6, 5, 1, 4, 0, 2, 3]] [1, 5]) (.seq (.reg c97_r2 [4]) .ret)))
theorem F97 : Fn Tryd.prog 97 c97 [SRes.tmp 4] 23 := ⟨Tryd.f97, Tryd.f97.body.getD .skip, [[1, 2], [1, 5], [4]], Tryd.func97, by kernel_rfl, by kernel_rfl, by kernel_rfl, by kernel_rfl, by decide⟩

def c98_r0 : List SIns := [
  { dst := some 2, op := SOp.mv (Operand.const (Value.int (IntKind.i64) 0)), guard := none }]
def c98_r1 : List SIns := [
  { dst := some 3, op := SOp.mv (Operand.tmp 0), guard := none },
  { dst := some 4, op := SOp.ib (BinOp.rem) (Operand.tmp 3) (Operand.const (Value.int (IntKind.i64) 2)), guard := none },
  { dst := some 5, op := SOp.ib (BinOp.eql) (Operand.tmp 4) (Operand.const (Value.int (IntKind.i64) 0)), guard := none }]
def c98_r2 : List SIns := [
  { dst := some 6, op := SOp.mv (Operand.tmp 0), guard := none },
  { dst := some 7, op := SOp.ib (BinOp.add) (Operand.tmp 6) (Operand.const (Value.int (IntKind.i64) 1)), guard := none },
  { dst := some 2, op := SOp.mv (Operand.tmp 7), guard := none }]
def c98_r3 : List SIns := [
  { dst := some 8, op := SOp.mv (Operand.tmp 0), guard := none },
  { dst := some 9, op := SOp.ib (BinOp.sub) (Operand.tmp 8) (Operand.const (Value.int (IntKind.i64) 1)), guard := none },
  { dst := some 2, op := SOp.mv (Operand.tmp 9), guard := none }]
def c98 : SCode := (.seq (.reg c98_r0 [0]) (.seq (.seq (.reg c98_r1 [0, 5]) (.cond (Operand.tmp 5) (.seq (.reg c98_r2 [2]) .ret) .skip)) (.seq (.reg c98_r3 [2]) .ret)))
theorem F98 : Fn Tryd.prog 98 c98 [SRes.tmp 2] 10 := ⟨Tryd.f98, Tryd.f98.body.getD .skip, [[0], [0, 5], [2], [2]], Tryd.func98, by kernel_rfl, by kernel_rfl, by kernel_rfl, by kernel_rfl, by decide⟩

def c101_r0 : List SIns := [
  { dst := some 3, op := SOp.box (Operand.tmp 0), guard := none },
  { dst := some 6, op := SOp.mv (Operand.const (Value.bool false)), guard := none }]
def c101_r1 : List SIns := [
  { dst := some 7, op := SOp.mv (Operand.const (Value.int (IntKind.i64) 0)), guard := none }]
def c101_r2 : List SIns := [
  { dst := some 8, op := SOp.mv (Operand.tmp 7), guard := none },
  { dst := some 9, op := SOp.off 0 (Operand.tmp 3), guard := none },
  { dst := some 10, op := SOp.load1 (Operand.tmp 9), guard := none },
  { dst := some 11, op := SOp.mv (Operand.tmp 1), guard := none },
  { dst := some 12, op := SOp.idx 1 (Operand.tmp 10) (Operand.tmp 11), guard := none },
  { dst := some 13, op := SOp.load1 (Operand.tmp 12), guard := none },
  { dst := some 14, op := SOp.lenSl (Operand.tmp 13), guard := none },
  { dst := some 15, op := SOp.ib (BinOp.lss) (Operand.tmp 8) (Operand.tmp 14), guard := none }]
def c101_r3 : List SIns := [
  { dst := some 18, op := SOp.loadN 1 (Operand.tmp 3), guard := none },
  { dst := some 19, op := SOp.off 0 (Operand.tmp 3), guard := none },
  { dst := some 20, op := SOp.load1 (Operand.tmp 19), guard := none },
  { dst := some 21, op := SOp.mv (Operand.tmp 1), guard := none },
  { dst := some 22, op := SOp.idx 1 (Operand.tmp 20) (Operand.tmp 21), guard := none },
  { dst := some 23, op := SOp.load1 (Operand.tmp 22), guard := none },
  { dst := some 24, op := SOp.mv (Operand.tmp 7), guard := none },
  { dst := some 25, op := SOp.idx 1 (Operand.tmp 23) (Operand.tmp 24), guard := none },
  { dst := some 26, op := SOp.load1 (Operand.tmp 25), guard := none },
  { dst := some 27, op := SOp.call 98 [Operand.tmp 26], guard := none },
  { dst := some 28, op := SOp.call 75 [Operand.tmp 18, Operand.tmp 27], guard := none },
  { dst := some 29, op := SOp.mv (Operand.tmp 2), guard := none },
  { dst := some 30, op := SOp.ib (BinOp.eql) (Operand.tmp 28) (Operand.tmp 29), guard := none }]
def c101_r4 : List SIns := [
  { dst := some 6, op := SOp.mv (Operand.const (Value.bool true)), guard := none }]
def c101_r5 : List SIns := [
  { dst := some 16, op := SOp.mv (Operand.tmp 7), guard := none },
  { dst := some 17, op := SOp.ib (BinOp.add) (Operand.tmp 16) (Operand.const (Value.int (IntKind.i64) 1)), guard := none },
  { dst := some 7, op := SOp.mv (Operand.tmp 17), guard := none }]
def c101_l0 : SCode := (.seq (.seq (.reg c101_r2 [1, 2, 3, 7, 15]) (.cond (Operand.tmp 15) .skip (.exit 0))) (.seq (.block 1 (.seq (.draw c101_r3 [[], [], [1], [], [2, 3, 1], [4, 2, 3, 1], [], [5, 6, 4, 2, 3, 1], [7, 5, 6, 4, 2, 3, 1], [8, 7, 5, 6, 4, 2, 3, 1], [0, 9, 8, 7, 5, 6, 4, 2, 3, 1], [], [10, 11, 0, 9, 8, 7, 5, 6, 4, 2, 3, 1]] [1, 2, 3, 7, 30]) (.cond (Operand.tmp 30) (.seq (.reg c101_r4 [6]) .ret) .skip))) (.reg c101_r5 [1, 2, 3, 7])))
def c101_r6 : List SIns := [
  { dst := some 6, op := SOp.mv (Operand.const (Value.bool false)), guard := none }]
def c101 : SCode := (.seq (.reg c101_r0 [1, 2, 3]) (.seq (.seq (.reg c101_r1 [1, 2, 3, 7]) (.block 0 (.loop c101_l0))) (.seq (.reg c101_r6 [6]) .ret)))
theorem F101 : Fn Tryd.prog 101 c101 [SRes.tmp 6] 31 := ⟨Tryd.f101, Tryd.f101.body.getD .skip, [[1, 2, 3], [1, 2, 3, 7], [1, 2, 3, 7, 15], [1, 2, 3, 7, 30], [6], [1, 2, 3, 7], [6]], Tryd.func101, by kernel_rfl, by kernel_rfl, by kernel_rfl, by kernel_rfl, by decide⟩

def c102_r0 : List SIns := [
  { dst := some 3, op := SOp.box (Operand.tmp 0), guard := none },
  { dst := some 6, op := SOp.mv (Operand.const (Value.slice none 0 0)), guard := none },
  { dst := some 7, op := SOp.mv (Operand.const (Value.bool false)), guard := none }]
def c102_r1 : List SIns := [
  { dst := some 14, op := SOp.mv (Operand.tmp 1), guard := none },
  { dst := some 15, op := SOp.lenSl (Operand.tmp 14), guard := none },
  { dst := some 8, op := SOp.mv (Operand.tmp 15), guard := none }]
def c102_r2 : List SIns := [
  { dst := some 16, op := SOp.mv (Operand.tmp 8), guard := none },
  { dst := some 17, op := SOp.off 0 (Operand.tmp 3), guard := none },
  { dst := some 18, op := SOp.load1 (Operand.tmp 17), guard := none },
  { dst := some 19, op := SOp.lenSl (Operand.tmp 18), guard := none },
  { dst := some 20, op := SOp.ib (BinOp.eql) (Operand.tmp 16) (Operand.tmp 19), guard := none }]
def c102_r3 : List SIns := [
  { dst := some 21, op := SOp.mv (Operand.tmp 1), guard := none },
  { dst := some 6, op := SOp.mv (Operand.tmp 21), guard := none },
  { dst := some 7, op := SOp.mv (Operand.const (Value.bool true)), guard := none }]
def c102_r4 : List SIns := [
  { dst := some 9, op := SOp.mv (Operand.const (Value.int (IntKind.i64) 0)), guard := none }]
def c102_r5 : List SIns := [
  { dst := some 22, op := SOp.mv (Operand.tmp 9), guard := none },
  { dst := some 23, op := SOp.mv (Operand.tmp 2), guard := none },
  { dst := some 24, op := SOp.ib (BinOp.lss) (Operand.tmp 22) (Operand.tmp 23), guard := none }]
def c102_r6 : List SIns := [
  { dst := some 10, op := SOp.mv (Operand.const (Value.bool true)), guard := none }]
def c102_r7 : List SIns := [
  { dst := some 11, op := SOp.mv (Operand.const (Value.int (IntKind.i64) 0)), guard := none }]
def c102_r8 : List SIns := [
  { dst := some 27, op := SOp.mv (Operand.tmp 11), guard := none },
  { dst := some 28, op := SOp.mv (Operand.tmp 8), guard := none },
  { dst := some 29, op := SOp.ib (BinOp.lss) (Operand.tmp 27) (Operand.tmp 28), guard := none }]
def c102_r9 : List SIns := [
  { dst := some 32, op := SOp.mv (Operand.tmp 10), guard := none },
  { dst := some 33, op := SOp.mv (Operand.tmp 32), guard := none },
  { dst := some 34, op := SOp.mv (Operand.tmp 1), guard := some (33, true) },
  { dst := some 35, op := SOp.mv (Operand.tmp 11), guard := some (33, true) },
  { dst := some 36, op := SOp.idx 1 (Operand.tmp 34) (Operand.tmp 35), guard := some (33, true) },
  { dst := some 37, op := SOp.load1 (Operand.tmp 36), guard := some (33, true) },
  { dst := some 38, op := SOp.mv (Operand.tmp 9), guard := some (33, true) },
  { dst := some 39, op := SOp.ib (BinOp.eql) (Operand.tmp 37) (Operand.tmp 38), guard := some (33, true) },
  { dst := some 40, op := SOp.mv (Operand.tmp 39), guard := some (33, true) },
  { dst := some 41, op := SOp.loadN 1 (Operand.tmp 3), guard := some (40, true) },
  { dst := some 42, op := SOp.mv (Operand.tmp 8), guard := some (40, true) },
  { dst := some 43, op := SOp.mv (Operand.tmp 11), guard := some (40, true) },
  { dst := some 44, op := SOp.call 101 [Operand.tmp 41, Operand.tmp 42, Operand.tmp 43], guard := some (40, true) },
  { dst := some 45, op := SOp.pick (Operand.tmp 40) (Operand.tmp 44) (Operand.const (Value.bool false)), guard := some (33, true) },
  { dst := some 46, op := SOp.nt (Operand.tmp 45), guard := some (33, true) },
  { dst := some 47, op := SOp.pick (Operand.tmp 33) (Operand.tmp 46) (Operand.const (Value.bool false)), guard := none },
  { dst := some 10, op := SOp.mv (Operand.tmp 47), guard := none }]
def c102_r10 : List SIns := [
  { dst := some 30, op := SOp.mv (Operand.tmp 11), guard := none },
  { dst := some 31, op := SOp.ib (BinOp.add) (Operand.tmp 30) (Operand.const (Value.int (IntKind.i64) 1)), guard := none },
  { dst := some 11, op := SOp.mv (Operand.tmp 31), guard := none }]
def c102_l0 : SCode := (.seq (.seq (.reg c102_r8 [1, 2, 3, 8, 9, 10, 11, 29]) (.cond (Operand.tmp 29) .skip (.exit 2))) (.seq (.block 3 (.reg c102_r9 [1, 2, 3, 8, 9, 10, 11])) (.reg c102_r10 [1, 2, 3, 8, 9, 10, 11])))
def c102_r11 : List SIns := [
  { dst := some 48, op := SOp.mv (Operand.tmp 10), guard := none },
  { dst := some 49, op := SOp.nt (Operand.tmp 48), guard := none }]
def c102_r12 : List SIns := [
  { dst := some 51, op := SOp.loadN 1 (Operand.tmp 3), guard := none },
  { dst := some 52, op := SOp.mks0 1, guard := none },
  { dst := some 53, op := SOp.mv (Operand.tmp 1), guard := none },
  { dst := some 54, op := SOp.app 1 8 (Operand.tmp 52) (Operand.tmp 53), guard := none },
  { dst := some 55, op := SOp.mv (Operand.tmp 9), guard := none },
  { dst := some 56, op := SOp.mks 1 1 [Value.int (IntKind.i64) 0] [(0, 1, Operand.tmp 55)], guard := none },
  { dst := some 57, op := SOp.app 1 8 (Operand.tmp 54) (Operand.tmp 56), guard := none },
  { dst := some 58, op := SOp.mv (Operand.tmp 2), guard := none },
  { dst := some 59, op := SOp.call 102 [Operand.tmp 51, Operand.tmp 57, Operand.tmp 58], guard := none },
  { dst := some 50, op := SOp.mv (Operand.tmp 59), guard := none },
  { dst := some 60, op := SOp.ext (Operand.tmp 50) 0, guard := none },
  { dst := some 61, op := SOp.ext (Operand.tmp 50) 1, guard := none },
  { dst := some 12, op := SOp.mv (Operand.tmp 60), guard := none },
  { dst := some 13, op := SOp.mv (Operand.tmp 61), guard := none }]
def c102_r13 : List SIns := [
  { dst := some 62, op := SOp.mv (Operand.tmp 13), guard := none }]
def c102_r14 : List SIns := [
  { dst := some 63, op := SOp.mv (Operand.tmp 12), guard := none },
  { dst := some 6, op := SOp.mv (Operand.tmp 63), guard := none },
  { dst := some 7, op := SOp.mv (Operand.const (Value.bool true)), guard := none }]
def c102_r15 : List SIns := [
  { dst := some 25, op := SOp.mv (Operand.tmp 9), guard := none },
  { dst := some 26, op := SOp.ib (BinOp.add) (Operand.tmp 25) (Operand.const (Value.int (IntKind.i64) 1)), guard := none },
  { dst := some 9, op := SOp.mv (Operand.tmp 26), guard := none }]
def c102_l1 : SCode := (.seq (.seq (.reg c102_r5 [1, 2, 3, 8, 9, 24]) (.cond (Operand.tmp 24) .skip (.exit 0))) (.seq (.block 1 (.seq (.reg c102_r6 [1, 2, 3, 8, 9, 10]) (.seq (.seq (.reg c102_r7 [1, 2, 3, 8, 9, 10, 11]) (.block 2 (.loop c102_l0))) (.seq (.seq (.reg c102_r11 [1, 2, 3, 8, 9, 49]) (.cond (Operand.tmp 49) (.exit 1) .skip)) (.seq (.draw c102_r12 [[], [], [], [1, 2], [], [4], [5, 3, 4, 1, 2], [], [0, 7, 6, 5, 3, 4, 1, 2], [8, 0, 7, 6, 5, 3, 4, 1, 2], [9, 8, 0, 7, 6, 5, 3, 4, 1, 2], [9, 8, 0, 7, 6, 5, 3, 4, 1, 2], [10, 9, 8, 0, 7, 6, 5, 3, 4, 1, 2], [11, 12, 10, 9, 8, 0, 7, 6, 5, 3, 4, 1, 2]] [1, 2, 3, 8, 9, 12, 13]) (.seq (.reg c102_r13 [1, 2, 3, 8, 9, 12, 62]) (.cond (Operand.tmp 62) (.seq (.reg c102_r14 [6, 7]) .ret) .skip))))))) (.reg c102_r15 [1, 2, 3, 8, 9])))
def c102_r16 : List SIns := [
  { dst := some 6, op := SOp.mv (Operand.const (Value.slice none 0 0)), guard := none },
  { dst := some 7, op := SOp.mv (Operand.const (Value.bool false)), guard := none }]
def c102 : SCode := (.seq (.reg c102_r0 [1, 2, 3]) (.seq (.reg c102_r1 [1, 2, 3, 8]) (.seq (.seq (.reg c102_r2 [1, 2, 3, 8, 20]) (.cond (Operand.tmp 20) (.seq (.reg c102_r3 [6, 7]) .ret) .skip)) (.seq (.seq (.reg c102_r4 [1, 2, 3, 8, 9]) (.block 0 (.loop c102_l1))) (.seq (.reg c102_r16 [6, 7]) .ret)))))
theorem F102 : Fn Tryd.prog 102 c102 [SRes.tmp 6, SRes.tmp 7] 64 := ⟨Tryd.f102, Tryd.f102.body.getD .skip, [[1, 2, 3], [1, 2, 3, 8], [1, 2, 3, 8, 20], [6, 7], [1, 2, 3, 8, 9], [1, 2, 3, 8, 9, 24], [1, 2, 3, 8, 9, 10], [1, 2, 3, 8, 9, 10, 11], [1, 2, 3, 8, 9, 10, 11, 29], [1, 2, 3, 8, 9, 10, 11], [1, 2, 3, 8, 9, 10, 11], [1, 2, 3, 8, 9, 49], [1, 2, 3, 8, 9, 12, 13], [1, 2, 3, 8, 9, 12, 62], [6, 7], [1, 2, 3, 8, 9], [6, 7]], Tryd.func102, by kernel_rfl, by kernel_rfl, by kernel_rfl, by kernel_rfl, by decide⟩

end Go.Sx.Ch
