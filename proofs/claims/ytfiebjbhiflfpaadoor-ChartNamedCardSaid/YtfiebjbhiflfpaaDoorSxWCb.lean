/- The codes of the functions, written by a program (Gen.lean), and that they are the functions'. No conditions. -/
import Derived.Test.YtfiebjbhiflfpaaDoorSxN
import Derived.KernelRfl
import Derived.Test.YtfiebjbhiflfpaaDoorProg
set_option linter.unusedVariables false
set_option maxRecDepth 100000
namespace Go.Sx.Ch
open Go Go.Sx Go.Proofs

def c3_r0 : List SIns := [
  { dst := some 2, op := SOp.box (Operand.tmp 0), guard := none },
  { dst := some 4, op := SOp.mv (Operand.const (Value.bool false)), guard := none }]
def c3_r1 : List SIns := [
  { dst := some 18, op := SOp.loadN 1 (Operand.tmp 2), guard := none },
  { dst := some 19, op := SOp.call 15 [Operand.tmp 18], guard := none }]
def c3_r2 : List SIns := [
  { dst := some 20, op := SOp.call 16 [], guard := none },
  { dst := some 4, op := SOp.mv (Operand.tmp 20), guard := none }]
def c3_r3 : List SIns := [
  { dst := some 21, op := SOp.loadN 1 (Operand.tmp 2), guard := none },
  { dst := some 5, op := SOp.alloc [Value.slice none 0 0], guard := none },
  { dst := none, op := SOp.store 1 (Operand.tmp 5) (Operand.tmp 21), guard := none }]
def c3_r4 : List SIns := [
  { dst := some 23, op := SOp.loadN 1 (Operand.tmp 2), guard := none },
  { dst := some 24, op := SOp.call 17 [Operand.tmp 23], guard := none },
  { dst := some 22, op := SOp.mv (Operand.tmp 24), guard := none },
  { dst := some 25, op := SOp.ext (Operand.tmp 22) 0, guard := none },
  { dst := some 26, op := SOp.ext (Operand.tmp 22) 1, guard := none },
  { dst := some 6, op := SOp.alloc [Value.slice none 0 0], guard := none },
  { dst := none, op := SOp.store 1 (Operand.tmp 6) (Operand.tmp 25), guard := none },
  { dst := some 7, op := SOp.mv (Operand.tmp 26), guard := none }]
def c3_r5 : List SIns := [
  { dst := some 28, op := SOp.loadN 1 (Operand.tmp 5), guard := none },
  { dst := some 29, op := SOp.call 18 [Operand.tmp 28], guard := none },
  { dst := some 27, op := SOp.mv (Operand.tmp 29), guard := none },
  { dst := some 30, op := SOp.ext (Operand.tmp 27) 0, guard := none },
  { dst := some 31, op := SOp.ext (Operand.tmp 27) 1, guard := none },
  { dst := some 8, op := SOp.alloc [Value.slice none 0 0], guard := none },
  { dst := none, op := SOp.store 1 (Operand.tmp 8) (Operand.tmp 30), guard := none },
  { dst := some 9, op := SOp.mv (Operand.tmp 31), guard := none }]
def c3_r6 : List SIns := [
  { dst := some 33, op := SOp.loadN 1 (Operand.tmp 2), guard := none },
  { dst := some 34, op := SOp.call 19 [Operand.tmp 33], guard := none },
  { dst := some 32, op := SOp.mv (Operand.tmp 34), guard := none },
  { dst := some 35, op := SOp.ext (Operand.tmp 32) 0, guard := none },
  { dst := some 36, op := SOp.ext (Operand.tmp 32) 1, guard := none },
  { dst := some 10, op := SOp.alloc [Value.slice none 0 0], guard := none },
  { dst := none, op := SOp.store 1 (Operand.tmp 10) (Operand.tmp 35), guard := none },
  { dst := some 11, op := SOp.mv (Operand.tmp 36), guard := none }]
def c3_r7 : List SIns := [
  { dst := some 38, op := SOp.loadN 1 (Operand.tmp 5), guard := none },
  { dst := some 39, op := SOp.call 20 [Operand.tmp 38], guard := none },
  { dst := some 37, op := SOp.mv (Operand.tmp 39), guard := none },
  { dst := some 40, op := SOp.ext (Operand.tmp 37) 0, guard := none },
  { dst := some 41, op := SOp.ext (Operand.tmp 37) 1, guard := none },
  { dst := some 12, op := SOp.alloc [Value.slice none 0 0], guard := none },
  { dst := none, op := SOp.store 1 (Operand.tmp 12) (Operand.tmp 40), guard := none },
  { dst := some 13, op := SOp.mv (Operand.tmp 41), guard := none }]
def c3_r8 : List SIns := [
  { dst := some 43, op := SOp.loadN 1 (Operand.tmp 2), guard := none },
  { dst := some 44, op := SOp.mv (Operand.tmp 1), guard := none },
  { dst := some 45, op := SOp.call 21 [Operand.tmp 43, Operand.tmp 44], guard := none },
  { dst := some 42, op := SOp.mv (Operand.tmp 45), guard := none },
  { dst := some 46, op := SOp.ext (Operand.tmp 42) 0, guard := none },
  { dst := some 47, op := SOp.ext (Operand.tmp 42) 1, guard := none },
  { dst := some 14, op := SOp.alloc [Value.slice none 0 0], guard := none },
  { dst := none, op := SOp.store 1 (Operand.tmp 14) (Operand.tmp 46), guard := none },
  { dst := some 15, op := SOp.mv (Operand.tmp 47), guard := none }]
def c3_r9 : List SIns := [
  { dst := some 49, op := SOp.loadN 1 (Operand.tmp 5), guard := none },
  { dst := some 50, op := SOp.mv (Operand.tmp 1), guard := none },
  { dst := some 51, op := SOp.call 22 [Operand.tmp 49, Operand.tmp 50], guard := none },
  { dst := some 48, op := SOp.mv (Operand.tmp 51), guard := none },
  { dst := some 52, op := SOp.ext (Operand.tmp 48) 0, guard := none },
  { dst := some 53, op := SOp.ext (Operand.tmp 48) 1, guard := none },
  { dst := some 16, op := SOp.alloc [Value.slice none 0 0], guard := none },
  { dst := none, op := SOp.store 1 (Operand.tmp 16) (Operand.tmp 52), guard := none },
  { dst := some 17, op := SOp.mv (Operand.tmp 53), guard := none }]
def c3_r10 : List SIns := [
  { dst := some 54, op := SOp.off 0 (Operand.tmp 6), guard := none },
  { dst := some 55, op := SOp.load1 (Operand.tmp 54), guard := none },
  { dst := some 56, op := SOp.off 0 (Operand.tmp 8), guard := none },
  { dst := some 57, op := SOp.load1 (Operand.tmp 56), guard := none },
  { dst := some 58, op := SOp.call 23 [Operand.tmp 55, Operand.tmp 57], guard := none },
  { dst := some 59, op := SOp.mv (Operand.tmp 58), guard := none },
  { dst := some 60, op := SOp.mv (Operand.tmp 7), guard := some (59, true) },
  { dst := some 61, op := SOp.mv (Operand.tmp 9), guard := some (59, true) },
  { dst := some 62, op := SOp.ib (BinOp.eql) (Operand.tmp 60) (Operand.tmp 61), guard := some (59, true) },
  { dst := some 63, op := SOp.pick (Operand.tmp 59) (Operand.tmp 62) (Operand.const (Value.bool false)), guard := none },
  { dst := some 64, op := SOp.mv (Operand.tmp 63), guard := none },
  { dst := some 65, op := SOp.off 0 (Operand.tmp 10), guard := some (64, true) },
  { dst := some 66, op := SOp.load1 (Operand.tmp 65), guard := some (64, true) },
  { dst := some 67, op := SOp.off 0 (Operand.tmp 12), guard := some (64, true) },
  { dst := some 68, op := SOp.load1 (Operand.tmp 67), guard := some (64, true) },
  { dst := some 69, op := SOp.call 23 [Operand.tmp 66, Operand.tmp 68], guard := some (64, true) },
  { dst := some 70, op := SOp.pick (Operand.tmp 64) (Operand.tmp 69) (Operand.const (Value.bool false)), guard := none },
  { dst := some 71, op := SOp.mv (Operand.tmp 70), guard := none },
  { dst := some 72, op := SOp.mv (Operand.tmp 11), guard := some (71, true) },
  { dst := some 73, op := SOp.mv (Operand.tmp 13), guard := some (71, true) },
  { dst := some 74, op := SOp.ib (BinOp.eql) (Operand.tmp 72) (Operand.tmp 73), guard := some (71, true) },
  { dst := some 75, op := SOp.pick (Operand.tmp 71) (Operand.tmp 74) (Operand.const (Value.bool false)), guard := none },
  { dst := some 76, op := SOp.mv (Operand.tmp 75), guard := none },
  { dst := some 77, op := SOp.off 0 (Operand.tmp 14), guard := some (76, true) },
  { dst := some 78, op := SOp.load1 (Operand.tmp 77), guard := some (76, true) },
  { dst := some 79, op := SOp.off 0 (Operand.tmp 16), guard := some (76, true) },
  { dst := some 80, op := SOp.load1 (Operand.tmp 79), guard := some (76, true) },
  { dst := some 81, op := SOp.call 23 [Operand.tmp 78, Operand.tmp 80], guard := some (76, true) },
  { dst := some 82, op := SOp.pick (Operand.tmp 76) (Operand.tmp 81) (Operand.const (Value.bool false)), guard := none },
  { dst := some 83, op := SOp.mv (Operand.tmp 82), guard := none },
  { dst := some 84, op := SOp.mv (Operand.tmp 15), guard := some (83, true) },
  { dst := some 85, op := SOp.mv (Operand.tmp 17), guard := some (83, true) },
  { dst := some 86, op := SOp.ib (BinOp.eql) (Operand.tmp 84) (Operand.tmp 85), guard := some (83, true) },
  { dst := some 87, op := SOp.pick (Operand.tmp 83) (Operand.tmp 86) (Operand.const (Value.bool false)), guard := none },
  { dst := some 88, op := SOp.mv (Operand.tmp 87), guard := none },
  { dst := some 89, op := SOp.call 16 [], guard := some (88, true) },
  { dst := some 90, op := SOp.pick (Operand.tmp 88) (Operand.tmp 89) (Operand.const (Value.bool false)), guard := none },
  { dst := some 4, op := SOp.mv (Operand.tmp 90), guard := none }]
def c3 : SCode := (.seq (.reg c3_r0 [1, 2]) (.seq (.seq (.reg c3_r1 [1, 2, 19]) (.cond (Operand.tmp 19) (.seq (.reg c3_r2 [4]) .ret) .skip)) (.seq (.reg c3_r3 [1, 2, 5]) (.seq (.reg c3_r4 [1, 2, 5, 6, 7]) (.seq (.reg c3_r5 [1, 2, 5, 6, 7, 8, 9]) (.seq (.reg c3_r6 [1, 2, 5, 6, 7, 8, 9, 10, 11]) (.seq (.reg c3_r7 [1, 2, 5, 6, 7, 8, 9, 10, 11, 12, 13]) (.seq (.reg c3_r8 [1, 5, 6, 7, 8, 9, 10, 11, 12, 13, 14, 15]) (.seq (.reg c3_r9 [6, 7, 8, 9, 10, 11, 12, 13, 14, 15, 16, 17]) (.seq (.reg c3_r10 [4]) .ret))))))))))
theorem F3 : Fn Tryd.prog 3 c3 [SRes.tmp 4] 91 := ⟨Tryd.f3, Tryd.f3.body.getD .skip, [[1, 2], [1, 2, 19], [4], [1, 2, 5], [1, 2, 5, 6, 7], [1, 2, 5, 6, 7, 8, 9], [1, 2, 5, 6, 7, 8, 9, 10, 11], [1, 2, 5, 6, 7, 8, 9, 10, 11, 12, 13], [1, 5, 6, 7, 8, 9, 10, 11, 12, 13, 14, 15], [6, 7, 8, 9, 10, 11, 12, 13, 14, 15, 16, 17], [4]], Tryd.func3, by kernel_rfl, by kernel_rfl, by kernel_rfl, by kernel_rfl, by decide⟩

def c15_r0 : List SIns := [
  { dst := some 1, op := SOp.box (Operand.tmp 0), guard := none },
  { dst := some 2, op := SOp.mv (Operand.const (Value.bool false)), guard := none }]
def c15_r1 : List SIns := [
  { dst := some 4, op := SOp.off 0 (Operand.tmp 1), guard := none },
  { dst := some 5, op := SOp.load1 (Operand.tmp 4), guard := none },
  { dst := some 6, op := SOp.lenSl (Operand.tmp 5), guard := none },
  { dst := some 7, op := SOp.ib (BinOp.gtr) (Operand.tmp 6) (Operand.const (Value.int (IntKind.i64) 40)), guard := none }]
def c15_r2 : List SIns := [
  { dst := some 2, op := SOp.mv (Operand.const (Value.bool true)), guard := none }]
def c15_r3 : List SIns := [
  { dst := some 3, op := SOp.mv (Operand.const (Value.int (IntKind.i64) 0)), guard := none }]
def c15_r4 : List SIns := [
  { dst := some 8, op := SOp.mv (Operand.tmp 3), guard := none },
  { dst := some 9, op := SOp.off 0 (Operand.tmp 1), guard := none },
  { dst := some 10, op := SOp.load1 (Operand.tmp 9), guard := none },
  { dst := some 11, op := SOp.lenSl (Operand.tmp 10), guard := none },
  { dst := some 12, op := SOp.ib (BinOp.lss) (Operand.tmp 8) (Operand.tmp 11), guard := none }]
def c15_r5 : List SIns := [
  { dst := some 15, op := SOp.off 0 (Operand.tmp 1), guard := none },
  { dst := some 16, op := SOp.load1 (Operand.tmp 15), guard := none },
  { dst := some 17, op := SOp.mv (Operand.tmp 3), guard := none },
  { dst := some 18, op := SOp.idx 1 (Operand.tmp 16) (Operand.tmp 17), guard := none },
  { dst := some 19, op := SOp.load1 (Operand.tmp 18), guard := none },
  { dst := some 20, op := SOp.lenSl (Operand.tmp 19), guard := none },
  { dst := some 21, op := SOp.ib (BinOp.gtr) (Operand.tmp 20) (Operand.const (Value.int (IntKind.i64) 40)), guard := none }]
def c15_r6 : List SIns := [
  { dst := some 2, op := SOp.mv (Operand.const (Value.bool true)), guard := none }]
def c15_r7 : List SIns := [
  { dst := some 13, op := SOp.mv (Operand.tmp 3), guard := none },
  { dst := some 14, op := SOp.ib (BinOp.add) (Operand.tmp 13) (Operand.const (Value.int (IntKind.i64) 1)), guard := none },
  { dst := some 3, op := SOp.mv (Operand.tmp 14), guard := none }]
def c15_l0 : SCode := (.seq (.seq (.reg c15_r4 [1, 3, 12]) (.cond (Operand.tmp 12) .skip (.exit 0))) (.seq (.block 1 (.seq (.reg c15_r5 [1, 3, 21]) (.cond (Operand.tmp 21) (.seq (.reg c15_r6 [2]) .ret) .skip))) (.reg c15_r7 [1, 3])))
def c15_r8 : List SIns := [
  { dst := some 2, op := SOp.mv (Operand.const (Value.bool false)), guard := none }]
def c15 : SCode := (.seq (.reg c15_r0 [1]) (.seq (.seq (.reg c15_r1 [1, 7]) (.cond (Operand.tmp 7) (.seq (.reg c15_r2 [2]) .ret) .skip)) (.seq (.seq (.reg c15_r3 [1, 3]) (.block 0 (.loop c15_l0))) (.seq (.reg c15_r8 [2]) .ret))))
theorem F15 : Fn Tryd.prog 15 c15 [SRes.tmp 2] 22 := ⟨Tryd.f15, Tryd.f15.body.getD .skip, [[1], [1, 7], [2], [1, 3], [1, 3, 12], [1, 3, 21], [2], [1, 3], [2]], Tryd.func15, by kernel_rfl, by kernel_rfl, by kernel_rfl, by kernel_rfl, by decide⟩

def c66_r0 : List SIns := [
  { dst := some 1, op := SOp.box (Operand.tmp 0), guard := none },
  { dst := some 2, op := SOp.mv (Operand.const (Value.int (IntKind.i64) 0)), guard := none }]
def c66_r1 : List SIns := [
  { dst := some 3, op := SOp.mv (Operand.const (Value.int (IntKind.i64) 0)), guard := none }]
def c66_r2 : List SIns := [
  { dst := some 4, op := SOp.mv (Operand.const (Value.int (IntKind.i64) 0)), guard := none }]
def c66_r3 : List SIns := [
  { dst := some 5, op := SOp.mv (Operand.tmp 4), guard := none },
  { dst := some 6, op := SOp.off 0 (Operand.tmp 1), guard := none },
  { dst := some 7, op := SOp.load1 (Operand.tmp 6), guard := none },
  { dst := some 8, op := SOp.lenSl (Operand.tmp 7), guard := none },
  { dst := some 9, op := SOp.ib (BinOp.lss) (Operand.tmp 5) (Operand.tmp 8), guard := none }]
def c66_r4 : List SIns := [
  { dst := some 12, op := SOp.mv (Operand.tmp 3), guard := none },
  { dst := some 13, op := SOp.off 0 (Operand.tmp 1), guard := none },
  { dst := some 14, op := SOp.load1 (Operand.tmp 13), guard := none },
  { dst := some 15, op := SOp.mv (Operand.tmp 4), guard := none },
  { dst := some 16, op := SOp.idx 1 (Operand.tmp 14) (Operand.tmp 15), guard := none },
  { dst := some 17, op := SOp.load1 (Operand.tmp 16), guard := none },
  { dst := some 18, op := SOp.lenSl (Operand.tmp 17), guard := none },
  { dst := some 19, op := SOp.ib (BinOp.add) (Operand.tmp 12) (Operand.tmp 18), guard := none },
  { dst := some 3, op := SOp.mv (Operand.tmp 19), guard := none }]
def c66_r5 : List SIns := [
  { dst := some 10, op := SOp.mv (Operand.tmp 4), guard := none },
  { dst := some 11, op := SOp.ib (BinOp.add) (Operand.tmp 10) (Operand.const (Value.int (IntKind.i64) 1)), guard := none },
  { dst := some 4, op := SOp.mv (Operand.tmp 11), guard := none }]
def c66_l0 : SCode := (.seq (.seq (.reg c66_r3 [1, 3, 4, 9]) (.cond (Operand.tmp 9) .skip (.exit 0))) (.seq (.block 1 (.reg c66_r4 [1, 3, 4])) (.reg c66_r5 [1, 3, 4])))
def c66_r6 : List SIns := [
  { dst := some 20, op := SOp.mv (Operand.tmp 3), guard := none },
  { dst := some 2, op := SOp.mv (Operand.tmp 20), guard := none }]
def c66 : SCode := (.seq (.reg c66_r0 [1]) (.seq (.reg c66_r1 [1, 3]) (.seq (.seq (.reg c66_r2 [1, 3, 4]) (.block 0 (.loop c66_l0))) (.seq (.reg c66_r6 [2]) .ret))))
theorem F66 : Fn Tryd.prog 66 c66 [SRes.tmp 2] 21 := ⟨Tryd.f66, Tryd.f66.body.getD .skip, [[1], [1, 3], [1, 3, 4], [1, 3, 4, 9], [1, 3, 4], [1, 3, 4], [2]], Tryd.func66, by kernel_rfl, by kernel_rfl, by kernel_rfl, by kernel_rfl, by decide⟩

def c72_r0 : List SIns := [
  { dst := some 6, op := SOp.mv (Operand.const (Value.bool false)), guard := none }]
def c72_r1 : List SIns := [
  { dst := some 7, op := SOp.mv (Operand.tmp 0), guard := none },
  { dst := some 8, op := SOp.mv (Operand.tmp 1), guard := none },
  { dst := some 9, op := SOp.ib (BinOp.geq) (Operand.tmp 7) (Operand.tmp 8), guard := none },
  { dst := some 10, op := SOp.mv (Operand.tmp 9), guard := none },
  { dst := some 11, op := SOp.mv (Operand.tmp 0), guard := some (10, true) },
  { dst := some 12, op := SOp.mv (Operand.tmp 2), guard := some (10, true) },
  { dst := some 13, op := SOp.ib (BinOp.leq) (Operand.tmp 11) (Operand.tmp 12), guard := some (10, true) },
  { dst := some 14, op := SOp.pick (Operand.tmp 10) (Operand.tmp 13) (Operand.const (Value.bool false)), guard := none },
  { dst := some 6, op := SOp.mv (Operand.tmp 14), guard := none }]
def c72 : SCode := (.seq (.reg c72_r0 [0, 1, 2]) (.seq (.reg c72_r1 [6]) .ret))
theorem F72 : Fn Tryd.prog 72 c72 [SRes.tmp 6] 15 := ⟨Tryd.f72, Tryd.f72.body.getD .skip, [[0, 1, 2], [6]], Tryd.func72, by kernel_rfl, by kernel_rfl, by kernel_rfl, by kernel_rfl, by decide⟩

def c75_r0 : List SIns := [
  { dst := some 2, op := SOp.box (Operand.tmp 0), guard := none },
  { dst := some 4, op := SOp.mv (Operand.const (Value.int (IntKind.i64) 0)), guard := none }]
def c75_r1 : List SIns := [
  { dst := some 5, op := SOp.loadN 1 (Operand.tmp 2), guard := none },
  { dst := some 6, op := SOp.off 0 (Operand.tmp 2), guard := none },
  { dst := some 7, op := SOp.load1 (Operand.tmp 6), guard := none },
  { dst := some 8, op := SOp.lenSl (Operand.tmp 7), guard := none },
  { dst := some 9, op := SOp.mv (Operand.tmp 1), guard := none },
  { dst := some 10, op := SOp.call 87 [Operand.tmp 5, Operand.tmp 8, Operand.tmp 9], guard := none },
  { dst := some 4, op := SOp.mv (Operand.tmp 10), guard := none }]
def c75 : SCode := (.seq (.reg c75_r0 [1, 2]) (.seq (.reg c75_r1 [4]) .ret))
theorem F75 : Fn Tryd.prog 75 c75 [SRes.tmp 4] 11 := ⟨Tryd.f75, Tryd.f75.body.getD .skip, [[1, 2], [4]], Tryd.func75, by kernel_rfl, by kernel_rfl, by kernel_rfl, by kernel_rfl, by decide⟩

def c86_r0 : List SIns := [
  { dst := some 4, op := SOp.mv (Operand.const (Value.int (IntKind.i64) 0)), guard := none }]
def c86_r1 : List SIns := [
  { dst := some 5, op := SOp.mv (Operand.const (Value.int (IntKind.i64) 0)), guard := none }]
def c86_r2 : List SIns := [
  { dst := some 6, op := SOp.mv (Operand.tmp 5), guard := none },
  { dst := some 7, op := SOp.mv (Operand.tmp 0), guard := none },
  { dst := some 8, op := SOp.lenSl (Operand.tmp 7), guard := none },
  { dst := some 9, op := SOp.ib (BinOp.lss) (Operand.tmp 6) (Operand.tmp 8), guard := none }]
def c86_r3 : List SIns := [
  { dst := some 12, op := SOp.mv (Operand.tmp 0), guard := none },
  { dst := some 13, op := SOp.mv (Operand.tmp 5), guard := none },
  { dst := some 14, op := SOp.idx 1 (Operand.tmp 12) (Operand.tmp 13), guard := none },
  { dst := some 15, op := SOp.load1 (Operand.tmp 14), guard := none },
  { dst := some 16, op := SOp.mv (Operand.tmp 1), guard := none },
  { dst := some 17, op := SOp.ib (BinOp.eql) (Operand.tmp 15) (Operand.tmp 16), guard := none }]
def c86_r4 : List SIns := [
  { dst := some 18, op := SOp.mv (Operand.tmp 5), guard := none },
  { dst := some 4, op := SOp.mv (Operand.tmp 18), guard := none }]
def c86_r5 : List SIns := [
  { dst := some 10, op := SOp.mv (Operand.tmp 5), guard := none },
  { dst := some 11, op := SOp.ib (BinOp.add) (Operand.tmp 10) (Operand.const (Value.int (IntKind.i64) 1)), guard := none },
  { dst := some 5, op := SOp.mv (Operand.tmp 11), guard := none }]
def c86_l0 : SCode := (.seq (.seq (.reg c86_r2 [0, 1, 5, 9]) (.cond (Operand.tmp 9) .skip (.exit 0))) (.seq (.block 1 (.seq (.reg c86_r3 [0, 1, 5, 17]) (.cond (Operand.tmp 17) (.seq (.reg c86_r4 [4]) .ret) .skip))) (.reg c86_r5 [0, 1, 5])))
def c86_r6 : List SIns := [
  { dst := some 4, op := SOp.mv (Operand.const (Value.int (IntKind.i64) (-1))), guard := none }]
def c86 : SCode := (.seq (.reg c86_r0 [0, 1]) (.seq (.seq (.reg c86_r1 [0, 1, 5]) (.block 0 (.loop c86_l0))) (.seq (.reg c86_r6 [4]) .ret)))
theorem F86 : Fn Tryd.prog 86 c86 [SRes.tmp 4] 19 := ⟨Tryd.f86, Tryd.f86.body.getD .skip, [[0, 1], [0, 1, 5], [0, 1, 5, 9], [0, 1, 5, 17], [4], [0, 1, 5], [4]], Tryd.func86, by kernel_rfl, by kernel_rfl, by kernel_rfl, by kernel_rfl, by decide⟩

def c87_r0 : List SIns := [
  { dst := some 3, op := SOp.box (Operand.tmp 0), guard := none },
  { dst := some 6, op := SOp.mv (Operand.const (Value.int (IntKind.i64) 0)), guard := none }]
def c87_r1 : List SIns := [
  { dst := some 7, op := SOp.mv (Operand.const (Value.int (IntKind.i64) 0)), guard := none }]
def c87_r2 : List SIns := [
  { dst := some 8, op := SOp.mv (Operand.tmp 7), guard := none },
  { dst := some 9, op := SOp.mv (Operand.tmp 1), guard := none },
  { dst := some 10, op := SOp.ib (BinOp.lss) (Operand.tmp 8) (Operand.tmp 9), guard := none }]
def c87_r3 : List SIns := [
  { dst := some 13, op := SOp.off 0 (Operand.tmp 3), guard := none },
  { dst := some 14, op := SOp.load1 (Operand.tmp 13), guard := none },
  { dst := some 15, op := SOp.mv (Operand.tmp 7), guard := none },
  { dst := some 16, op := SOp.idx 1 (Operand.tmp 14) (Operand.tmp 15), guard := none },
  { dst := some 17, op := SOp.load1 (Operand.tmp 16), guard := none },
  { dst := some 18, op := SOp.mv (Operand.tmp 2), guard := none },
  { dst := some 19, op := SOp.call 86 [Operand.tmp 17, Operand.tmp 18], guard := none },
  { dst := some 20, op := SOp.ib (BinOp.geq) (Operand.tmp 19) (Operand.const (Value.int (IntKind.i64) 0)), guard := none }]
def c87_r4 : List SIns := [
  { dst := some 21, op := SOp.mv (Operand.tmp 7), guard := none },
  { dst := some 6, op := SOp.mv (Operand.tmp 21), guard := none }]
def c87_r5 : List SIns := [
  { dst := some 11, op := SOp.mv (Operand.tmp 7), guard := none },
  { dst := some 12, op := SOp.ib (BinOp.add) (Operand.tmp 11) (Operand.const (Value.int (IntKind.i64) 1)), guard := none },
  { dst := some 7, op := SOp.mv (Operand.tmp 12), guard := none }]
def c87_l0 : SCode := (.seq (.seq (.reg c87_r2 [1, 2, 3, 7, 10]) (.cond (Operand.tmp 10) .skip (.exit 0))) (.seq (.block 1 (.seq (.reg c87_r3 [1, 2, 3, 7, 20]) (.cond (Operand.tmp 20) (.seq (.reg c87_r4 [6]) .ret) .skip))) (.reg c87_r5 [1, 2, 3, 7])))
def c87_r6 : List SIns := [
  { dst := some 6, op := SOp.mv (Operand.const (Value.int (IntKind.i64) (-1))), guard := none }]
def c87 : SCode := (.seq (.reg c87_r0 [1, 2, 3]) (.seq (.seq (.reg c87_r1 [1, 2, 3, 7]) (.block 0 (.loop c87_l0))) (.seq (.reg c87_r6 [6]) .ret)))
theorem F87 : Fn Tryd.prog 87 c87 [SRes.tmp 6] 22 := ⟨Tryd.f87, Tryd.f87.body.getD .skip, [[1, 2, 3], [1, 2, 3, 7], [1, 2, 3, 7, 10], [1, 2, 3, 7, 20], [6], [1, 2, 3, 7], [6]], Tryd.func87, by kernel_rfl, by kernel_rfl, by kernel_rfl, by kernel_rfl, by decide⟩

def c97_r0 : List SIns := [
  { dst := some 2, op := SOp.box (Operand.tmp 0), guard := none },
  { dst := some 4, op := SOp.mv (Operand.const (Value.int (IntKind.i64) 0)), guard := none }]
def c97_r1 : List SIns := [
  { dst := some 6, op := SOp.off 0 (Operand.tmp 2), guard := none },
  { dst := some 7, op := SOp.load1 (Operand.tmp 6), guard := none },
  { dst := some 8, op := SOp.loadN 1 (Operand.tmp 2), guard := none },
  { dst := some 9, op := SOp.mv (Operand.tmp 1), guard := none },
  { dst := some 10, op := SOp.call 75 [Operand.tmp 8, Operand.tmp 9], guard := none },
  { dst := some 11, op := SOp.idx 1 (Operand.tmp 7) (Operand.tmp 10), guard := none },
  { dst := some 12, op := SOp.load1 (Operand.tmp 11), guard := none },
  { dst := some 5, op := SOp.mv (Operand.tmp 12), guard := none }]
def c97_r2 : List SIns := [
  { dst := some 13, op := SOp.mv (Operand.tmp 5), guard := none },
  { dst := some 14, op := SOp.mv (Operand.tmp 5), guard := none },
  { dst := some 15, op := SOp.mv (Operand.tmp 1), guard := none },
  { dst := some 16, op := SOp.call 86 [Operand.tmp 14, Operand.tmp 15], guard := none },
  { dst := some 17, op := SOp.ib (BinOp.add) (Operand.tmp 16) (Operand.const (Value.int (IntKind.i64) 1)), guard := none },
  { dst := some 18, op := SOp.mv (Operand.tmp 5), guard := none },
  { dst := some 19, op := SOp.lenSl (Operand.tmp 18), guard := none },
  { dst := some 20, op := SOp.ib (BinOp.rem) (Operand.tmp 17) (Operand.tmp 19), guard := none },
  { dst := some 21, op := SOp.idx 1 (Operand.tmp 13) (Operand.tmp 20), guard := none },
  { dst := some 22, op := SOp.load1 (Operand.tmp 21), guard := none },
  { dst := some 4, op := SOp.mv (Operand.tmp 22), guard := none }]
def c97 : SCode := (.seq (.reg c97_r0 [1, 2]) (.seq (.draw c97_r1 [[], [0], [], [], [2, 3], [1, 4, 0, 2, 3], [5, 1, 4, 0, 2, 3], [6, 5, 1, 4, 0, 2, 3]] [1, 5]) (.seq (.reg c97_r2 [4]) .ret)))
theorem F97 : Fn Tryd.prog 97 c97 [SRes.tmp 4] 23 := ⟨Tryd.f97, Tryd.f97.body.getD .skip, [[1, 2], [1, 5], [4]], Tryd.func97, by kernel_rfl, by kernel_rfl, by kernel_rfl, by kernel_rfl, by decide⟩

def c98_r0 : List SIns := [
  { dst := some 2, op := SOp.mv (Operand.const (Value.int (IntKind.i64) 0)), guard := none }]
def c98_r1 : List SIns := [
  { dst := some 3, op := SOp.mv (Operand.tmp 0), guard := none },
  { dst := some 4, op := SOp.ib (BinOp.rem) (Operand.tmp 3) (Operand.const (Value.int (IntKind.i64) 2)), guard := none },
  { dst := some 5, op := SOp.ib (BinOp.eql) (Operand.tmp 4) (Operand.const (Value.int (IntKind.i64) 0)), guard := none }]
def c98_r2 : List SIns := [
  { dst := some 6, op := SOp.mv (Operand.tmp 0), guard := none },
  { dst := some 7, op := SOp.ib (BinOp.add) (Operand.tmp 6) (Operand.const (Value.int (IntKind.i64) 1)), guard := none },
  { dst := some 2, op := SOp.mv (Operand.tmp 7), guard := none }]
def c98_r3 : List SIns := [
  { dst := some 8, op := SOp.mv (Operand.tmp 0), guard := none },
  { dst := some 9, op := SOp.ib (BinOp.sub) (Operand.tmp 8) (Operand.const (Value.int (IntKind.i64) 1)), guard := none },
  { dst := some 2, op := SOp.mv (Operand.tmp 9), guard := none }]
def c98 : SCode := (.seq (.reg c98_r0 [0]) (.seq (.seq (.reg c98_r1 [0, 5]) (.cond (Operand.tmp 5) (.seq (.reg c98_r2 [2]) .ret) .skip)) (.seq (.reg c98_r3 [2]) .ret)))
theorem F98 : Fn Tryd.prog 98 c98 [SRes.tmp 2] 10 := ⟨Tryd.f98, Tryd.f98.body.getD .skip, [[0], [0, 5], [2], [2]], Tryd.func98, by kernel_rfl, by kernel_rfl, by kernel_rfl, by kernel_rfl, by decide⟩

end Go.Sx.Ch
