/- The codes of the functions, written by a program (Gen.lean), and that they are the functions'. No conditions. -/
import Derived.Test.YtmakepdccccmaaaSxN
import Derived.KernelRfl
import Derived.Test.YtmakepdccccmaaaProg
set_option linter.unusedVariables false
set_option maxRecDepth 100000
namespace Go.Sx.Wk
open Go Go.Sx Go.Proofs

def c7_r0 : List SIns := [
  { dst := some 1, op := SOp.box (Operand.tmp 0), guard := none },
  { dst := some 2, op := SOp.mv (Operand.const (Value.bool false)), guard := none }]
def c7_r1 : List SIns := [
  { dst := some 3, op := SOp.mv (Operand.const (Value.slice none 0 0)), guard := none }]
def c7_r2 : List SIns := [
  { dst := some 8, op := SOp.off 1 (Operand.tmp 1), guard := none },
  { dst := some 9, op := SOp.off 0 (Operand.tmp 1), guard := none },
  { dst := some 10, op := SOp.load1 (Operand.tmp 9), guard := none },
  { dst := some 11, op := SOp.ci (IntKind.i64) (Operand.tmp 10), guard := none },
  { dst := some 12, op := SOp.ib (BinOp.rem) (Operand.tmp 11) (Operand.const (Value.int (IntKind.i64) 4)), guard := none },
  { dst := some 13, op := SOp.ib (BinOp.add) (Operand.const (Value.int (IntKind.i64) 1)) (Operand.tmp 12), guard := none },
  { dst := some 14, op := SOp.slcA 4 1 (Operand.tmp 8) none (some (Operand.tmp 13)) none, guard := none },
  { dst := some 15, op := SOp.lenSl (Operand.tmp 14), guard := none },
  { dst := some 16, op := SOp.mv (Operand.const (Value.int (IntKind.i64) 0)), guard := none }]
def c7_r3 : List SIns := [
  { dst := some 17, op := SOp.ib (BinOp.lss) (Operand.tmp 16) (Operand.tmp 15), guard := none }]
def c7_r4 : List SIns := [
  { dst := some 18, op := SOp.idx 1 (Operand.tmp 14) (Operand.tmp 16), guard := none },
  { dst := some 19, op := SOp.load1 (Operand.tmp 18), guard := none },
  { dst := some 5, op := SOp.mv (Operand.tmp 19), guard := none }]
def c7_r5 : List SIns := [
  { dst := some 20, op := SOp.mv (Operand.tmp 3), guard := none },
  { dst := some 21, op := SOp.mv (Operand.tmp 5), guard := none },
  { dst := some 22, op := SOp.ib (BinOp.rem) (Operand.tmp 21) (Operand.const (Value.int (IntKind.u8) 4)), guard := none },
  { dst := some 23, op := SOp.bin (BinOp.shl) 3 (Operand.const (Value.int (IntKind.i64) 1)) (Operand.tmp 22), guard := none },
  { dst := some 24, op := SOp.mks 1 1 [Value.int (IntKind.i64) 0] [(0, 1, Operand.tmp 23)], guard := none },
  { dst := some 25, op := SOp.app 1 8 (Operand.tmp 20) (Operand.tmp 24), guard := none },
  { dst := some 3, op := SOp.mv (Operand.tmp 25), guard := none }]
def c7_r6 : List SIns := [
  { dst := some 26, op := SOp.off 0 (Operand.tmp 1), guard := none },
  { dst := some 27, op := SOp.load1 (Operand.tmp 26), guard := none },
  { dst := some 28, op := SOp.ib (BinOp.rem) (Operand.tmp 27) (Operand.const (Value.int (IntKind.u8) 8)), guard := none },
  { dst := some 29, op := SOp.ib (BinOp.gtr) (Operand.tmp 28) (Operand.const (Value.int (IntKind.u8) 4)), guard := none }]
def c7_r7 : List SIns := [
  { dst := some 30, op := SOp.mv (Operand.tmp 3), guard := none },
  { dst := some 31, op := SOp.mv (Operand.tmp 3), guard := none },
  { dst := some 32, op := SOp.lenSl (Operand.tmp 31), guard := none },
  { dst := some 33, op := SOp.ib (BinOp.sub) (Operand.tmp 32) (Operand.const (Value.int (IntKind.i64) 1)), guard := none },
  { dst := some 34, op := SOp.mks 4 1 [Value.int (IntKind.i64) 0, Value.int (IntKind.i64) 0, Value.int (IntKind.i64) 0, Value.int (IntKind.i64) 0] [(0, 1, Operand.const (Value.int (IntKind.i64) 1)), (1, 1, Operand.const (Value.int (IntKind.i64) 2)), (2, 1, Operand.const (Value.int (IntKind.i64) 6)), (3, 1, Operand.const (Value.int (IntKind.i64) 6))], guard := none },
  { dst := some 35, op := SOp.mv (Operand.tmp 5), guard := none },
  { dst := some 36, op := SOp.ib (BinOp.rem) (Operand.tmp 35) (Operand.const (Value.int (IntKind.u8) 4)), guard := none },
  { dst := some 37, op := SOp.idx 1 (Operand.tmp 34) (Operand.tmp 36), guard := none },
  { dst := some 38, op := SOp.load1 (Operand.tmp 37), guard := none },
  { dst := some 39, op := SOp.idx 1 (Operand.tmp 30) (Operand.tmp 33), guard := none },
  { dst := none, op := SOp.store 1 (Operand.tmp 39) (Operand.tmp 38), guard := none }]
def c7_r8 : List SIns := [
  { dst := some 40, op := SOp.off 0 (Operand.tmp 1), guard := none },
  { dst := some 41, op := SOp.load1 (Operand.tmp 40), guard := none },
  { dst := some 42, op := SOp.ib (BinOp.rem) (Operand.tmp 41) (Operand.const (Value.int (IntKind.u8) 8)), guard := none },
  { dst := some 43, op := SOp.ib (BinOp.eql) (Operand.tmp 42) (Operand.const (Value.int (IntKind.u8) 4)), guard := none }]
def c7_r9 : List SIns := [
  { dst := some 44, op := SOp.mv (Operand.tmp 3), guard := none },
  { dst := some 45, op := SOp.mv (Operand.tmp 3), guard := none },
  { dst := some 46, op := SOp.lenSl (Operand.tmp 45), guard := none },
  { dst := some 47, op := SOp.ib (BinOp.sub) (Operand.tmp 46) (Operand.const (Value.int (IntKind.i64) 1)), guard := none },
  { dst := some 48, op := SOp.mks 4 1 [Value.int (IntKind.i64) 0, Value.int (IntKind.i64) 0, Value.int (IntKind.i64) 0, Value.int (IntKind.i64) 0] [(0, 1, Operand.const (Value.int (IntKind.i64) 1)), (1, 1, Operand.const (Value.int (IntKind.i64) 3)), (2, 1, Operand.const (Value.int (IntKind.i64) 3)), (3, 1, Operand.const (Value.int (IntKind.i64) 6))], guard := none },
  { dst := some 49, op := SOp.mv (Operand.tmp 5), guard := none },
  { dst := some 50, op := SOp.ib (BinOp.rem) (Operand.tmp 49) (Operand.const (Value.int (IntKind.u8) 4)), guard := none },
  { dst := some 51, op := SOp.idx 1 (Operand.tmp 48) (Operand.tmp 50), guard := none },
  { dst := some 52, op := SOp.load1 (Operand.tmp 51), guard := none },
  { dst := some 53, op := SOp.idx 1 (Operand.tmp 44) (Operand.tmp 47), guard := none },
  { dst := none, op := SOp.store 1 (Operand.tmp 53) (Operand.tmp 52), guard := none }]
def c7_r10 : List SIns := [
  { dst := some 54, op := SOp.ib (BinOp.add) (Operand.tmp 16) (Operand.const (Value.int (IntKind.i64) 1)), guard := none },
  { dst := some 16, op := SOp.mv (Operand.tmp 54), guard := none }]
def c7_l0 : SCode := (.seq (.reg c7_r3 [1, 3, 14, 15, 16, 17]) (.seq (.cond (Operand.tmp 17) .skip (.exit 0)) (.seq (.block 1 (.seq (.reg c7_r4 [1, 3, 5, 14, 15, 16]) (.seq (.reg c7_r5 [1, 3, 5, 14, 15, 16]) (.seq (.seq (.reg c7_r6 [1, 3, 5, 14, 15, 16, 29]) (.cond (Operand.tmp 29) (.reg c7_r7 [1, 3, 5, 14, 15, 16]) .skip)) (.seq (.reg c7_r8 [1, 3, 5, 14, 15, 16, 43]) (.cond (Operand.tmp 43) (.reg c7_r9 [1, 3, 14, 15, 16]) .skip)))))) (.reg c7_r10 [1, 3, 14, 15, 16]))))
def c7_r11 : List SIns := [
  { dst := some 56, op := SOp.mv (Operand.tmp 3), guard := none },
  { dst := some 57, op := SOp.call 19 [Operand.tmp 56], guard := none },
  { dst := some 55, op := SOp.mv (Operand.tmp 57), guard := none },
  { dst := some 58, op := SOp.ext (Operand.tmp 55) 0, guard := none },
  { dst := some 59, op := SOp.ext (Operand.tmp 55) 1, guard := none },
  { dst := some 6, op := SOp.mv (Operand.tmp 58), guard := none },
  { dst := some 7, op := SOp.mv (Operand.tmp 59), guard := none }]
def c7_r12 : List SIns := [
  { dst := some 60, op := SOp.mv (Operand.tmp 7), guard := none },
  { dst := some 61, op := SOp.ib (BinOp.eql) (Operand.tmp 60) (Operand.const (Value.int (IntKind.i64) 0)), guard := none },
  { dst := some 62, op := SOp.mv (Operand.tmp 61), guard := none },
  { dst := some 63, op := SOp.mv (Operand.tmp 6), guard := some (62, true) },
  { dst := some 64, op := SOp.mv (Operand.tmp 3), guard := some (62, true) },
  { dst := some 65, op := SOp.call 38 [Operand.tmp 64, Operand.const (Value.int (IntKind.i64) 1), Operand.const (Value.int (IntKind.i64) 1)], guard := some (62, true) },
  { dst := some 66, op := SOp.ib (BinOp.leq) (Operand.tmp 65) (Operand.const (Value.int (IntKind.i64) 0)), guard := some (62, true) },
  { dst := some 67, op := SOp.bb false (Operand.tmp 63) (Operand.tmp 66), guard := some (62, true) },
  { dst := some 68, op := SOp.pick (Operand.tmp 62) (Operand.tmp 67) (Operand.const (Value.bool false)), guard := none },
  { dst := some 69, op := SOp.mv (Operand.tmp 68), guard := none },
  { dst := some 70, op := SOp.call 16 [], guard := some (69, true) },
  { dst := some 71, op := SOp.pick (Operand.tmp 69) (Operand.tmp 70) (Operand.const (Value.bool false)), guard := none },
  { dst := some 2, op := SOp.mv (Operand.tmp 71), guard := none }]
def c7 : SCode := (.seq (.reg c7_r0 [1]) (.seq (.reg c7_r1 [1, 3]) (.seq (.seq (.reg c7_r2 [1, 3, 14, 15, 16]) (.block 0 (.loop c7_l0))) (.seq (.reg c7_r11 [3, 6, 7]) (.seq (.reg c7_r12 [2]) .ret)))))
theorem F7 : Fn Try.prog 7 c7 [SRes.tmp 2] 72 := ⟨Try.f7, Try.f7.body.getD .skip, [[1], [1, 3], [1, 3, 14, 15, 16], [1, 3, 14, 15, 16, 17], [1, 3, 5, 14, 15, 16], [1, 3, 5, 14, 15, 16], [1, 3, 5, 14, 15, 16, 29], [1, 3, 5, 14, 15, 16], [1, 3, 5, 14, 15, 16, 43], [1, 3, 14, 15, 16], [1, 3, 14, 15, 16], [3, 6, 7], [2]], Try.func7, by kernel_rfl, by kernel_rfl, by kernel_rfl, by kernel_rfl, by decide⟩
end Go.Sx.Wk
/- The codes of the functions, written by a program (Gen.lean), and that they are the functions'. No conditions. -/
set_option linter.unusedVariables false
set_option maxRecDepth 100000
namespace Go.Sx.Wk
open Go Go.Sx Go.Proofs

def c38_r0 : List SIns := [
  { dst := some 6, op := SOp.mv (Operand.const (Value.int (IntKind.i64) 0)), guard := none }]
def c38_r1 : List SIns := [
  { dst := some 7, op := SOp.mv (Operand.const (Value.int (IntKind.i64) 0)), guard := none }]
def c38_r2 : List SIns := [
  { dst := some 10, op := SOp.mv (Operand.tmp 0), guard := none },
  { dst := some 11, op := SOp.lenSl (Operand.tmp 10), guard := none },
  { dst := some 12, op := SOp.mv (Operand.const (Value.int (IntKind.i64) 0)), guard := none }]
def c38_r3 : List SIns := [
  { dst := some 13, op := SOp.ib (BinOp.lss) (Operand.tmp 12) (Operand.tmp 11), guard := none }]
def c38_r4 : List SIns := [
  { dst := some 14, op := SOp.idx 1 (Operand.tmp 10) (Operand.tmp 12), guard := none },
  { dst := some 15, op := SOp.load1 (Operand.tmp 14), guard := none },
  { dst := some 9, op := SOp.mv (Operand.tmp 15), guard := none }]
def c38_r5 : List SIns := [
  { dst := some 16, op := SOp.mv (Operand.tmp 7), guard := none },
  { dst := some 17, op := SOp.mv (Operand.tmp 9), guard := none },
  { dst := some 18, op := SOp.ib (BinOp.quo) (Operand.const (Value.int (IntKind.i64) 840)) (Operand.tmp 17), guard := none },
  { dst := some 19, op := SOp.mv (Operand.tmp 2), guard := none },
  { dst := some 20, op := SOp.ib (BinOp.mul) (Operand.tmp 18) (Operand.tmp 19), guard := none },
  { dst := some 21, op := SOp.ib (BinOp.add) (Operand.tmp 16) (Operand.tmp 20), guard := none },
  { dst := some 7, op := SOp.mv (Operand.tmp 21), guard := none }]
def c38_r6 : List SIns := [
  { dst := some 22, op := SOp.ib (BinOp.add) (Operand.tmp 12) (Operand.const (Value.int (IntKind.i64) 1)), guard := none },
  { dst := some 12, op := SOp.mv (Operand.tmp 22), guard := none }]
def c38_l0 : SCode := (.seq (.reg c38_r3 [1, 2, 7, 10, 11, 12, 13]) (.seq (.cond (Operand.tmp 13) .skip (.exit 0)) (.seq (.block 1 (.seq (.reg c38_r4 [1, 2, 7, 9, 10, 11, 12]) (.reg c38_r5 [1, 2, 7, 10, 11, 12]))) (.reg c38_r6 [1, 2, 7, 10, 11, 12]))))
def c38_r7 : List SIns := [
  { dst := some 23, op := SOp.mv (Operand.tmp 7), guard := none },
  { dst := some 24, op := SOp.mv (Operand.tmp 1), guard := none },
  { dst := some 25, op := SOp.ib (BinOp.mul) (Operand.const (Value.int (IntKind.i64) 840)) (Operand.tmp 24), guard := none },
  { dst := some 26, op := SOp.ib (BinOp.sub) (Operand.tmp 23) (Operand.tmp 25), guard := none },
  { dst := some 27, op := SOp.big true [Operand.const (Value.int (IntKind.i64) (-1)), Operand.tmp 26], guard := none },
  { dst := some 28, op := SOp.big false [Operand.const (Value.int (IntKind.i64) 1), Operand.tmp 27], guard := none },
  { dst := some 6, op := SOp.mv (Operand.tmp 28), guard := none }]
def c38 : SCode := (.seq (.reg c38_r0 [0, 1, 2]) (.seq (.reg c38_r1 [0, 1, 2, 7]) (.seq (.seq (.reg c38_r2 [1, 2, 7, 10, 11, 12]) (.block 0 (.loop c38_l0))) (.seq (.reg c38_r7 [6]) .ret))))
theorem F38 : Fn Try.prog 38 c38 [SRes.tmp 6] 29 := ⟨Try.f38, Try.f38.body.getD .skip, [[0, 1, 2], [0, 1, 2, 7], [1, 2, 7, 10, 11, 12], [1, 2, 7, 10, 11, 12, 13], [1, 2, 7, 9, 10, 11, 12], [1, 2, 7, 10, 11, 12], [1, 2, 7, 10, 11, 12], [6]], Try.func38, by kernel_rfl, by kernel_rfl, by kernel_rfl, by kernel_rfl, by decide⟩
end Go.Sx.Wk
