/- The codes of the functions, written by a program (Gen.lean), and that they are the functions'. No conditions. -/
import Derived.Test.YtmakepdccccmaaaSxN
import Derived.KernelRfl
import Derived.Test.YtmakepdccccmaaaProg
set_option linter.unusedVariables false
set_option maxRecDepth 100000
namespace Go.Sx.Wk
open Go Go.Sx Go.Proofs

-- 26 bellarmine/bellarmineref08.Left
def c26_r0 : List SIns := [
  { dst := some 4, op := SOp.mv (Operand.const (Value.slice none 0 0)), guard := none },
  { dst := some 5, op := SOp.mv (Operand.const (Value.int (IntKind.i64) 0)), guard := none }]
def c26_r1 : List SIns := [
  { dst := some 11, op := SOp.mv (Operand.tmp 0), guard := none },
  { dst := some 12, op := SOp.mv (Operand.tmp 1), guard := none },
  { dst := some 13, op := SOp.call 63 [Operand.tmp 11, Operand.tmp 12], guard := none },
  { dst := some 6, op := SOp.mv (Operand.tmp 13), guard := none }]
def c26_r2 : List SIns := [
  { dst := some 14, op := SOp.mv (Operand.tmp 6), guard := none },
  { dst := some 15, op := SOp.ib (BinOp.eql) (Operand.tmp 14) (Operand.const (Value.int (IntKind.i64) 0)), guard := none },
  { dst := some 16, op := SOp.mv (Operand.tmp 15), guard := none },
  { dst := some 17, op := SOp.mv (Operand.tmp 0), guard := some (16, true) },
  { dst := some 18, op := SOp.mv (Operand.tmp 1), guard := some (16, true) },
  { dst := some 19, op := SOp.call 64 [Operand.tmp 17, Operand.tmp 18], guard := some (16, true) },
  { dst := some 20, op := SOp.nt (Operand.tmp 19), guard := some (16, true) },
  { dst := some 21, op := SOp.pick (Operand.tmp 16) (Operand.tmp 20) (Operand.const (Value.bool false)), guard := none }]
def c26_r3 : List SIns := [
  { dst := some 6, op := SOp.mv (Operand.const (Value.int (IntKind.i64) 12)), guard := none }]
def c26_r4 : List SIns := [
  { dst := some 22, op := SOp.mv (Operand.tmp 6), guard := none },
  { dst := some 23, op := SOp.ib (BinOp.neq) (Operand.tmp 22) (Operand.const (Value.int (IntKind.i64) 0)), guard := none }]
def c26_r5 : List SIns := [
  { dst := some 24, op := SOp.mv (Operand.tmp 6), guard := none },
  { dst := some 4, op := SOp.mv (Operand.const (Value.slice none 0 0)), guard := none },
  { dst := some 5, op := SOp.mv (Operand.tmp 24), guard := none }]
def c26_r6 : List SIns := [
  { dst := some 7, op := SOp.mv (Operand.const (Value.slice none 0 0)), guard := none }]
def c26_r7 : List SIns := [
  { dst := some 8, op := SOp.mv (Operand.const (Value.int (IntKind.i64) 0)), guard := none }]
def c26_r8 : List SIns := [
  { dst := some 25, op := SOp.mv (Operand.tmp 8), guard := none },
  { dst := some 26, op := SOp.mv (Operand.tmp 0), guard := none },
  { dst := some 27, op := SOp.lenSl (Operand.tmp 26), guard := none },
  { dst := some 28, op := SOp.ib (BinOp.lss) (Operand.tmp 25) (Operand.tmp 27), guard := none }]
def c26_r9 : List SIns := [
  { dst := some 31, op := SOp.mv (Operand.tmp 1), guard := none },
  { dst := some 32, op := SOp.lenSl (Operand.tmp 31), guard := none },
  { dst := some 9, op := SOp.mv (Operand.tmp 32), guard := none }]
def c26_r10 : List SIns := [
  { dst := some 10, op := SOp.mv (Operand.const (Value.int (IntKind.i64) 0)), guard := none }]
def c26_r11 : List SIns := [
  { dst := some 33, op := SOp.mv (Operand.tmp 10), guard := none },
  { dst := some 34, op := SOp.mv (Operand.tmp 1), guard := none },
  { dst := some 35, op := SOp.lenSl (Operand.tmp 34), guard := none },
  { dst := some 36, op := SOp.ib (BinOp.lss) (Operand.tmp 33) (Operand.tmp 35), guard := none }]
def c26_r12 : List SIns := [
  { dst := some 39, op := SOp.mv (Operand.tmp 1), guard := none },
  { dst := some 40, op := SOp.mv (Operand.tmp 10), guard := none },
  { dst := some 41, op := SOp.idx 1 (Operand.tmp 39) (Operand.tmp 40), guard := none },
  { dst := some 42, op := SOp.load1 (Operand.tmp 41), guard := none },
  { dst := some 43, op := SOp.mv (Operand.tmp 8), guard := none },
  { dst := some 44, op := SOp.ib (BinOp.eql) (Operand.tmp 42) (Operand.tmp 43), guard := none }]
def c26_r13 : List SIns := [
  { dst := some 45, op := SOp.mv (Operand.tmp 1), guard := none },
  { dst := some 46, op := SOp.lenSl (Operand.tmp 45), guard := none },
  { dst := some 47, op := SOp.ib (BinOp.sub) (Operand.tmp 46) (Operand.const (Value.int (IntKind.i64) 1)), guard := none },
  { dst := some 48, op := SOp.mv (Operand.tmp 10), guard := none },
  { dst := some 49, op := SOp.ib (BinOp.sub) (Operand.tmp 47) (Operand.tmp 48), guard := none },
  { dst := some 9, op := SOp.mv (Operand.tmp 49), guard := none }]
def c26_r14 : List SIns := [
  { dst := some 37, op := SOp.mv (Operand.tmp 10), guard := none },
  { dst := some 38, op := SOp.ib (BinOp.add) (Operand.tmp 37) (Operand.const (Value.int (IntKind.i64) 1)), guard := none },
  { dst := some 10, op := SOp.mv (Operand.tmp 38), guard := none }]
def c26_l0 : SCode := (.seq (.seq (.reg c26_r11 [0, 1, 7, 8, 9, 10, 36]) (.cond (Operand.tmp 36) .skip (.exit 2))) (.seq (.block 3 (.seq (.reg c26_r12 [0, 1, 7, 8, 9, 10, 44]) (.cond (Operand.tmp 44) (.reg c26_r13 [0, 1, 7, 8, 9, 10]) .skip))) (.reg c26_r14 [0, 1, 7, 8, 9, 10])))
def c26_r15 : List SIns := [
  { dst := some 50, op := SOp.mv (Operand.tmp 7), guard := none },
  { dst := some 51, op := SOp.mv (Operand.tmp 0), guard := none },
  { dst := some 52, op := SOp.mv (Operand.tmp 8), guard := none },
  { dst := some 53, op := SOp.idx 1 (Operand.tmp 51) (Operand.tmp 52), guard := none },
  { dst := some 54, op := SOp.load1 (Operand.tmp 53), guard := none },
  { dst := some 55, op := SOp.mv (Operand.tmp 9), guard := none },
  { dst := some 56, op := SOp.ib (BinOp.sub) (Operand.tmp 54) (Operand.tmp 55), guard := none },
  { dst := some 57, op := SOp.mks 1 1 [Value.int (IntKind.i64) 0] [(0, 1, Operand.tmp 56)], guard := none },
  { dst := some 58, op := SOp.app 1 8 (Operand.tmp 50) (Operand.tmp 57), guard := none },
  { dst := some 7, op := SOp.mv (Operand.tmp 58), guard := none }]
def c26_r16 : List SIns := [
  { dst := some 29, op := SOp.mv (Operand.tmp 8), guard := none },
  { dst := some 30, op := SOp.ib (BinOp.add) (Operand.tmp 29) (Operand.const (Value.int (IntKind.i64) 1)), guard := none },
  { dst := some 8, op := SOp.mv (Operand.tmp 30), guard := none }]
def c26_l1 : SCode := (.seq (.seq (.reg c26_r8 [0, 1, 7, 8, 28]) (.cond (Operand.tmp 28) .skip (.exit 0))) (.seq (.block 1 (.seq (.reg c26_r9 [0, 1, 7, 8, 9]) (.seq (.seq (.reg c26_r10 [0, 1, 7, 8, 9, 10]) (.block 2 (.loop c26_l0))) (.reg c26_r15 [0, 1, 7, 8])))) (.reg c26_r16 [0, 1, 7, 8])))
def c26_r17 : List SIns := [
  { dst := some 59, op := SOp.mv (Operand.tmp 7), guard := none },
  { dst := some 4, op := SOp.mv (Operand.tmp 59), guard := none },
  { dst := some 5, op := SOp.mv (Operand.const (Value.int (IntKind.i64) 0)), guard := none }]
def c26 : SCode := (.seq (.reg c26_r0 [0, 1]) (.seq (.reg c26_r1 [0, 1, 6]) (.seq (.seq (.reg c26_r2 [0, 1, 6, 21]) (.cond (Operand.tmp 21) (.reg c26_r3 [0, 1, 6]) .skip)) (.seq (.seq (.reg c26_r4 [0, 1, 6, 23]) (.cond (Operand.tmp 23) (.seq (.reg c26_r5 [4, 5]) .ret) .skip)) (.seq (.reg c26_r6 [0, 1, 7]) (.seq (.seq (.reg c26_r7 [0, 1, 7, 8]) (.block 0 (.loop c26_l1))) (.seq (.reg c26_r17 [4, 5]) .ret)))))))
theorem F26 : Fn Try.prog 26 c26 [SRes.tmp 4, SRes.tmp 5] 60 := ⟨Try.f26, Try.f26.body.getD .skip, [[0, 1], [0, 1, 6], [0, 1, 6, 21], [0, 1, 6], [0, 1, 6, 23], [4, 5], [0, 1, 7], [0, 1, 7, 8], [0, 1, 7, 8, 28], [0, 1, 7, 8, 9], [0, 1, 7, 8, 9, 10], [0, 1, 7, 8, 9, 10, 36], [0, 1, 7, 8, 9, 10, 44], [0, 1, 7, 8, 9, 10], [0, 1, 7, 8, 9, 10], [0, 1, 7, 8], [0, 1, 7, 8], [4, 5]], Try.func26, by kernel_rfl, by kernel_rfl, by kernel_rfl, by kernel_rfl, by decide⟩

-- 28 bellarmine/bellarmineref08.Goes
def c28_r0 : List SIns := [
  { dst := some 4, op := SOp.mv (Operand.const (Value.bool false)), guard := none },
  { dst := some 5, op := SOp.mv (Operand.const (Value.int (IntKind.i64) 0)), guard := none }]
def c28_r1 : List SIns := [
  { dst := some 11, op := SOp.mv (Operand.tmp 0), guard := none },
  { dst := some 12, op := SOp.mv (Operand.tmp 1), guard := none },
  { dst := some 13, op := SOp.call 26 [Operand.tmp 11, Operand.tmp 12], guard := none },
  { dst := some 10, op := SOp.mv (Operand.tmp 13), guard := none },
  { dst := some 14, op := SOp.ext (Operand.tmp 10) 0, guard := none },
  { dst := some 15, op := SOp.ext (Operand.tmp 10) 1, guard := none },
  { dst := some 6, op := SOp.mv (Operand.tmp 14), guard := none },
  { dst := some 7, op := SOp.mv (Operand.tmp 15), guard := none }]
def c28_r2 : List SIns := [
  { dst := some 16, op := SOp.mv (Operand.tmp 7), guard := none },
  { dst := some 17, op := SOp.ib (BinOp.neq) (Operand.tmp 16) (Operand.const (Value.int (IntKind.i64) 0)), guard := none }]
def c28_r3 : List SIns := [
  { dst := some 18, op := SOp.mv (Operand.tmp 7), guard := none },
  { dst := some 4, op := SOp.mv (Operand.const (Value.bool false)), guard := none },
  { dst := some 5, op := SOp.mv (Operand.tmp 18), guard := none }]
def c28_r4 : List SIns := [
  { dst := some 19, op := SOp.mv (Operand.tmp 0), guard := none },
  { dst := some 20, op := SOp.call 56 [Operand.tmp 19], guard := none },
  { dst := some 21, op := SOp.nt (Operand.tmp 20), guard := none }]
def c28_r5 : List SIns := [
  { dst := some 4, op := SOp.mv (Operand.const (Value.bool false)), guard := none },
  { dst := some 5, op := SOp.mv (Operand.const (Value.int (IntKind.i64) 0)), guard := none }]
def c28_r6 : List SIns := [
  { dst := some 23, op := SOp.mv (Operand.tmp 0), guard := none },
  { dst := some 24, op := SOp.call 57 [Operand.tmp 23], guard := none },
  { dst := some 22, op := SOp.mv (Operand.tmp 24), guard := none },
  { dst := some 25, op := SOp.ext (Operand.tmp 22) 0, guard := none },
  { dst := some 26, op := SOp.ext (Operand.tmp 22) 1, guard := none },
  { dst := some 8, op := SOp.mv (Operand.tmp 25), guard := none },
  { dst := some 9, op := SOp.mv (Operand.tmp 26), guard := none }]
def c28_r7 : List SIns := [
  { dst := some 27, op := SOp.mv (Operand.tmp 8), guard := none },
  { dst := some 28, op := SOp.mv (Operand.tmp 0), guard := none },
  { dst := some 29, op := SOp.mv (Operand.tmp 6), guard := none },
  { dst := some 30, op := SOp.call 65 [Operand.tmp 28, Operand.tmp 29], guard := none },
  { dst := some 31, op := SOp.idx 1 (Operand.tmp 27) (Operand.tmp 30), guard := none },
  { dst := some 32, op := SOp.load1 (Operand.tmp 31), guard := none },
  { dst := some 4, op := SOp.mv (Operand.tmp 32), guard := none },
  { dst := some 5, op := SOp.mv (Operand.const (Value.int (IntKind.i64) 0)), guard := none }]
def c28 : SCode := (.seq (.reg c28_r0 [0, 1]) (.seq (.reg c28_r1 [0, 6, 7]) (.seq (.seq (.reg c28_r2 [0, 6, 7, 17]) (.cond (Operand.tmp 17) (.seq (.reg c28_r3 [4, 5]) .ret) .skip)) (.seq (.seq (.reg c28_r4 [0, 6, 21]) (.cond (Operand.tmp 21) (.seq (.reg c28_r5 [4, 5]) .ret) .skip)) (.seq (.reg c28_r6 [0, 6, 8]) (.seq (.reg c28_r7 [4, 5]) .ret))))))
theorem F28 : Fn Try.prog 28 c28 [SRes.tmp 4, SRes.tmp 5] 33 := ⟨Try.f28, Try.f28.body.getD .skip, [[0, 1], [0, 6, 7], [0, 6, 7, 17], [4, 5], [0, 6, 21], [4, 5], [0, 6, 8], [4, 5]], Try.func28, by kernel_rfl, by kernel_rfl, by kernel_rfl, by kernel_rfl, by decide⟩

-- 31 bellarmine/bellarmineref08.Meets
def c31_r0 : List SIns := [
  { dst := some 4, op := SOp.mv (Operand.const (Value.int (IntKind.i64) 0)), guard := none }]
def c31_r1 : List SIns := [
  { dst := some 8, op := SOp.mv (Operand.tmp 0), guard := none },
  { dst := some 9, op := SOp.call 24 [Operand.tmp 8], guard := none },
  { dst := some 5, op := SOp.mv (Operand.tmp 9), guard := none }]
def c31_r2 : List SIns := [
  { dst := some 10, op := SOp.mv (Operand.tmp 5), guard := none },
  { dst := some 11, op := SOp.ib (BinOp.eql) (Operand.tmp 10) (Operand.const (Value.int (IntKind.i64) 0)), guard := none },
  { dst := some 12, op := SOp.mv (Operand.tmp 11), guard := none },
  { dst := some 13, op := SOp.mv (Operand.tmp 1), guard := some (12, true) },
  { dst := some 14, op := SOp.lenSl (Operand.tmp 13), guard := some (12, true) },
  { dst := some 15, op := SOp.ib (BinOp.eql) (Operand.tmp 14) (Operand.const (Value.int (IntKind.i64) 0)), guard := some (12, true) },
  { dst := some 16, op := SOp.pick (Operand.tmp 12) (Operand.tmp 15) (Operand.const (Value.bool false)), guard := none }]
def c31_r3 : List SIns := [
  { dst := some 5, op := SOp.mv (Operand.const (Value.int (IntKind.i64) 4)), guard := none }]
def c31_r4 : List SIns := [
  { dst := some 17, op := SOp.mv (Operand.tmp 5), guard := none },
  { dst := some 18, op := SOp.ib (BinOp.eql) (Operand.tmp 17) (Operand.const (Value.int (IntKind.i64) 0)), guard := none }]
def c31_r5 : List SIns := [
  { dst := some 19, op := SOp.mv (Operand.tmp 0), guard := none },
  { dst := some 20, op := SOp.mv (Operand.tmp 1), guard := none },
  { dst := some 21, op := SOp.call 63 [Operand.tmp 19, Operand.tmp 20], guard := none },
  { dst := some 5, op := SOp.mv (Operand.tmp 21), guard := none }]
def c31_r6 : List SIns := [
  { dst := some 22, op := SOp.mv (Operand.tmp 5), guard := none },
  { dst := some 23, op := SOp.ib (BinOp.neq) (Operand.tmp 22) (Operand.const (Value.int (IntKind.i64) 0)), guard := none }]
def c31_r7 : List SIns := [
  { dst := some 24, op := SOp.mv (Operand.tmp 5), guard := none },
  { dst := some 4, op := SOp.mv (Operand.tmp 24), guard := none }]
def c31_r8 : List SIns := [
  { dst := some 6, op := SOp.mv (Operand.const (Value.slice none 0 0)), guard := none }]
def c31_r9 : List SIns := [
  { dst := some 7, op := SOp.mv (Operand.const (Value.int (IntKind.i64) 0)), guard := none }]
def c31_r10 : List SIns := [
  { dst := some 25, op := SOp.mv (Operand.tmp 7), guard := none },
  { dst := some 26, op := SOp.ib (BinOp.lss) (Operand.tmp 25) (Operand.const (Value.int (IntKind.i64) 9)), guard := none }]
def c31_r11 : List SIns := [
  { dst := some 29, op := SOp.mv (Operand.tmp 6), guard := none },
  { dst := some 30, op := SOp.mv (Operand.tmp 1), guard := none },
  { dst := some 31, op := SOp.app 1 8 (Operand.tmp 29) (Operand.tmp 30), guard := none },
  { dst := some 6, op := SOp.mv (Operand.tmp 31), guard := none }]
def c31_r12 : List SIns := [
  { dst := some 27, op := SOp.mv (Operand.tmp 7), guard := none },
  { dst := some 28, op := SOp.ib (BinOp.add) (Operand.tmp 27) (Operand.const (Value.int (IntKind.i64) 1)), guard := none },
  { dst := some 7, op := SOp.mv (Operand.tmp 28), guard := none }]
def c31_l0 : SCode := (.seq (.seq (.reg c31_r10 [0, 1, 6, 7, 26]) (.cond (Operand.tmp 26) .skip (.exit 0))) (.seq (.block 1 (.reg c31_r11 [0, 1, 6, 7])) (.reg c31_r12 [0, 1, 6, 7])))
def c31_r13 : List SIns := [
  { dst := some 32, op := SOp.mv (Operand.tmp 0), guard := none },
  { dst := some 33, op := SOp.mv (Operand.tmp 6), guard := none },
  { dst := some 34, op := SOp.call 64 [Operand.tmp 32, Operand.tmp 33], guard := none },
  { dst := some 35, op := SOp.nt (Operand.tmp 34), guard := none }]
def c31_r14 : List SIns := [
  { dst := some 4, op := SOp.mv (Operand.const (Value.int (IntKind.i64) 14)), guard := none }]
def c31_r15 : List SIns := [
  { dst := some 4, op := SOp.mv (Operand.const (Value.int (IntKind.i64) 0)), guard := none }]
def c31 : SCode := (.seq (.reg c31_r0 [0, 1]) (.seq (.reg c31_r1 [0, 1, 5]) (.seq (.seq (.reg c31_r2 [0, 1, 5, 16]) (.cond (Operand.tmp 16) (.reg c31_r3 [0, 1, 5]) .skip)) (.seq (.seq (.reg c31_r4 [0, 1, 5, 18]) (.cond (Operand.tmp 18) (.reg c31_r5 [0, 1, 5]) .skip)) (.seq (.seq (.reg c31_r6 [0, 1, 5, 23]) (.cond (Operand.tmp 23) (.seq (.reg c31_r7 [4]) .ret) .skip)) (.seq (.reg c31_r8 [0, 1, 6]) (.seq (.seq (.reg c31_r9 [0, 1, 6, 7]) (.block 0 (.loop c31_l0))) (.seq (.seq (.reg c31_r13 [35]) (.cond (Operand.tmp 35) (.seq (.reg c31_r14 [4]) .ret) .skip)) (.seq (.reg c31_r15 [4]) .ret)))))))))
theorem F31 : Fn Try.prog 31 c31 [SRes.tmp 4] 36 := ⟨Try.f31, Try.f31.body.getD .skip, [[0, 1], [0, 1, 5], [0, 1, 5, 16], [0, 1, 5], [0, 1, 5, 18], [0, 1, 5], [0, 1, 5, 23], [4], [0, 1, 6], [0, 1, 6, 7], [0, 1, 6, 7, 26], [0, 1, 6, 7], [0, 1, 6, 7], [35], [4], [4]], Try.func31, by kernel_rfl, by kernel_rfl, by kernel_rfl, by kernel_rfl, by decide⟩

-- 33 bellarmine/bellarmineref08.Walk
def c33_r0 : List SIns := [
  { dst := some 4, op := SOp.mv (Operand.const (Value.slice none 0 0)), guard := none },
  { dst := some 5, op := SOp.mv (Operand.const (Value.int (IntKind.i64) 0)), guard := none }]
def c33_r1 : List SIns := [
  { dst := some 13, op := SOp.mv (Operand.tmp 0), guard := none },
  { dst := some 14, op := SOp.call 24 [Operand.tmp 13], guard := none },
  { dst := some 6, op := SOp.mv (Operand.tmp 14), guard := none }]
def c33_r2 : List SIns := [
  { dst := some 15, op := SOp.mv (Operand.tmp 6), guard := none },
  { dst := some 16, op := SOp.ib (BinOp.eql) (Operand.tmp 15) (Operand.const (Value.int (IntKind.i64) 0)), guard := none },
  { dst := some 17, op := SOp.mv (Operand.tmp 16), guard := none },
  { dst := some 18, op := SOp.mv (Operand.tmp 1), guard := some (17, true) },
  { dst := some 19, op := SOp.call 61 [Operand.tmp 18, Operand.const (Value.int (IntKind.i64) 0), Operand.const (Value.int (IntKind.i64) 60)], guard := some (17, true) },
  { dst := some 20, op := SOp.nt (Operand.tmp 19), guard := some (17, true) },
  { dst := some 21, op := SOp.pick (Operand.tmp 17) (Operand.tmp 20) (Operand.const (Value.bool false)), guard := none }]
def c33_r3 : List SIns := [
  { dst := some 6, op := SOp.mv (Operand.const (Value.int (IntKind.i64) 1)), guard := none }]
def c33_r4 : List SIns := [
  { dst := some 22, op := SOp.mv (Operand.tmp 6), guard := none },
  { dst := some 23, op := SOp.ib (BinOp.eql) (Operand.tmp 22) (Operand.const (Value.int (IntKind.i64) 0)), guard := none },
  { dst := some 24, op := SOp.mv (Operand.tmp 23), guard := none },
  { dst := some 25, op := SOp.mv (Operand.tmp 0), guard := some (24, true) },
  { dst := some 26, op := SOp.call 56 [Operand.tmp 25], guard := some (24, true) },
  { dst := some 27, op := SOp.nt (Operand.tmp 26), guard := some (24, true) },
  { dst := some 28, op := SOp.pick (Operand.tmp 24) (Operand.tmp 27) (Operand.const (Value.bool false)), guard := none }]
def c33_r5 : List SIns := [
  { dst := some 6, op := SOp.mv (Operand.const (Value.int (IntKind.i64) 12)), guard := none }]
def c33_r6 : List SIns := [
  { dst := some 29, op := SOp.mv (Operand.tmp 6), guard := none },
  { dst := some 30, op := SOp.ib (BinOp.neq) (Operand.tmp 29) (Operand.const (Value.int (IntKind.i64) 0)), guard := none }]
def c33_r7 : List SIns := [
  { dst := some 31, op := SOp.mv (Operand.tmp 6), guard := none },
  { dst := some 4, op := SOp.mv (Operand.const (Value.slice none 0 0)), guard := none },
  { dst := some 5, op := SOp.mv (Operand.tmp 31), guard := none }]
def c33_r8 : List SIns := [
  { dst := some 33, op := SOp.mv (Operand.tmp 0), guard := none },
  { dst := some 34, op := SOp.call 57 [Operand.tmp 33], guard := none },
  { dst := some 32, op := SOp.mv (Operand.tmp 34), guard := none },
  { dst := some 35, op := SOp.ext (Operand.tmp 32) 0, guard := none },
  { dst := some 36, op := SOp.ext (Operand.tmp 32) 1, guard := none },
  { dst := some 7, op := SOp.mv (Operand.tmp 35), guard := none },
  { dst := some 8, op := SOp.mv (Operand.tmp 36), guard := none }]
def c33_r9 : List SIns := [
  { dst := some 37, op := SOp.mv (Operand.tmp 0), guard := none },
  { dst := some 9, op := SOp.mv (Operand.tmp 37), guard := none }]
def c33_r10 : List SIns := [
  { dst := some 10, op := SOp.mv (Operand.const (Value.slice none 0 0)), guard := none }]
def c33_r11 : List SIns := [
  { dst := some 38, op := SOp.mv (Operand.tmp 10), guard := none },
  { dst := some 39, op := SOp.lenSl (Operand.tmp 38), guard := none },
  { dst := some 40, op := SOp.mv (Operand.tmp 1), guard := none },
  { dst := some 41, op := SOp.ib (BinOp.lss) (Operand.tmp 39) (Operand.tmp 40), guard := none }]
def c33_r12 : List SIns := [
  { dst := some 43, op := SOp.mv (Operand.tmp 0), guard := none },
  { dst := some 44, op := SOp.mv (Operand.tmp 9), guard := none },
  { dst := some 45, op := SOp.mv (Operand.tmp 7), guard := none },
  { dst := some 46, op := SOp.call 69 [Operand.tmp 43, Operand.tmp 44, Operand.tmp 45], guard := none },
  { dst := some 42, op := SOp.mv (Operand.tmp 46), guard := none },
  { dst := some 47, op := SOp.ext (Operand.tmp 42) 0, guard := none },
  { dst := some 48, op := SOp.ext (Operand.tmp 42) 1, guard := none },
  { dst := some 11, op := SOp.mv (Operand.tmp 47), guard := none },
  { dst := some 12, op := SOp.mv (Operand.tmp 48), guard := none }]
def c33_r13 : List SIns := [
  { dst := some 49, op := SOp.mv (Operand.tmp 10), guard := none },
  { dst := some 50, op := SOp.mv (Operand.tmp 11), guard := none },
  { dst := some 51, op := SOp.mks 1 1 [Value.int (IntKind.i64) 0] [(0, 1, Operand.tmp 50)], guard := none },
  { dst := some 52, op := SOp.app 1 8 (Operand.tmp 49) (Operand.tmp 51), guard := none },
  { dst := some 10, op := SOp.mv (Operand.tmp 52), guard := none }]
def c33_r14 : List SIns := [
  { dst := some 53, op := SOp.mv (Operand.tmp 12), guard := none },
  { dst := some 9, op := SOp.mv (Operand.tmp 53), guard := none }]
def c33_l0 : SCode := (.seq (.seq (.reg c33_r11 [0, 1, 7, 9, 10, 41]) (.cond (Operand.tmp 41) .skip (.exit 0))) (.block 1 (.seq (.reg c33_r12 [0, 1, 7, 10, 11, 12]) (.seq (.reg c33_r13 [0, 1, 7, 10, 12]) (.reg c33_r14 [0, 1, 7, 9, 10])))))
def c33_r15 : List SIns := [
  { dst := some 54, op := SOp.mv (Operand.tmp 10), guard := none },
  { dst := some 4, op := SOp.mv (Operand.tmp 54), guard := none },
  { dst := some 5, op := SOp.mv (Operand.const (Value.int (IntKind.i64) 0)), guard := none }]
def c33 : SCode := (.seq (.reg c33_r0 [0, 1]) (.seq (.reg c33_r1 [0, 1, 6]) (.seq (.seq (.reg c33_r2 [0, 1, 6, 21]) (.cond (Operand.tmp 21) (.reg c33_r3 [0, 1, 6]) .skip)) (.seq (.seq (.reg c33_r4 [0, 1, 6, 28]) (.cond (Operand.tmp 28) (.reg c33_r5 [0, 1, 6]) .skip)) (.seq (.seq (.reg c33_r6 [0, 1, 6, 30]) (.cond (Operand.tmp 30) (.seq (.reg c33_r7 [4, 5]) .ret) .skip)) (.seq (.reg c33_r8 [0, 1, 7]) (.seq (.reg c33_r9 [0, 1, 7, 9]) (.seq (.reg c33_r10 [0, 1, 7, 9, 10]) (.seq (.block 0 (.loop c33_l0)) (.seq (.reg c33_r15 [4, 5]) .ret))))))))))
theorem F33 : Fn Try.prog 33 c33 [SRes.tmp 4, SRes.tmp 5] 55 := ⟨Try.f33, Try.f33.body.getD .skip, [[0, 1], [0, 1, 6], [0, 1, 6, 21], [0, 1, 6], [0, 1, 6, 28], [0, 1, 6], [0, 1, 6, 30], [4, 5], [0, 1, 7], [0, 1, 7, 9], [0, 1, 7, 9, 10], [0, 1, 7, 9, 10, 41], [0, 1, 7, 10, 11, 12], [0, 1, 7, 10, 12], [0, 1, 7, 9, 10], [4, 5]], Try.func33, by kernel_rfl, by kernel_rfl, by kernel_rfl, by kernel_rfl, by decide⟩

-- 35 bellarmine/bellarmineref08.Loop
def c35_r0 : List SIns := [
  { dst := some 2, op := SOp.mv (Operand.const (Value.slice none 0 0)), guard := none },
  { dst := some 3, op := SOp.mv (Operand.const (Value.slice none 0 0)), guard := none },
  { dst := some 4, op := SOp.mv (Operand.const (Value.int (IntKind.i64) 0)), guard := none }]
def c35_r1 : List SIns := [
  { dst := some 14, op := SOp.mv (Operand.tmp 0), guard := none },
  { dst := some 15, op := SOp.call 24 [Operand.tmp 14], guard := none },
  { dst := some 5, op := SOp.mv (Operand.tmp 15), guard := none }]
def c35_r2 : List SIns := [
  { dst := some 16, op := SOp.mv (Operand.tmp 5), guard := none },
  { dst := some 17, op := SOp.ib (BinOp.eql) (Operand.tmp 16) (Operand.const (Value.int (IntKind.i64) 0)), guard := none },
  { dst := some 18, op := SOp.mv (Operand.tmp 17), guard := none },
  { dst := some 19, op := SOp.mv (Operand.tmp 0), guard := some (18, true) },
  { dst := some 20, op := SOp.call 56 [Operand.tmp 19], guard := some (18, true) },
  { dst := some 21, op := SOp.nt (Operand.tmp 20), guard := some (18, true) },
  { dst := some 22, op := SOp.pick (Operand.tmp 18) (Operand.tmp 21) (Operand.const (Value.bool false)), guard := none }]
def c35_r3 : List SIns := [
  { dst := some 5, op := SOp.mv (Operand.const (Value.int (IntKind.i64) 12)), guard := none }]
def c35_r4 : List SIns := [
  { dst := some 23, op := SOp.mv (Operand.tmp 5), guard := none },
  { dst := some 24, op := SOp.ib (BinOp.neq) (Operand.tmp 23) (Operand.const (Value.int (IntKind.i64) 0)), guard := none }]
def c35_r5 : List SIns := [
  { dst := some 25, op := SOp.mv (Operand.tmp 5), guard := none },
  { dst := some 2, op := SOp.mv (Operand.const (Value.slice none 0 0)), guard := none },
  { dst := some 3, op := SOp.mv (Operand.const (Value.slice none 0 0)), guard := none },
  { dst := some 4, op := SOp.mv (Operand.tmp 25), guard := none }]
def c35_r6 : List SIns := [
  { dst := some 27, op := SOp.mv (Operand.tmp 0), guard := none },
  { dst := some 28, op := SOp.call 57 [Operand.tmp 27], guard := none },
  { dst := some 26, op := SOp.mv (Operand.tmp 28), guard := none },
  { dst := some 29, op := SOp.ext (Operand.tmp 26) 0, guard := none },
  { dst := some 30, op := SOp.ext (Operand.tmp 26) 1, guard := none },
  { dst := some 6, op := SOp.mv (Operand.tmp 29), guard := none },
  { dst := some 7, op := SOp.mv (Operand.tmp 30), guard := none }]
def c35_r7 : List SIns := [
  { dst := some 31, op := SOp.mv (Operand.tmp 0), guard := none },
  { dst := some 8, op := SOp.mv (Operand.tmp 31), guard := none }]
def c35_r8 : List SIns := [
  { dst := some 9, op := SOp.mv (Operand.const (Value.slice none 0 0)), guard := none },
  { dst := some 10, op := SOp.mv (Operand.const (Value.slice none 0 0)), guard := none }]
def c35_r9 : List SIns := [
  { dst := some 32, op := SOp.mv (Operand.tmp 10), guard := none },
  { dst := some 33, op := SOp.mv (Operand.tmp 0), guard := none },
  { dst := some 34, op := SOp.mv (Operand.tmp 8), guard := none },
  { dst := some 35, op := SOp.call 65 [Operand.tmp 33, Operand.tmp 34], guard := none },
  { dst := some 36, op := SOp.mks 1 1 [Value.int (IntKind.i64) 0] [(0, 1, Operand.tmp 35)], guard := none },
  { dst := some 37, op := SOp.app 1 8 (Operand.tmp 32) (Operand.tmp 36), guard := none },
  { dst := some 10, op := SOp.mv (Operand.tmp 37), guard := none }]
def c35_r10 : List SIns := [
  { dst := some 39, op := SOp.mv (Operand.tmp 0), guard := none },
  { dst := some 40, op := SOp.mv (Operand.tmp 8), guard := none },
  { dst := some 41, op := SOp.mv (Operand.tmp 6), guard := none },
  { dst := some 42, op := SOp.call 69 [Operand.tmp 39, Operand.tmp 40, Operand.tmp 41], guard := none },
  { dst := some 38, op := SOp.mv (Operand.tmp 42), guard := none },
  { dst := some 43, op := SOp.ext (Operand.tmp 38) 0, guard := none },
  { dst := some 44, op := SOp.ext (Operand.tmp 38) 1, guard := none },
  { dst := some 11, op := SOp.mv (Operand.tmp 43), guard := none },
  { dst := some 12, op := SOp.mv (Operand.tmp 44), guard := none }]
def c35_r11 : List SIns := [
  { dst := some 45, op := SOp.mv (Operand.tmp 9), guard := none },
  { dst := some 46, op := SOp.mv (Operand.tmp 11), guard := none },
  { dst := some 47, op := SOp.mks 1 1 [Value.int (IntKind.i64) 0] [(0, 1, Operand.tmp 46)], guard := none },
  { dst := some 48, op := SOp.app 1 8 (Operand.tmp 45) (Operand.tmp 47), guard := none },
  { dst := some 9, op := SOp.mv (Operand.tmp 48), guard := none }]
def c35_r12 : List SIns := [
  { dst := some 49, op := SOp.mv (Operand.tmp 12), guard := none },
  { dst := some 8, op := SOp.mv (Operand.tmp 49), guard := none }]
def c35_r13 : List SIns := [
  { dst := some 13, op := SOp.mv (Operand.const (Value.int (IntKind.i64) 0)), guard := none }]
def c35_r14 : List SIns := [
  { dst := some 50, op := SOp.mv (Operand.tmp 13), guard := none },
  { dst := some 51, op := SOp.mv (Operand.tmp 10), guard := none },
  { dst := some 52, op := SOp.lenSl (Operand.tmp 51), guard := none },
  { dst := some 53, op := SOp.ib (BinOp.lss) (Operand.tmp 50) (Operand.tmp 52), guard := none }]
def c35_r15 : List SIns := [
  { dst := some 56, op := SOp.mv (Operand.tmp 10), guard := none },
  { dst := some 57, op := SOp.mv (Operand.tmp 13), guard := none },
  { dst := some 58, op := SOp.idx 1 (Operand.tmp 56) (Operand.tmp 57), guard := none },
  { dst := some 59, op := SOp.load1 (Operand.tmp 58), guard := none },
  { dst := some 60, op := SOp.mv (Operand.tmp 0), guard := none },
  { dst := some 61, op := SOp.mv (Operand.tmp 8), guard := none },
  { dst := some 62, op := SOp.call 65 [Operand.tmp 60, Operand.tmp 61], guard := none },
  { dst := some 63, op := SOp.ib (BinOp.eql) (Operand.tmp 59) (Operand.tmp 62), guard := none }]
def c35_r16 : List SIns := [
  { dst := some 64, op := SOp.mv (Operand.tmp 9), guard := none },
  { dst := some 65, op := SOp.mv (Operand.tmp 13), guard := none },
  { dst := some 66, op := SOp.slc 1 (Operand.tmp 64) none (some (Operand.tmp 65)) none, guard := none },
  { dst := some 67, op := SOp.mv (Operand.tmp 9), guard := none },
  { dst := some 68, op := SOp.mv (Operand.tmp 13), guard := none },
  { dst := some 69, op := SOp.slc 1 (Operand.tmp 67) (some (Operand.tmp 68)) none none, guard := none },
  { dst := some 2, op := SOp.mv (Operand.tmp 66), guard := none },
  { dst := some 3, op := SOp.mv (Operand.tmp 69), guard := none },
  { dst := some 4, op := SOp.mv (Operand.const (Value.int (IntKind.i64) 0)), guard := none }]
def c35_r17 : List SIns := [
  { dst := some 54, op := SOp.mv (Operand.tmp 13), guard := none },
  { dst := some 55, op := SOp.ib (BinOp.add) (Operand.tmp 54) (Operand.const (Value.int (IntKind.i64) 1)), guard := none },
  { dst := some 13, op := SOp.mv (Operand.tmp 55), guard := none }]
def c35_l0 : SCode := (.seq (.seq (.reg c35_r14 [0, 6, 8, 9, 10, 13, 53]) (.cond (Operand.tmp 53) .skip (.exit 2))) (.seq (.block 3 (.seq (.draw c35_r15 [[], [], [0, 1], [2, 0, 1], [], [], [4, 5], [3, 6, 2, 0, 1, 4, 5]] [0, 6, 8, 9, 10, 13, 63]) (.cond (Operand.tmp 63) (.seq (.draw c35_r16 [[], [], [0, 1], [], [], [3, 4], [2, 0, 1, 2, 0, 1, 0, 1], [5, 6, 0, 1, 2, 3, 4, 5, 6, 3, 4, 2, 0, 1, 2, 0, 1, 0, 1, 0, 1, 3, 4, 2, 0, 1, 2, 0, 1, 0, 1], [7, 0, 1, 2, 3, 4, 5, 6, 7, 5, 6, 0, 1, 2, 3, 4, 5, 6, 3, 4, 2, 0, 1, 2, 0, 1, 0, 1, 0, 1, 3, 4, 2, 0, 1, 2, 0, 1, 0, 1, 0, 1, 3, 4, 2, 0, 1, 2, 0, 1, 0, 1, 5, 6, 0, 1, 2, 3, 4, 5, 6, 3, 4, 2, 0, 1, 2, 0, 1, 0, 1, 0, 1, 3, 4, 2, 0, 1, 2, 0, 1, 0, 1]] [2, 3, 4]) .ret) .skip))) (.reg c35_r17 [0, 6, 8, 9, 10, 13])))
def c35_l1 : SCode := (.block 1 (.seq (.reg c35_r9 [0, 6, 8, 9, 10]) (.seq (.reg c35_r10 [0, 6, 9, 10, 11, 12]) (.seq (.reg c35_r11 [0, 6, 9, 10, 12]) (.seq (.reg c35_r12 [0, 6, 8, 9, 10]) (.seq (.reg c35_r13 [0, 6, 8, 9, 10, 13]) (.block 2 (.loop c35_l0))))))))
def c35 : SCode := (.seq (.reg c35_r0 [0]) (.seq (.reg c35_r1 [0, 5]) (.seq (.seq (.reg c35_r2 [0, 5, 22]) (.cond (Operand.tmp 22) (.reg c35_r3 [0, 5]) .skip)) (.seq (.seq (.reg c35_r4 [0, 5, 24]) (.cond (Operand.tmp 24) (.seq (.reg c35_r5 [2, 3, 4]) .ret) .skip)) (.seq (.reg c35_r6 [0, 6]) (.seq (.reg c35_r7 [0, 6, 8]) (.seq (.reg c35_r8 [0, 6, 8, 9, 10]) (.block 0 (.loop c35_l1)))))))))
theorem F35 : Fn Try.prog 35 c35 [SRes.tmp 2, SRes.tmp 3, SRes.tmp 4] 70 := ⟨Try.f35, Try.f35.body.getD .skip, [[0], [0, 5], [0, 5, 22], [0, 5], [0, 5, 24], [2, 3, 4], [0, 6], [0, 6, 8], [0, 6, 8, 9, 10], [0, 6, 8, 9, 10], [0, 6, 9, 10, 11, 12], [0, 6, 9, 10, 12], [0, 6, 8, 9, 10], [0, 6, 8, 9, 10, 13], [0, 6, 8, 9, 10, 13, 53], [0, 6, 8, 9, 10, 13, 63], [2, 3, 4], [0, 6, 8, 9, 10, 13]], Try.func35, by kernel_rfl, by kernel_rfl, by kernel_rfl, by kernel_rfl, by decide⟩

-- 37 bellarmine/bellarmineref08.Groups
def c37_r0 : List SIns := [
  { dst := some 2, op := SOp.mv (Operand.const (Value.slice none 0 0)), guard := none },
  { dst := some 3, op := SOp.mv (Operand.const (Value.int (IntKind.i64) 0)), guard := none }]
def c37_r1 : List SIns := [
  { dst := some 14, op := SOp.mv (Operand.tmp 0), guard := none },
  { dst := some 15, op := SOp.call 24 [Operand.tmp 14], guard := none },
  { dst := some 4, op := SOp.mv (Operand.tmp 15), guard := none }]
def c37_r2 : List SIns := [
  { dst := some 16, op := SOp.mv (Operand.tmp 4), guard := none },
  { dst := some 17, op := SOp.ib (BinOp.neq) (Operand.tmp 16) (Operand.const (Value.int (IntKind.i64) 0)), guard := none }]
def c37_r3 : List SIns := [
  { dst := some 18, op := SOp.mv (Operand.tmp 4), guard := none },
  { dst := some 2, op := SOp.mv (Operand.const (Value.slice none 0 0)), guard := none },
  { dst := some 3, op := SOp.mv (Operand.tmp 18), guard := none }]
def c37_r4 : List SIns := [
  { dst := some 5, op := SOp.mv (Operand.const (Value.slice none 0 0)), guard := none }]
def c37_r5 : List SIns := [
  { dst := some 19, op := SOp.mv (Operand.tmp 0), guard := none },
  { dst := some 20, op := SOp.lenSl (Operand.tmp 19), guard := none },
  { dst := some 21, op := SOp.ib (BinOp.add) (Operand.tmp 20) (Operand.const (Value.int (IntKind.i64) 1)), guard := none },
  { dst := some 6, op := SOp.mv (Operand.tmp 21), guard := none }]
def c37_r6 : List SIns := [
  { dst := some 22, op := SOp.mv (Operand.tmp 0), guard := none },
  { dst := some 23, op := SOp.lenSl (Operand.tmp 22), guard := none },
  { dst := some 24, op := SOp.call 71 [Operand.tmp 23, Operand.const (Value.slice none 0 0), Operand.const (Value.int (IntKind.i64) 0)], guard := none },
  { dst := some 7, op := SOp.mv (Operand.tmp 24), guard := none }]
def c37_r7 : List SIns := [
  { dst := some 8, op := SOp.mv (Operand.const (Value.int (IntKind.i64) 0)), guard := none }]
def c37_r8 : List SIns := [
  { dst := some 25, op := SOp.mv (Operand.tmp 8), guard := none },
  { dst := some 26, op := SOp.mv (Operand.tmp 7), guard := none },
  { dst := some 27, op := SOp.lenSl (Operand.tmp 26), guard := none },
  { dst := some 28, op := SOp.ib (BinOp.lss) (Operand.tmp 25) (Operand.tmp 27), guard := none }]
def c37_r9 : List SIns := [
  { dst := some 9, op := SOp.mv (Operand.const (Value.int (IntKind.i64) 0)), guard := none }]
def c37_r10 : List SIns := [
  { dst := some 10, op := SOp.mv (Operand.const (Value.bool true)), guard := none }]
def c37_r11 : List SIns := [
  { dst := some 11, op := SOp.mv (Operand.const (Value.int (IntKind.i64) 0)), guard := none }]
def c37_r12 : List SIns := [
  { dst := some 31, op := SOp.mv (Operand.tmp 11), guard := none },
  { dst := some 32, op := SOp.mv (Operand.tmp 0), guard := none },
  { dst := some 33, op := SOp.lenSl (Operand.tmp 32), guard := none },
  { dst := some 34, op := SOp.ib (BinOp.lss) (Operand.tmp 31) (Operand.tmp 33), guard := none }]
def c37_r13 : List SIns := [
  { dst := some 12, op := SOp.mv (Operand.const (Value.slice none 0 0)), guard := none }]
def c37_r14 : List SIns := [
  { dst := some 13, op := SOp.mv (Operand.const (Value.int (IntKind.i64) 0)), guard := none }]
def c37_r15 : List SIns := [
  { dst := some 37, op := SOp.mv (Operand.tmp 13), guard := none },
  { dst := some 38, op := SOp.mv (Operand.tmp 0), guard := none },
  { dst := some 39, op := SOp.lenSl (Operand.tmp 38), guard := none },
  { dst := some 40, op := SOp.ib (BinOp.lss) (Operand.tmp 37) (Operand.tmp 39), guard := none }]
def c37_r16 : List SIns := [
  { dst := some 43, op := SOp.mv (Operand.tmp 7), guard := none },
  { dst := some 44, op := SOp.mv (Operand.tmp 8), guard := none },
  { dst := some 45, op := SOp.idx 1 (Operand.tmp 43) (Operand.tmp 44), guard := none },
  { dst := some 46, op := SOp.load1 (Operand.tmp 45), guard := none },
  { dst := some 47, op := SOp.mv (Operand.tmp 13), guard := none },
  { dst := some 48, op := SOp.idx 1 (Operand.tmp 46) (Operand.tmp 47), guard := none },
  { dst := some 49, op := SOp.load1 (Operand.tmp 48), guard := none },
  { dst := some 50, op := SOp.mv (Operand.tmp 11), guard := none },
  { dst := some 51, op := SOp.ib (BinOp.eql) (Operand.tmp 49) (Operand.tmp 50), guard := none }]
def c37_r17 : List SIns := [
  { dst := some 52, op := SOp.mv (Operand.tmp 12), guard := none },
  { dst := some 53, op := SOp.mv (Operand.tmp 0), guard := none },
  { dst := some 54, op := SOp.mv (Operand.tmp 13), guard := none },
  { dst := some 55, op := SOp.idx 1 (Operand.tmp 53) (Operand.tmp 54), guard := none },
  { dst := some 56, op := SOp.load1 (Operand.tmp 55), guard := none },
  { dst := some 57, op := SOp.mks 1 1 [Value.int (IntKind.i64) 0] [(0, 1, Operand.tmp 56)], guard := none },
  { dst := some 58, op := SOp.app 1 8 (Operand.tmp 52) (Operand.tmp 57), guard := none },
  { dst := some 12, op := SOp.mv (Operand.tmp 58), guard := none }]
def c37_r18 : List SIns := [
  { dst := some 41, op := SOp.mv (Operand.tmp 13), guard := none },
  { dst := some 42, op := SOp.ib (BinOp.add) (Operand.tmp 41) (Operand.const (Value.int (IntKind.i64) 1)), guard := none },
  { dst := some 13, op := SOp.mv (Operand.tmp 42), guard := none }]
def c37_l0 : SCode := (.seq (.seq (.reg c37_r15 [0, 5, 6, 7, 8, 9, 10, 11, 12, 13, 40]) (.cond (Operand.tmp 40) .skip (.exit 4))) (.seq (.block 5 (.seq (.reg c37_r16 [0, 5, 6, 7, 8, 9, 10, 11, 12, 13, 51]) (.cond (Operand.tmp 51) (.reg c37_r17 [0, 5, 6, 7, 8, 9, 10, 11, 12, 13]) .skip))) (.reg c37_r18 [0, 5, 6, 7, 8, 9, 10, 11, 12, 13])))
def c37_r19 : List SIns := [
  { dst := some 59, op := SOp.mv (Operand.tmp 12), guard := none },
  { dst := some 60, op := SOp.lenSl (Operand.tmp 59), guard := none },
  { dst := some 61, op := SOp.ib (BinOp.gtr) (Operand.tmp 60) (Operand.const (Value.int (IntKind.i64) 0)), guard := none }]
def c37_r20 : List SIns := [
  { dst := some 62, op := SOp.mv (Operand.tmp 9), guard := none },
  { dst := some 63, op := SOp.ib (BinOp.add) (Operand.tmp 62) (Operand.const (Value.int (IntKind.i64) 1)), guard := none },
  { dst := some 9, op := SOp.mv (Operand.tmp 63), guard := none }]
def c37_r21 : List SIns := [
  { dst := some 64, op := SOp.mv (Operand.tmp 10), guard := none },
  { dst := some 65, op := SOp.mv (Operand.tmp 64), guard := none },
  { dst := some 66, op := SOp.mv (Operand.tmp 12), guard := some (65, true) },
  { dst := some 67, op := SOp.call 56 [Operand.tmp 66], guard := some (65, true) },
  { dst := some 68, op := SOp.pick (Operand.tmp 65) (Operand.tmp 67) (Operand.const (Value.bool false)), guard := none },
  { dst := some 10, op := SOp.mv (Operand.tmp 68), guard := none }]
def c37_r22 : List SIns := [
  { dst := some 35, op := SOp.mv (Operand.tmp 11), guard := none },
  { dst := some 36, op := SOp.ib (BinOp.add) (Operand.tmp 35) (Operand.const (Value.int (IntKind.i64) 1)), guard := none },
  { dst := some 11, op := SOp.mv (Operand.tmp 36), guard := none }]
def c37_l1 : SCode := (.seq (.seq (.reg c37_r12 [0, 5, 6, 7, 8, 9, 10, 11, 34]) (.cond (Operand.tmp 34) .skip (.exit 2))) (.seq (.block 3 (.seq (.reg c37_r13 [0, 5, 6, 7, 8, 9, 10, 11, 12]) (.seq (.seq (.reg c37_r14 [0, 5, 6, 7, 8, 9, 10, 11, 12, 13]) (.block 4 (.loop c37_l0))) (.seq (.reg c37_r19 [0, 5, 6, 7, 8, 9, 10, 11, 12, 61]) (.cond (Operand.tmp 61) (.seq (.reg c37_r20 [0, 5, 6, 7, 8, 9, 10, 11, 12]) (.reg c37_r21 [0, 5, 6, 7, 8, 9, 10, 11])) .skip))))) (.reg c37_r22 [0, 5, 6, 7, 8, 9, 10, 11])))
def c37_r23 : List SIns := [
  { dst := some 69, op := SOp.mv (Operand.tmp 10), guard := none },
  { dst := some 70, op := SOp.mv (Operand.tmp 69), guard := none },
  { dst := some 71, op := SOp.mv (Operand.tmp 9), guard := some (70, true) },
  { dst := some 72, op := SOp.mv (Operand.tmp 6), guard := some (70, true) },
  { dst := some 73, op := SOp.ib (BinOp.lss) (Operand.tmp 71) (Operand.tmp 72), guard := some (70, true) },
  { dst := some 74, op := SOp.pick (Operand.tmp 70) (Operand.tmp 73) (Operand.const (Value.bool false)), guard := none }]
def c37_r24 : List SIns := [
  { dst := some 75, op := SOp.mv (Operand.tmp 7), guard := none },
  { dst := some 76, op := SOp.mv (Operand.tmp 8), guard := none },
  { dst := some 77, op := SOp.idx 1 (Operand.tmp 75) (Operand.tmp 76), guard := none },
  { dst := some 78, op := SOp.load1 (Operand.tmp 77), guard := none },
  { dst := some 79, op := SOp.mv (Operand.tmp 9), guard := none },
  { dst := some 5, op := SOp.mv (Operand.tmp 78), guard := none },
  { dst := some 6, op := SOp.mv (Operand.tmp 79), guard := none }]
def c37_r25 : List SIns := [
  { dst := some 29, op := SOp.mv (Operand.tmp 8), guard := none },
  { dst := some 30, op := SOp.ib (BinOp.add) (Operand.tmp 29) (Operand.const (Value.int (IntKind.i64) 1)), guard := none },
  { dst := some 8, op := SOp.mv (Operand.tmp 30), guard := none }]
def c37_l2 : SCode := (.seq (.seq (.reg c37_r8 [0, 5, 6, 7, 8, 28]) (.cond (Operand.tmp 28) .skip (.exit 0))) (.seq (.block 1 (.seq (.reg c37_r9 [0, 5, 6, 7, 8, 9]) (.seq (.reg c37_r10 [0, 5, 6, 7, 8, 9, 10]) (.seq (.seq (.reg c37_r11 [0, 5, 6, 7, 8, 9, 10, 11]) (.block 2 (.loop c37_l1))) (.seq (.reg c37_r23 [0, 5, 6, 7, 8, 9, 74]) (.cond (Operand.tmp 74) (.reg c37_r24 [0, 5, 6, 7, 8]) .skip)))))) (.reg c37_r25 [0, 5, 6, 7, 8])))
def c37_r26 : List SIns := [
  { dst := some 80, op := SOp.mv (Operand.tmp 5), guard := none },
  { dst := some 2, op := SOp.mv (Operand.tmp 80), guard := none },
  { dst := some 3, op := SOp.mv (Operand.const (Value.int (IntKind.i64) 0)), guard := none }]
def c37 : SCode := (.seq (.reg c37_r0 [0]) (.seq (.reg c37_r1 [0, 4]) (.seq (.seq (.reg c37_r2 [0, 4, 17]) (.cond (Operand.tmp 17) (.seq (.reg c37_r3 [2, 3]) .ret) .skip)) (.seq (.reg c37_r4 [0, 5]) (.seq (.reg c37_r5 [0, 5, 6]) (.seq (.reg c37_r6 [0, 5, 6, 7]) (.seq (.seq (.reg c37_r7 [0, 5, 6, 7, 8]) (.block 0 (.loop c37_l2))) (.seq (.reg c37_r26 [2, 3]) .ret))))))))
theorem F37 : Fn Try.prog 37 c37 [SRes.tmp 2, SRes.tmp 3] 81 := ⟨Try.f37, Try.f37.body.getD .skip, [[0], [0, 4], [0, 4, 17], [2, 3], [0, 5], [0, 5, 6], [0, 5, 6, 7], [0, 5, 6, 7, 8], [0, 5, 6, 7, 8, 28], [0, 5, 6, 7, 8, 9], [0, 5, 6, 7, 8, 9, 10], [0, 5, 6, 7, 8, 9, 10, 11], [0, 5, 6, 7, 8, 9, 10, 11, 34], [0, 5, 6, 7, 8, 9, 10, 11, 12], [0, 5, 6, 7, 8, 9, 10, 11, 12, 13], [0, 5, 6, 7, 8, 9, 10, 11, 12, 13, 40], [0, 5, 6, 7, 8, 9, 10, 11, 12, 13, 51], [0, 5, 6, 7, 8, 9, 10, 11, 12, 13], [0, 5, 6, 7, 8, 9, 10, 11, 12, 13], [0, 5, 6, 7, 8, 9, 10, 11, 12, 61], [0, 5, 6, 7, 8, 9, 10, 11, 12], [0, 5, 6, 7, 8, 9, 10, 11], [0, 5, 6, 7, 8, 9, 10, 11], [0, 5, 6, 7, 8, 9, 74], [0, 5, 6, 7, 8], [0, 5, 6, 7, 8], [2, 3]], Try.func37, by kernel_rfl, by kernel_rfl, by kernel_rfl, by kernel_rfl, by decide⟩

-- 63 bellarmine/bellarmineref08.told
def c63_r0 : List SIns := [
  { dst := some 4, op := SOp.mv (Operand.const (Value.int (IntKind.i64) 0)), guard := none }]
def c63_r1 : List SIns := [
  { dst := some 7, op := SOp.mv (Operand.tmp 0), guard := none },
  { dst := some 8, op := SOp.call 24 [Operand.tmp 7], guard := none },
  { dst := some 5, op := SOp.mv (Operand.tmp 8), guard := none }]
def c63_r2 : List SIns := [
  { dst := some 9, op := SOp.mv (Operand.tmp 5), guard := none },
  { dst := some 10, op := SOp.ib (BinOp.eql) (Operand.tmp 9) (Operand.const (Value.int (IntKind.i64) 0)), guard := none },
  { dst := some 11, op := SOp.mv (Operand.tmp 10), guard := none },
  { dst := some 12, op := SOp.mv (Operand.tmp 1), guard := some (11, true) },
  { dst := some 13, op := SOp.lenSl (Operand.tmp 12), guard := some (11, true) },
  { dst := some 14, op := SOp.ib (BinOp.gtr) (Operand.tmp 13) (Operand.const (Value.int (IntKind.i64) 60)), guard := some (11, true) },
  { dst := some 15, op := SOp.pick (Operand.tmp 11) (Operand.tmp 14) (Operand.const (Value.bool false)), guard := none }]
def c63_r3 : List SIns := [
  { dst := some 5, op := SOp.mv (Operand.const (Value.int (IntKind.i64) 19)), guard := none }]
def c63_r4 : List SIns := [
  { dst := some 6, op := SOp.mv (Operand.const (Value.int (IntKind.i64) 0)), guard := none }]
def c63_r5 : List SIns := [
  { dst := some 16, op := SOp.mv (Operand.tmp 6), guard := none },
  { dst := some 17, op := SOp.mv (Operand.tmp 1), guard := none },
  { dst := some 18, op := SOp.lenSl (Operand.tmp 17), guard := none },
  { dst := some 19, op := SOp.ib (BinOp.lss) (Operand.tmp 16) (Operand.tmp 18), guard := none },
  { dst := some 20, op := SOp.mv (Operand.tmp 19), guard := none },
  { dst := some 21, op := SOp.mv (Operand.tmp 5), guard := some (20, true) },
  { dst := some 22, op := SOp.ib (BinOp.eql) (Operand.tmp 21) (Operand.const (Value.int (IntKind.i64) 0)), guard := some (20, true) },
  { dst := some 23, op := SOp.pick (Operand.tmp 20) (Operand.tmp 22) (Operand.const (Value.bool false)), guard := none }]
def c63_r6 : List SIns := [
  { dst := some 26, op := SOp.mv (Operand.tmp 1), guard := none },
  { dst := some 27, op := SOp.mv (Operand.tmp 6), guard := none },
  { dst := some 28, op := SOp.idx 1 (Operand.tmp 26) (Operand.tmp 27), guard := none },
  { dst := some 29, op := SOp.load1 (Operand.tmp 28), guard := none },
  { dst := some 30, op := SOp.mv (Operand.tmp 0), guard := none },
  { dst := some 31, op := SOp.lenSl (Operand.tmp 30), guard := none },
  { dst := some 32, op := SOp.ib (BinOp.sub) (Operand.tmp 31) (Operand.const (Value.int (IntKind.i64) 1)), guard := none },
  { dst := some 33, op := SOp.call 61 [Operand.tmp 29, Operand.const (Value.int (IntKind.i64) 0), Operand.tmp 32], guard := none },
  { dst := some 34, op := SOp.nt (Operand.tmp 33), guard := none }]
def c63_r7 : List SIns := [
  { dst := some 5, op := SOp.mv (Operand.const (Value.int (IntKind.i64) 2)), guard := none }]
def c63_r8 : List SIns := [
  { dst := some 24, op := SOp.mv (Operand.tmp 6), guard := none },
  { dst := some 25, op := SOp.ib (BinOp.add) (Operand.tmp 24) (Operand.const (Value.int (IntKind.i64) 1)), guard := none },
  { dst := some 6, op := SOp.mv (Operand.tmp 25), guard := none }]
def c63_l0 : SCode := (.seq (.seq (.reg c63_r5 [0, 1, 5, 6, 23]) (.cond (Operand.tmp 23) .skip (.exit 0))) (.seq (.block 1 (.seq (.reg c63_r6 [0, 1, 5, 6, 34]) (.cond (Operand.tmp 34) (.reg c63_r7 [0, 1, 5, 6]) .skip))) (.reg c63_r8 [0, 1, 5, 6])))
def c63_r9 : List SIns := [
  { dst := some 35, op := SOp.mv (Operand.tmp 5), guard := none },
  { dst := some 4, op := SOp.mv (Operand.tmp 35), guard := none }]
def c63 : SCode := (.seq (.reg c63_r0 [0, 1]) (.seq (.reg c63_r1 [0, 1, 5]) (.seq (.seq (.reg c63_r2 [0, 1, 5, 15]) (.cond (Operand.tmp 15) (.reg c63_r3 [0, 1, 5]) .skip)) (.seq (.seq (.reg c63_r4 [0, 1, 5, 6]) (.block 0 (.loop c63_l0))) (.seq (.reg c63_r9 [4]) .ret)))))
theorem F63 : Fn Try.prog 63 c63 [SRes.tmp 4] 36 := ⟨Try.f63, Try.f63.body.getD .skip, [[0, 1], [0, 1, 5], [0, 1, 5, 15], [0, 1, 5], [0, 1, 5, 6], [0, 1, 5, 6, 23], [0, 1, 5, 6, 34], [0, 1, 5, 6], [0, 1, 5, 6], [4]], Try.func63, by kernel_rfl, by kernel_rfl, by kernel_rfl, by kernel_rfl, by decide⟩

-- 64 bellarmine/bellarmineref08.good
def c64_r0 : List SIns := [
  { dst := some 4, op := SOp.mv (Operand.const (Value.bool false)), guard := none }]
def c64_r1 : List SIns := [
  { dst := some 5, op := SOp.mv (Operand.const (Value.int (IntKind.i64) 0)), guard := none }]
def c64_r2 : List SIns := [
  { dst := some 8, op := SOp.mv (Operand.tmp 5), guard := none },
  { dst := some 9, op := SOp.mv (Operand.tmp 0), guard := none },
  { dst := some 10, op := SOp.lenSl (Operand.tmp 9), guard := none },
  { dst := some 11, op := SOp.ib (BinOp.lss) (Operand.tmp 8) (Operand.tmp 10), guard := none }]
def c64_r3 : List SIns := [
  { dst := some 6, op := SOp.mv (Operand.const (Value.int (IntKind.i64) 0)), guard := none }]
def c64_r4 : List SIns := [
  { dst := some 7, op := SOp.mv (Operand.const (Value.int (IntKind.i64) 0)), guard := none }]
def c64_r5 : List SIns := [
  { dst := some 14, op := SOp.mv (Operand.tmp 7), guard := none },
  { dst := some 15, op := SOp.mv (Operand.tmp 1), guard := none },
  { dst := some 16, op := SOp.lenSl (Operand.tmp 15), guard := none },
  { dst := some 17, op := SOp.ib (BinOp.lss) (Operand.tmp 14) (Operand.tmp 16), guard := none }]
def c64_r6 : List SIns := [
  { dst := some 20, op := SOp.mv (Operand.tmp 6), guard := none },
  { dst := some 21, op := SOp.ib (BinOp.add) (Operand.tmp 20) (Operand.const (Value.int (IntKind.i64) 1)), guard := none },
  { dst := some 6, op := SOp.mv (Operand.tmp 21), guard := none }]
def c64_r7 : List SIns := [
  { dst := some 22, op := SOp.mv (Operand.tmp 1), guard := none },
  { dst := some 23, op := SOp.mv (Operand.tmp 7), guard := none },
  { dst := some 24, op := SOp.idx 1 (Operand.tmp 22) (Operand.tmp 23), guard := none },
  { dst := some 25, op := SOp.load1 (Operand.tmp 24), guard := none },
  { dst := some 26, op := SOp.mv (Operand.tmp 5), guard := none },
  { dst := some 27, op := SOp.ib (BinOp.eql) (Operand.tmp 25) (Operand.tmp 26), guard := none }]
def c64_r8 : List SIns := [
  { dst := some 6, op := SOp.mv (Operand.const (Value.int (IntKind.i64) 0)), guard := none }]
def c64_r9 : List SIns := [
  { dst := some 28, op := SOp.mv (Operand.tmp 6), guard := none },
  { dst := some 29, op := SOp.mv (Operand.tmp 0), guard := none },
  { dst := some 30, op := SOp.mv (Operand.tmp 5), guard := none },
  { dst := some 31, op := SOp.idx 1 (Operand.tmp 29) (Operand.tmp 30), guard := none },
  { dst := some 32, op := SOp.load1 (Operand.tmp 31), guard := none },
  { dst := some 33, op := SOp.ib (BinOp.eql) (Operand.tmp 28) (Operand.tmp 32), guard := none }]
def c64_r10 : List SIns := [
  { dst := some 4, op := SOp.mv (Operand.const (Value.bool false)), guard := none }]
def c64_r11 : List SIns := [
  { dst := some 18, op := SOp.mv (Operand.tmp 7), guard := none },
  { dst := some 19, op := SOp.ib (BinOp.add) (Operand.tmp 18) (Operand.const (Value.int (IntKind.i64) 1)), guard := none },
  { dst := some 7, op := SOp.mv (Operand.tmp 19), guard := none }]
def c64_l0 : SCode := (.seq (.seq (.reg c64_r5 [0, 1, 5, 6, 7, 17]) (.cond (Operand.tmp 17) .skip (.exit 2))) (.seq (.block 3 (.seq (.reg c64_r6 [0, 1, 5, 6, 7]) (.seq (.seq (.reg c64_r7 [0, 1, 5, 6, 7, 27]) (.cond (Operand.tmp 27) (.reg c64_r8 [0, 1, 5, 6, 7]) .skip)) (.seq (.reg c64_r9 [0, 1, 5, 6, 7, 33]) (.cond (Operand.tmp 33) (.seq (.reg c64_r10 [4]) .ret) .skip))))) (.reg c64_r11 [0, 1, 5, 6, 7])))
def c64_r12 : List SIns := [
  { dst := some 12, op := SOp.mv (Operand.tmp 5), guard := none },
  { dst := some 13, op := SOp.ib (BinOp.add) (Operand.tmp 12) (Operand.const (Value.int (IntKind.i64) 1)), guard := none },
  { dst := some 5, op := SOp.mv (Operand.tmp 13), guard := none }]
def c64_l1 : SCode := (.seq (.seq (.reg c64_r2 [0, 1, 5, 11]) (.cond (Operand.tmp 11) .skip (.exit 0))) (.seq (.block 1 (.seq (.reg c64_r3 [0, 1, 5, 6]) (.seq (.reg c64_r4 [0, 1, 5, 6, 7]) (.block 2 (.loop c64_l0))))) (.reg c64_r12 [0, 1, 5])))
def c64_r13 : List SIns := [
  { dst := some 4, op := SOp.mv (Operand.const (Value.bool true)), guard := none }]
def c64 : SCode := (.seq (.reg c64_r0 [0, 1]) (.seq (.seq (.reg c64_r1 [0, 1, 5]) (.block 0 (.loop c64_l1))) (.seq (.reg c64_r13 [4]) .ret)))
theorem F64 : Fn Try.prog 64 c64 [SRes.tmp 4] 34 := ⟨Try.f64, Try.f64.body.getD .skip, [[0, 1], [0, 1, 5], [0, 1, 5, 11], [0, 1, 5, 6], [0, 1, 5, 6, 7], [0, 1, 5, 6, 7, 17], [0, 1, 5, 6, 7], [0, 1, 5, 6, 7, 27], [0, 1, 5, 6, 7], [0, 1, 5, 6, 7, 33], [4], [0, 1, 5, 6, 7], [0, 1, 5], [4]], Try.func64, by kernel_rfl, by kernel_rfl, by kernel_rfl, by kernel_rfl, by decide⟩

-- 69 bellarmine/bellarmineref08.step
def c69_r0 : List SIns := [
  { dst := some 6, op := SOp.mv (Operand.const (Value.int (IntKind.i64) 0)), guard := none },
  { dst := some 7, op := SOp.mv (Operand.const (Value.slice none 0 0)), guard := none }]
def c69_r1 : List SIns := [
  { dst := some 8, op := SOp.mv (Operand.const (Value.int (IntKind.i64) 0)), guard := none }]
def c69_r2 : List SIns := [
  { dst := some 12, op := SOp.mv (Operand.tmp 0), guard := none },
  { dst := some 13, op := SOp.mv (Operand.tmp 1), guard := none },
  { dst := some 14, op := SOp.mv (Operand.tmp 8), guard := none },
  { dst := some 15, op := SOp.call 79 [Operand.tmp 12, Operand.tmp 13, Operand.tmp 14], guard := none },
  { dst := some 11, op := SOp.mv (Operand.tmp 15), guard := none },
  { dst := some 16, op := SOp.ext (Operand.tmp 11) 0, guard := none },
  { dst := some 17, op := SOp.ext (Operand.tmp 11) 1, guard := none },
  { dst := some 9, op := SOp.mv (Operand.tmp 16), guard := none },
  { dst := some 10, op := SOp.mv (Operand.tmp 17), guard := none }]
def c69_r3 : List SIns := [
  { dst := some 18, op := SOp.mv (Operand.tmp 10), guard := none },
  { dst := some 19, op := SOp.nt (Operand.tmp 18), guard := none },
  { dst := some 20, op := SOp.mv (Operand.tmp 19), guard := none },
  { dst := some 21, op := SOp.mv (Operand.tmp 2), guard := some (20, false) },
  { dst := some 22, op := SOp.mv (Operand.tmp 0), guard := some (20, false) },
  { dst := some 23, op := SOp.mv (Operand.tmp 9), guard := some (20, false) },
  { dst := some 24, op := SOp.call 65 [Operand.tmp 22, Operand.tmp 23], guard := some (20, false) },
  { dst := some 25, op := SOp.idx 1 (Operand.tmp 21) (Operand.tmp 24), guard := some (20, false) },
  { dst := some 26, op := SOp.load1 (Operand.tmp 25), guard := some (20, false) },
  { dst := some 27, op := SOp.nt (Operand.tmp 26), guard := some (20, false) },
  { dst := some 28, op := SOp.pick (Operand.tmp 20) (Operand.const (Value.bool true)) (Operand.tmp 27), guard := none }]
def c69_r4 : List SIns := [
  { dst := some 29, op := SOp.mv (Operand.tmp 8), guard := none },
  { dst := some 30, op := SOp.ib (BinOp.add) (Operand.tmp 29) (Operand.const (Value.int (IntKind.i64) 1)), guard := none },
  { dst := some 8, op := SOp.mv (Operand.tmp 30), guard := none }]
def c69_r5 : List SIns := [
  { dst := some 32, op := SOp.mv (Operand.tmp 0), guard := none },
  { dst := some 33, op := SOp.mv (Operand.tmp 1), guard := none },
  { dst := some 34, op := SOp.mv (Operand.tmp 8), guard := none },
  { dst := some 35, op := SOp.call 79 [Operand.tmp 32, Operand.tmp 33, Operand.tmp 34], guard := none },
  { dst := some 31, op := SOp.mv (Operand.tmp 35), guard := none },
  { dst := some 36, op := SOp.ext (Operand.tmp 31) 0, guard := none },
  { dst := some 37, op := SOp.ext (Operand.tmp 31) 1, guard := none },
  { dst := some 9, op := SOp.mv (Operand.tmp 36), guard := none },
  { dst := some 10, op := SOp.mv (Operand.tmp 37), guard := none }]
def c69_l0 : SCode := (.seq (.seq (.reg c69_r3 [0, 1, 2, 8, 9, 28]) (.cond (Operand.tmp 28) .skip (.exit 0))) (.block 1 (.seq (.reg c69_r4 [0, 1, 2, 8]) (.reg c69_r5 [0, 1, 2, 8, 9, 10]))))
def c69_r6 : List SIns := [
  { dst := some 38, op := SOp.mv (Operand.tmp 8), guard := none },
  { dst := some 39, op := SOp.mv (Operand.tmp 9), guard := none },
  { dst := some 6, op := SOp.mv (Operand.tmp 38), guard := none },
  { dst := some 7, op := SOp.mv (Operand.tmp 39), guard := none }]
def c69 : SCode := (.seq (.reg c69_r0 [0, 1, 2]) (.seq (.reg c69_r1 [0, 1, 2, 8]) (.seq (.reg c69_r2 [0, 1, 2, 8, 9, 10]) (.seq (.block 0 (.loop c69_l0)) (.seq (.reg c69_r6 [6, 7]) .ret)))))
theorem F69 : Fn Try.prog 69 c69 [SRes.tmp 6, SRes.tmp 7] 40 := ⟨Try.f69, Try.f69.body.getD .skip, [[0, 1, 2], [0, 1, 2, 8], [0, 1, 2, 8, 9, 10], [0, 1, 2, 8, 9, 28], [0, 1, 2, 8], [0, 1, 2, 8, 9, 10], [6, 7]], Try.func69, by kernel_rfl, by kernel_rfl, by kernel_rfl, by kernel_rfl, by decide⟩

-- 71 bellarmine/bellarmineref08.divisions
def c71_r0 : List SIns := [
  { dst := some 6, op := SOp.mv (Operand.const (Value.slice none 0 0)), guard := none }]
def c71_r1 : List SIns := [
  { dst := some 9, op := SOp.mv (Operand.tmp 1), guard := none },
  { dst := some 10, op := SOp.lenSl (Operand.tmp 9), guard := none },
  { dst := some 11, op := SOp.mv (Operand.tmp 0), guard := none },
  { dst := some 12, op := SOp.ib (BinOp.eql) (Operand.tmp 10) (Operand.tmp 11), guard := none }]
def c71_r2 : List SIns := [
  { dst := some 13, op := SOp.mv (Operand.tmp 1), guard := none },
  { dst := some 14, op := SOp.mks 1 1 [Value.slice none 0 0] [(0, 1, Operand.tmp 13)], guard := none },
  { dst := some 6, op := SOp.mv (Operand.tmp 14), guard := none }]
def c71_r3 : List SIns := [
  { dst := some 7, op := SOp.mv (Operand.const (Value.slice none 0 0)), guard := none }]
def c71_r4 : List SIns := [
  { dst := some 8, op := SOp.mv (Operand.const (Value.int (IntKind.i64) 0)), guard := none }]
def c71_r5 : List SIns := [
  { dst := some 15, op := SOp.mv (Operand.tmp 8), guard := none },
  { dst := some 16, op := SOp.mv (Operand.tmp 2), guard := none },
  { dst := some 17, op := SOp.ib (BinOp.leq) (Operand.tmp 15) (Operand.tmp 16), guard := none }]
def c71_r6 : List SIns := [
  { dst := some 20, op := SOp.mv (Operand.tmp 7), guard := none },
  { dst := some 21, op := SOp.mv (Operand.tmp 0), guard := none },
  { dst := some 22, op := SOp.mks0 1, guard := none },
  { dst := some 23, op := SOp.mv (Operand.tmp 1), guard := none },
  { dst := some 24, op := SOp.app 1 8 (Operand.tmp 22) (Operand.tmp 23), guard := none },
  { dst := some 25, op := SOp.mv (Operand.tmp 8), guard := none },
  { dst := some 26, op := SOp.mks 1 1 [Value.int (IntKind.i64) 0] [(0, 1, Operand.tmp 25)], guard := none },
  { dst := some 27, op := SOp.app 1 8 (Operand.tmp 24) (Operand.tmp 26), guard := none },
  { dst := some 28, op := SOp.mv (Operand.tmp 2), guard := none },
  { dst := some 29, op := SOp.mv (Operand.tmp 8), guard := none },
  { dst := some 30, op := SOp.ib (BinOp.add) (Operand.tmp 29) (Operand.const (Value.int (IntKind.i64) 1)), guard := none },
  { dst := some 31, op := SOp.big true [Operand.tmp 28, Operand.tmp 30], guard := none },
  { dst := some 32, op := SOp.call 71 [Operand.tmp 21, Operand.tmp 27, Operand.tmp 31], guard := none },
  { dst := some 33, op := SOp.app 1 24 (Operand.tmp 20) (Operand.tmp 32), guard := none },
  { dst := some 7, op := SOp.mv (Operand.tmp 33), guard := none }]
def c71_r7 : List SIns := [
  { dst := some 18, op := SOp.mv (Operand.tmp 8), guard := none },
  { dst := some 19, op := SOp.ib (BinOp.add) (Operand.tmp 18) (Operand.const (Value.int (IntKind.i64) 1)), guard := none },
  { dst := some 8, op := SOp.mv (Operand.tmp 19), guard := none }]
def c71_l0 : SCode := (.seq (.seq (.reg c71_r5 [0, 1, 2, 7, 8, 17]) (.cond (Operand.tmp 17) .skip (.exit 0))) (.seq (.block 1 (.reg c71_r6 [0, 1, 2, 7, 8])) (.reg c71_r7 [0, 1, 2, 7, 8])))
def c71_r8 : List SIns := [
  { dst := some 34, op := SOp.mv (Operand.tmp 7), guard := none },
  { dst := some 6, op := SOp.mv (Operand.tmp 34), guard := none }]
def c71 : SCode := (.seq (.reg c71_r0 [0, 1, 2]) (.seq (.seq (.reg c71_r1 [0, 1, 2, 12]) (.cond (Operand.tmp 12) (.seq (.reg c71_r2 [6]) .ret) .skip)) (.seq (.reg c71_r3 [0, 1, 2, 7]) (.seq (.seq (.reg c71_r4 [0, 1, 2, 7, 8]) (.block 0 (.loop c71_l0))) (.seq (.reg c71_r8 [6]) .ret)))))
theorem F71 : Fn Try.prog 71 c71 [SRes.tmp 6] 35 := ⟨Try.f71, Try.f71.body.getD .skip, [[0, 1, 2], [0, 1, 2, 12], [6], [0, 1, 2, 7], [0, 1, 2, 7, 8], [0, 1, 2, 7, 8, 17], [0, 1, 2, 7, 8], [0, 1, 2, 7, 8], [6]], Try.func71, by kernel_rfl, by kernel_rfl, by kernel_rfl, by kernel_rfl, by decide⟩

-- 4 bellarmine/bellarminelaw08.WalkLeft
def c4_r0 : List SIns := [
  { dst := some 4, op := SOp.mv (Operand.const (Value.bool false)), guard := none }]
def c4_r1 : List SIns := [
  { dst := some 13, op := SOp.mv (Operand.tmp 0), guard := none },
  { dst := some 14, op := SOp.lenSl (Operand.tmp 13), guard := none },
  { dst := some 15, op := SOp.ib (BinOp.gtr) (Operand.tmp 14) (Operand.const (Value.int (IntKind.i64) 60)), guard := none },
  { dst := some 16, op := SOp.mv (Operand.tmp 15), guard := none },
  { dst := some 17, op := SOp.mv (Operand.tmp 1), guard := some (16, false) },
  { dst := some 18, op := SOp.lenSl (Operand.tmp 17), guard := some (16, false) },
  { dst := some 19, op := SOp.ib (BinOp.gtr) (Operand.tmp 18) (Operand.const (Value.int (IntKind.i64) 100)), guard := some (16, false) },
  { dst := some 20, op := SOp.pick (Operand.tmp 16) (Operand.const (Value.bool true)) (Operand.tmp 19), guard := none }]
def c4_r2 : List SIns := [
  { dst := some 21, op := SOp.call 16 [], guard := none },
  { dst := some 4, op := SOp.mv (Operand.tmp 21), guard := none }]
def c4_r3 : List SIns := [
  { dst := some 23, op := SOp.mv (Operand.tmp 0), guard := none },
  { dst := some 24, op := SOp.mv (Operand.tmp 1), guard := none },
  { dst := some 25, op := SOp.call 25 [Operand.tmp 23, Operand.tmp 24], guard := none },
  { dst := some 22, op := SOp.mv (Operand.tmp 25), guard := none },
  { dst := some 26, op := SOp.ext (Operand.tmp 22) 0, guard := none },
  { dst := some 27, op := SOp.ext (Operand.tmp 22) 1, guard := none },
  { dst := some 5, op := SOp.mv (Operand.tmp 26), guard := none },
  { dst := some 6, op := SOp.mv (Operand.tmp 27), guard := none }]
def c4_r4 : List SIns := [
  { dst := some 29, op := SOp.mv (Operand.tmp 0), guard := none },
  { dst := some 30, op := SOp.mv (Operand.tmp 1), guard := none },
  { dst := some 31, op := SOp.call 26 [Operand.tmp 29, Operand.tmp 30], guard := none },
  { dst := some 28, op := SOp.mv (Operand.tmp 31), guard := none },
  { dst := some 32, op := SOp.ext (Operand.tmp 28) 0, guard := none },
  { dst := some 33, op := SOp.ext (Operand.tmp 28) 1, guard := none },
  { dst := some 7, op := SOp.mv (Operand.tmp 32), guard := none },
  { dst := some 8, op := SOp.mv (Operand.tmp 33), guard := none }]
def c4_r5 : List SIns := [
  { dst := some 35, op := SOp.mv (Operand.tmp 0), guard := none },
  { dst := some 36, op := SOp.mv (Operand.tmp 1), guard := none },
  { dst := some 37, op := SOp.call 27 [Operand.tmp 35, Operand.tmp 36], guard := none },
  { dst := some 34, op := SOp.mv (Operand.tmp 37), guard := none },
  { dst := some 38, op := SOp.ext (Operand.tmp 34) 0, guard := none },
  { dst := some 39, op := SOp.ext (Operand.tmp 34) 1, guard := none },
  { dst := some 9, op := SOp.mv (Operand.tmp 38), guard := none },
  { dst := some 10, op := SOp.mv (Operand.tmp 39), guard := none }]
def c4_r6 : List SIns := [
  { dst := some 41, op := SOp.mv (Operand.tmp 0), guard := none },
  { dst := some 42, op := SOp.mv (Operand.tmp 1), guard := none },
  { dst := some 43, op := SOp.call 28 [Operand.tmp 41, Operand.tmp 42], guard := none },
  { dst := some 40, op := SOp.mv (Operand.tmp 43), guard := none },
  { dst := some 44, op := SOp.ext (Operand.tmp 40) 0, guard := none },
  { dst := some 45, op := SOp.ext (Operand.tmp 40) 1, guard := none },
  { dst := some 11, op := SOp.mv (Operand.tmp 44), guard := none },
  { dst := some 12, op := SOp.mv (Operand.tmp 45), guard := none }]
def c4_r7 : List SIns := [
  { dst := some 46, op := SOp.mv (Operand.tmp 5), guard := none },
  { dst := some 47, op := SOp.mv (Operand.tmp 7), guard := none },
  { dst := some 48, op := SOp.call 29 [Operand.tmp 46, Operand.tmp 47], guard := none },
  { dst := some 49, op := SOp.mv (Operand.tmp 48), guard := none },
  { dst := some 50, op := SOp.mv (Operand.tmp 6), guard := some (49, true) },
  { dst := some 51, op := SOp.mv (Operand.tmp 8), guard := some (49, true) },
  { dst := some 52, op := SOp.ib (BinOp.eql) (Operand.tmp 50) (Operand.tmp 51), guard := some (49, true) },
  { dst := some 53, op := SOp.pick (Operand.tmp 49) (Operand.tmp 52) (Operand.const (Value.bool false)), guard := none },
  { dst := some 54, op := SOp.mv (Operand.tmp 53), guard := none },
  { dst := some 55, op := SOp.mv (Operand.tmp 9), guard := some (54, true) },
  { dst := some 56, op := SOp.mv (Operand.tmp 11), guard := some (54, true) },
  { dst := some 57, op := SOp.bb false (Operand.tmp 55) (Operand.tmp 56), guard := some (54, true) },
  { dst := some 58, op := SOp.pick (Operand.tmp 54) (Operand.tmp 57) (Operand.const (Value.bool false)), guard := none },
  { dst := some 59, op := SOp.mv (Operand.tmp 58), guard := none },
  { dst := some 60, op := SOp.mv (Operand.tmp 10), guard := some (59, true) },
  { dst := some 61, op := SOp.mv (Operand.tmp 12), guard := some (59, true) },
  { dst := some 62, op := SOp.ib (BinOp.eql) (Operand.tmp 60) (Operand.tmp 61), guard := some (59, true) },
  { dst := some 63, op := SOp.pick (Operand.tmp 59) (Operand.tmp 62) (Operand.const (Value.bool false)), guard := none },
  { dst := some 64, op := SOp.mv (Operand.tmp 63), guard := none },
  { dst := some 65, op := SOp.mv (Operand.tmp 0), guard := some (64, true) },
  { dst := some 66, op := SOp.mv (Operand.tmp 1), guard := some (64, true) },
  { dst := some 67, op := SOp.call 30 [Operand.tmp 65, Operand.tmp 66], guard := some (64, true) },
  { dst := some 68, op := SOp.mv (Operand.tmp 0), guard := some (64, true) },
  { dst := some 69, op := SOp.mv (Operand.tmp 1), guard := some (64, true) },
  { dst := some 70, op := SOp.call 31 [Operand.tmp 68, Operand.tmp 69], guard := some (64, true) },
  { dst := some 71, op := SOp.ib (BinOp.eql) (Operand.tmp 67) (Operand.tmp 70), guard := some (64, true) },
  { dst := some 72, op := SOp.pick (Operand.tmp 64) (Operand.tmp 71) (Operand.const (Value.bool false)), guard := none },
  { dst := some 73, op := SOp.mv (Operand.tmp 72), guard := none },
  { dst := some 74, op := SOp.call 16 [], guard := some (73, true) },
  { dst := some 75, op := SOp.pick (Operand.tmp 73) (Operand.tmp 74) (Operand.const (Value.bool false)), guard := none },
  { dst := some 4, op := SOp.mv (Operand.tmp 75), guard := none }]
def c4 : SCode := (.seq (.reg c4_r0 [0, 1]) (.seq (.seq (.reg c4_r1 [0, 1, 20]) (.cond (Operand.tmp 20) (.seq (.reg c4_r2 [4]) .ret) .skip)) (.seq (.reg c4_r3 [0, 1, 5, 6]) (.seq (.reg c4_r4 [0, 1, 5, 6, 7, 8]) (.seq (.reg c4_r5 [0, 1, 5, 6, 7, 8, 9, 10]) (.seq (.reg c4_r6 [0, 1, 5, 6, 7, 8, 9, 10, 11, 12]) (.seq (.reg c4_r7 [4]) .ret)))))))
theorem F4 : Fn Try.prog 4 c4 [SRes.tmp 4] 76 := ⟨Try.f4, Try.f4.body.getD .skip, [[0, 1], [0, 1, 20], [4], [0, 1, 5, 6], [0, 1, 5, 6, 7, 8], [0, 1, 5, 6, 7, 8, 9, 10], [0, 1, 5, 6, 7, 8, 9, 10, 11, 12], [4]], Try.func4, by kernel_rfl, by kernel_rfl, by kernel_rfl, by kernel_rfl, by decide⟩

-- 5 bellarmine/bellarminelaw08.WalkWalks
def c5_r0 : List SIns := [
  { dst := some 4, op := SOp.mv (Operand.const (Value.bool false)), guard := none }]
def c5_r1 : List SIns := [
  { dst := some 15, op := SOp.mv (Operand.tmp 0), guard := none },
  { dst := some 16, op := SOp.lenSl (Operand.tmp 15), guard := none },
  { dst := some 17, op := SOp.ib (BinOp.gtr) (Operand.tmp 16) (Operand.const (Value.int (IntKind.i64) 60)), guard := none }]
def c5_r2 : List SIns := [
  { dst := some 18, op := SOp.call 16 [], guard := none },
  { dst := some 4, op := SOp.mv (Operand.tmp 18), guard := none }]
def c5_r3 : List SIns := [
  { dst := some 20, op := SOp.mv (Operand.tmp 0), guard := none },
  { dst := some 21, op := SOp.mv (Operand.tmp 1), guard := none },
  { dst := some 22, op := SOp.call 32 [Operand.tmp 20, Operand.tmp 21], guard := none },
  { dst := some 19, op := SOp.mv (Operand.tmp 22), guard := none },
  { dst := some 23, op := SOp.ext (Operand.tmp 19) 0, guard := none },
  { dst := some 24, op := SOp.ext (Operand.tmp 19) 1, guard := none },
  { dst := some 5, op := SOp.mv (Operand.tmp 23), guard := none },
  { dst := some 6, op := SOp.mv (Operand.tmp 24), guard := none }]
def c5_r4 : List SIns := [
  { dst := some 26, op := SOp.mv (Operand.tmp 0), guard := none },
  { dst := some 27, op := SOp.mv (Operand.tmp 1), guard := none },
  { dst := some 28, op := SOp.call 33 [Operand.tmp 26, Operand.tmp 27], guard := none },
  { dst := some 25, op := SOp.mv (Operand.tmp 28), guard := none },
  { dst := some 29, op := SOp.ext (Operand.tmp 25) 0, guard := none },
  { dst := some 30, op := SOp.ext (Operand.tmp 25) 1, guard := none },
  { dst := some 7, op := SOp.mv (Operand.tmp 29), guard := none },
  { dst := some 8, op := SOp.mv (Operand.tmp 30), guard := none }]
def c5_r5 : List SIns := [
  { dst := some 32, op := SOp.mv (Operand.tmp 0), guard := none },
  { dst := some 33, op := SOp.call 34 [Operand.tmp 32], guard := none },
  { dst := some 31, op := SOp.mv (Operand.tmp 33), guard := none },
  { dst := some 34, op := SOp.ext (Operand.tmp 31) 0, guard := none },
  { dst := some 35, op := SOp.ext (Operand.tmp 31) 1, guard := none },
  { dst := some 36, op := SOp.ext (Operand.tmp 31) 2, guard := none },
  { dst := some 9, op := SOp.mv (Operand.tmp 34), guard := none },
  { dst := some 10, op := SOp.mv (Operand.tmp 35), guard := none },
  { dst := some 11, op := SOp.mv (Operand.tmp 36), guard := none }]
def c5_r6 : List SIns := [
  { dst := some 38, op := SOp.mv (Operand.tmp 0), guard := none },
  { dst := some 39, op := SOp.call 35 [Operand.tmp 38], guard := none },
  { dst := some 37, op := SOp.mv (Operand.tmp 39), guard := none },
  { dst := some 40, op := SOp.ext (Operand.tmp 37) 0, guard := none },
  { dst := some 41, op := SOp.ext (Operand.tmp 37) 1, guard := none },
  { dst := some 42, op := SOp.ext (Operand.tmp 37) 2, guard := none },
  { dst := some 12, op := SOp.mv (Operand.tmp 40), guard := none },
  { dst := some 13, op := SOp.mv (Operand.tmp 41), guard := none },
  { dst := some 14, op := SOp.mv (Operand.tmp 42), guard := none }]
def c5_r7 : List SIns := [
  { dst := some 43, op := SOp.mv (Operand.tmp 5), guard := none },
  { dst := some 44, op := SOp.mv (Operand.tmp 7), guard := none },
  { dst := some 45, op := SOp.call 29 [Operand.tmp 43, Operand.tmp 44], guard := none },
  { dst := some 46, op := SOp.mv (Operand.tmp 45), guard := none },
  { dst := some 47, op := SOp.mv (Operand.tmp 6), guard := some (46, true) },
  { dst := some 48, op := SOp.mv (Operand.tmp 8), guard := some (46, true) },
  { dst := some 49, op := SOp.ib (BinOp.eql) (Operand.tmp 47) (Operand.tmp 48), guard := some (46, true) },
  { dst := some 50, op := SOp.pick (Operand.tmp 46) (Operand.tmp 49) (Operand.const (Value.bool false)), guard := none },
  { dst := some 51, op := SOp.mv (Operand.tmp 50), guard := none },
  { dst := some 52, op := SOp.mv (Operand.tmp 9), guard := some (51, true) },
  { dst := some 53, op := SOp.mv (Operand.tmp 12), guard := some (51, true) },
  { dst := some 54, op := SOp.call 29 [Operand.tmp 52, Operand.tmp 53], guard := some (51, true) },
  { dst := some 55, op := SOp.pick (Operand.tmp 51) (Operand.tmp 54) (Operand.const (Value.bool false)), guard := none },
  { dst := some 56, op := SOp.mv (Operand.tmp 55), guard := none },
  { dst := some 57, op := SOp.mv (Operand.tmp 10), guard := some (56, true) },
  { dst := some 58, op := SOp.mv (Operand.tmp 13), guard := some (56, true) },
  { dst := some 59, op := SOp.call 29 [Operand.tmp 57, Operand.tmp 58], guard := some (56, true) },
  { dst := some 60, op := SOp.pick (Operand.tmp 56) (Operand.tmp 59) (Operand.const (Value.bool false)), guard := none },
  { dst := some 61, op := SOp.mv (Operand.tmp 60), guard := none },
  { dst := some 62, op := SOp.mv (Operand.tmp 11), guard := some (61, true) },
  { dst := some 63, op := SOp.mv (Operand.tmp 14), guard := some (61, true) },
  { dst := some 64, op := SOp.ib (BinOp.eql) (Operand.tmp 62) (Operand.tmp 63), guard := some (61, true) },
  { dst := some 65, op := SOp.pick (Operand.tmp 61) (Operand.tmp 64) (Operand.const (Value.bool false)), guard := none },
  { dst := some 66, op := SOp.mv (Operand.tmp 65), guard := none },
  { dst := some 67, op := SOp.call 16 [], guard := some (66, true) },
  { dst := some 68, op := SOp.pick (Operand.tmp 66) (Operand.tmp 67) (Operand.const (Value.bool false)), guard := none },
  { dst := some 4, op := SOp.mv (Operand.tmp 68), guard := none }]
def c5 : SCode := (.seq (.reg c5_r0 [0, 1]) (.seq (.seq (.reg c5_r1 [0, 1, 17]) (.cond (Operand.tmp 17) (.seq (.reg c5_r2 [4]) .ret) .skip)) (.seq (.reg c5_r3 [0, 1, 5, 6]) (.seq (.reg c5_r4 [0, 5, 6, 7, 8]) (.seq (.reg c5_r5 [0, 5, 6, 7, 8, 9, 10, 11]) (.seq (.reg c5_r6 [5, 6, 7, 8, 9, 10, 11, 12, 13, 14]) (.seq (.reg c5_r7 [4]) .ret)))))))
theorem F5 : Fn Try.prog 5 c5 [SRes.tmp 4] 69 := ⟨Try.f5, Try.f5.body.getD .skip, [[0, 1], [0, 1, 17], [4], [0, 1, 5, 6], [0, 5, 6, 7, 8], [0, 5, 6, 7, 8, 9, 10, 11], [5, 6, 7, 8, 9, 10, 11, 12, 13, 14], [4]], Try.func5, by kernel_rfl, by kernel_rfl, by kernel_rfl, by kernel_rfl, by decide⟩

-- 6 bellarmine/bellarminelaw08.WalkGroups
def c6_r0 : List SIns := [
  { dst := some 2, op := SOp.mv (Operand.const (Value.bool false)), guard := none }]
def c6_r1 : List SIns := [
  { dst := some 7, op := SOp.mv (Operand.tmp 0), guard := none },
  { dst := some 8, op := SOp.lenSl (Operand.tmp 7), guard := none },
  { dst := some 9, op := SOp.ib (BinOp.gtr) (Operand.tmp 8) (Operand.const (Value.int (IntKind.i64) 60)), guard := none }]
def c6_r2 : List SIns := [
  { dst := some 10, op := SOp.call 16 [], guard := none },
  { dst := some 2, op := SOp.mv (Operand.tmp 10), guard := none }]
def c6_r3 : List SIns := [
  { dst := some 12, op := SOp.mv (Operand.tmp 0), guard := none },
  { dst := some 13, op := SOp.call 36 [Operand.tmp 12], guard := none },
  { dst := some 11, op := SOp.mv (Operand.tmp 13), guard := none },
  { dst := some 14, op := SOp.ext (Operand.tmp 11) 0, guard := none },
  { dst := some 15, op := SOp.ext (Operand.tmp 11) 1, guard := none },
  { dst := some 3, op := SOp.mv (Operand.tmp 14), guard := none },
  { dst := some 4, op := SOp.mv (Operand.tmp 15), guard := none }]
def c6_r4 : List SIns := [
  { dst := some 17, op := SOp.mv (Operand.tmp 0), guard := none },
  { dst := some 18, op := SOp.call 37 [Operand.tmp 17], guard := none },
  { dst := some 16, op := SOp.mv (Operand.tmp 18), guard := none },
  { dst := some 19, op := SOp.ext (Operand.tmp 16) 0, guard := none },
  { dst := some 20, op := SOp.ext (Operand.tmp 16) 1, guard := none },
  { dst := some 5, op := SOp.mv (Operand.tmp 19), guard := none },
  { dst := some 6, op := SOp.mv (Operand.tmp 20), guard := none }]
def c6_r5 : List SIns := [
  { dst := some 21, op := SOp.mv (Operand.tmp 3), guard := none },
  { dst := some 22, op := SOp.mv (Operand.tmp 5), guard := none },
  { dst := some 23, op := SOp.call 29 [Operand.tmp 21, Operand.tmp 22], guard := none },
  { dst := some 24, op := SOp.mv (Operand.tmp 23), guard := none },
  { dst := some 25, op := SOp.mv (Operand.tmp 4), guard := some (24, true) },
  { dst := some 26, op := SOp.mv (Operand.tmp 6), guard := some (24, true) },
  { dst := some 27, op := SOp.ib (BinOp.eql) (Operand.tmp 25) (Operand.tmp 26), guard := some (24, true) },
  { dst := some 28, op := SOp.pick (Operand.tmp 24) (Operand.tmp 27) (Operand.const (Value.bool false)), guard := none },
  { dst := some 29, op := SOp.mv (Operand.tmp 28), guard := none },
  { dst := some 30, op := SOp.call 16 [], guard := some (29, true) },
  { dst := some 31, op := SOp.pick (Operand.tmp 29) (Operand.tmp 30) (Operand.const (Value.bool false)), guard := none },
  { dst := some 2, op := SOp.mv (Operand.tmp 31), guard := none }]
def c6 : SCode := (.seq (.reg c6_r0 [0]) (.seq (.seq (.reg c6_r1 [0, 9]) (.cond (Operand.tmp 9) (.seq (.reg c6_r2 [2]) .ret) .skip)) (.seq (.reg c6_r3 [0, 3, 4]) (.seq (.reg c6_r4 [3, 4, 5, 6]) (.seq (.reg c6_r5 [2]) .ret)))))
theorem F6 : Fn Try.prog 6 c6 [SRes.tmp 2] 32 := ⟨Try.f6, Try.f6.body.getD .skip, [[0], [0, 9], [2], [0, 3, 4], [3, 4, 5, 6], [2]], Try.func6, by kernel_rfl, by kernel_rfl, by kernel_rfl, by kernel_rfl, by decide⟩

end Go.Sx.Wk
