/- The codes of the functions, written by a program (Gen.lean), and that they are the functions'. No conditions. -/
import Derived.Test.YtmakepdccccmaaaSxN
import Derived.KernelRfl
import Derived.Test.YtmakepdccccmaaaProg
set_option linter.unusedVariables false
set_option maxRecDepth 100000
namespace Go.Sx.Wk
open Go Go.Sx Go.Proofs

def c26_r0 : List SIns := [
  { dst := some 4, op := SOp.mv (Operand.const (Value.slice none 0 0)), guard := none },
  { dst := some 5, op := SOp.mv (Operand.const (Value.int (IntKind.i64) 0)), guard := none }]
def c26_r1 : List SIns := [
  { dst := some 11, op := SOp.mv (Operand.tmp 0), guard := none },
  { dst := some 12, op := SOp.mv (Operand.tmp 1), guard := none },
  { dst := some 13, op := SOp.call 63 [Operand.tmp 11, Operand.tmp 12], guard := none },
  { dst := some 6, op := SOp.mv (Operand.tmp 13), guard := none }]
def c26_r2 : List SIns := [
  { dst := some 14, op := SOp.mv (Operand.tmp 6), guard := none },
  { dst := some 15, op := SOp.ib (BinOp.eql) (Operand.tmp 14) (Operand.const (Value.int (IntKind.i64) 0)), guard := none },
  { dst := some 16, op := SOp.mv (Operand.tmp 15), guard := none },
  { dst := some 17, op := SOp.mv (Operand.tmp 0), guard := some (16, true) },
  { dst := some 18, op := SOp.mv (Operand.tmp 1), guard := some (16, true) },
  { dst := some 19, op := SOp.call 64 [Operand.tmp 17, Operand.tmp 18], guard := some (16, true) },
  { dst := some 20, op := SOp.nt (Operand.tmp 19), guard := some (16, true) },
  { dst := some 21, op := SOp.pick (Operand.tmp 16) (Operand.tmp 20) (Operand.const (Value.bool false)), guard := none }]
def c26_r3 : List SIns := [
  { dst := some 6, op := SOp.mv (Operand.const (Value.int (IntKind.i64) 12)), guard := none }]
def c26_r4 : List SIns := [
  { dst := some 22, op := SOp.mv (Operand.tmp 6), guard := none },
  { dst := some 23, op := SOp.ib (BinOp.neq) (Operand.tmp 22) (Operand.const (Value.int (IntKind.i64) 0)), guard := none }]
def c26_r5 : List SIns := [
  { dst := some 24, op := SOp.mv (Operand.tmp 6), guard := none },
  { dst := some 4, op := SOp.mv (Operand.const (Value.slice none 0 0)), guard := none },
  { dst := some 5, op := SOp.mv (Operand.tmp 24), guard := none }]
def c26_r6 : List SIns := [
  { dst := some 7, op := SOp.mv (Operand.const (Value.slice none 0 0)), guard := none }]
def c26_r7 : List SIns := [
  { dst := some 8, op := SOp.mv (Operand.const (Value.int (IntKind.i64) 0)), guard := none }]
def c26_r8 : List SIns := [
  { dst := some 25, op := SOp.mv (Operand.tmp 8), guard := none },
  { dst := some 26, op := SOp.mv (Operand.tmp 0), guard := none },
  { dst := some 27, op := SOp.lenSl (Operand.tmp 26), guard := none },
  { dst := some 28, op := SOp.ib (BinOp.lss) (Operand.tmp 25) (Operand.tmp 27), guard := none }]
def c26_r9 : List SIns := [
  { dst := some 31, op := SOp.mv (Operand.tmp 1), guard := none },
  { dst := some 32, op := SOp.lenSl (Operand.tmp 31), guard := none },
  { dst := some 9, op := SOp.mv (Operand.tmp 32), guard := none }]
def c26_r10 : List SIns := [
  { dst := some 10, op := SOp.mv (Operand.const (Value.int (IntKind.i64) 0)), guard := none }]
def c26_r11 : List SIns := [
  { dst := some 33, op := SOp.mv (Operand.tmp 10), guard := none },
  { dst := some 34, op := SOp.mv (Operand.tmp 1), guard := none },
  { dst := some 35, op := SOp.lenSl (Operand.tmp 34), guard := none },
  { dst := some 36, op := SOp.ib (BinOp.lss) (Operand.tmp 33) (Operand.tmp 35), guard := none }]
def c26_r12 : List SIns := [
  { dst := some 39, op := SOp.mv (Operand.tmp 1), guard := none },
  { dst := some 40, op := SOp.mv (Operand.tmp 10), guard := none },
  { dst := some 41, op := SOp.idx 1 (Operand.tmp 39) (Operand.tmp 40), guard := none },
  { dst := some 42, op := SOp.load1 (Operand.tmp 41), guard := none },
  { dst := some 43, op := SOp.mv (Operand.tmp 8), guard := none },
  { dst := some 44, op := SOp.ib (BinOp.eql) (Operand.tmp 42) (Operand.tmp 43), guard := none }]
def c26_r13 : List SIns := [
  { dst := some 45, op := SOp.mv (Operand.tmp 1), guard := none },
  { dst := some 46, op := SOp.lenSl (Operand.tmp 45), guard := none },
  { dst := some 47, op := SOp.ib (BinOp.sub) (Operand.tmp 46) (Operand.const (Value.int (IntKind.i64) 1)), guard := none },
  { dst := some 48, op := SOp.mv (Operand.tmp 10), guard := none },
  { dst := some 49, op := SOp.ib (BinOp.sub) (Operand.tmp 47) (Operand.tmp 48), guard := none },
  { dst := some 9, op := SOp.mv (Operand.tmp 49), guard := none }]
def c26_r14 : List SIns := [
  { dst := some 37, op := SOp.mv (Operand.tmp 10), guard := none },
  { dst := some 38, op := SOp.ib (BinOp.add) (Operand.tmp 37) (Operand.const (Value.int (IntKind.i64) 1)), guard := none },
  { dst := some 10, op := SOp.mv (Operand.tmp 38), guard := none }]
def c26_l0 : SCode := (.seq (.seq (.reg c26_r11 [0, 1, 7, 8, 9, 10, 36]) (.cond (Operand.tmp 36) .skip (.exit 2))) (.seq (.block 3 (.seq (.reg c26_r12 [0, 1, 7, 8, 9, 10, 44]) (.cond (Operand.tmp 44) (.reg c26_r13 [0, 1, 7, 8, 9, 10]) .skip))) (.reg c26_r14 [0, 1, 7, 8, 9, 10])))
def c26_r15 : List SIns := [
  { dst := some 50, op := SOp.mv (Operand.tmp 7), guard := none },
  { dst := some 51, op := SOp.mv (Operand.tmp 0), guard := none },
  { dst := some 52, op := SOp.mv (Operand.tmp 8), guard := none },
  { dst := some 53, op := SOp.idx 1 (Operand.tmp 51) (Operand.tmp 52), guard := none },
  { dst := some 54, op := SOp.load1 (Operand.tmp 53), guard := none },
  { dst := some 55, op := SOp.mv (Operand.tmp 9), guard := none },
  { dst := some 56, op := SOp.ib (BinOp.sub) (Operand.tmp 54) (Operand.tmp 55), guard := none },
  { dst := some 57, op := SOp.mks 1 1 [Value.int (IntKind.i64) 0] [(0, 1, Operand.tmp 56)], guard := none },
  { dst := some 58, op := SOp.app 1 8 (Operand.tmp 50) (Operand.tmp 57), guard := none },
  { dst := some 7, op := SOp.mv (Operand.tmp 58), guard := none }]
def c26_r16 : List SIns := [
  { dst := some 29, op := SOp.mv (Operand.tmp 8), guard := none },
  { dst := some 30, op := SOp.ib (BinOp.add) (Operand.tmp 29) (Operand.const (Value.int (IntKind.i64) 1)), guard := none },
  { dst := some 8, op := SOp.mv (Operand.tmp 30), guard := none }]
def c26_l1 : SCode := (.seq (.seq (.reg c26_r8 [0, 1, 7, 8, 28]) (.cond (Operand.tmp 28) .skip (.exit 0))) (.seq (.block 1 (.seq (.reg c26_r9 [0, 1, 7, 8, 9]) (.seq (.seq (.reg c26_r10 [0, 1, 7, 8, 9, 10]) (.block 2 (.loop c26_l0))) (.reg c26_r15 [0, 1, 7, 8])))) (.reg c26_r16 [0, 1, 7, 8])))
def c26_r17 : List SIns := [
  { dst := some 59, op := SOp.mv (Operand.tmp 7), guard := none },
  { dst := some 4, op := SOp.mv (Operand.tmp 59), guard := none },
  { dst := some 5, op := SOp.mv (Operand.const (Value.int (IntKind.i64) 0)), guard := none }]
def c26 : SCode := (.seq (.reg c26_r0 [0, 1]) (.seq (.reg c26_r1 [0, 1, 6]) (.seq (.seq (.reg c26_r2 [0, 1, 6, 21]) (.cond (Operand.tmp 21) (.reg c26_r3 [0, 1, 6]) .skip)) (.seq (.seq (.reg c26_r4 [0, 1, 6, 23]) (.cond (Operand.tmp 23) (.seq (.reg c26_r5 [4, 5]) .ret) .skip)) (.seq (.reg c26_r6 [0, 1, 7]) (.seq (.seq (.reg c26_r7 [0, 1, 7, 8]) (.block 0 (.loop c26_l1))) (.seq (.reg c26_r17 [4, 5]) .ret)))))))
theorem F26 : Fn Try.prog 26 c26 [SRes.tmp 4, SRes.tmp 5] 60 := ⟨Try.f26, Try.f26.body.getD .skip, [[0, 1], [0, 1, 6], [0, 1, 6, 21], [0, 1, 6], [0, 1, 6, 23], [4, 5], [0, 1, 7], [0, 1, 7, 8], [0, 1, 7, 8, 28], [0, 1, 7, 8, 9], [0, 1, 7, 8, 9, 10], [0, 1, 7, 8, 9, 10, 36], [0, 1, 7, 8, 9, 10, 44], [0, 1, 7, 8, 9, 10], [0, 1, 7, 8, 9, 10], [0, 1, 7, 8], [0, 1, 7, 8], [4, 5]], Try.func26, by kernel_rfl, by kernel_rfl, by kernel_rfl, by kernel_rfl, by decide⟩

def c28_r0 : List SIns := [
  { dst := some 4, op := SOp.mv (Operand.const (Value.bool false)), guard := none },
  { dst := some 5, op := SOp.mv (Operand.const (Value.int (IntKind.i64) 0)), guard := none }]
def c28_r1 : List SIns := [
  { dst := some 11, op := SOp.mv (Operand.tmp 0), guard := none },
  { dst := some 12, op := SOp.mv (Operand.tmp 1), guard := none },
  { dst := some 13, op := SOp.call 26 [Operand.tmp 11, Operand.tmp 12], guard := none },
  { dst := some 10, op := SOp.mv (Operand.tmp 13), guard := none },
  { dst := some 14, op := SOp.ext (Operand.tmp 10) 0, guard := none },
  { dst := some 15, op := SOp.ext (Operand.tmp 10) 1, guard := none },
  { dst := some 6, op := SOp.mv (Operand.tmp 14), guard := none },
  { dst := some 7, op := SOp.mv (Operand.tmp 15), guard := none }]
def c28_r2 : List SIns := [
  { dst := some 16, op := SOp.mv (Operand.tmp 7), guard := none },
  { dst := some 17, op := SOp.ib (BinOp.neq) (Operand.tmp 16) (Operand.const (Value.int (IntKind.i64) 0)), guard := none }]
def c28_r3 : List SIns := [
  { dst := some 18, op := SOp.mv (Operand.tmp 7), guard := none },
  { dst := some 4, op := SOp.mv (Operand.const (Value.bool false)), guard := none },
  { dst := some 5, op := SOp.mv (Operand.tmp 18), guard := none }]
def c28_r4 : List SIns := [
  { dst := some 19, op := SOp.mv (Operand.tmp 0), guard := none },
  { dst := some 20, op := SOp.call 56 [Operand.tmp 19], guard := none },
  { dst := some 21, op := SOp.nt (Operand.tmp 20), guard := none }]
def c28_r5 : List SIns := [
  { dst := some 4, op := SOp.mv (Operand.const (Value.bool false)), guard := none },
  { dst := some 5, op := SOp.mv (Operand.const (Value.int (IntKind.i64) 0)), guard := none }]
def c28_r6 : List SIns := [
  { dst := some 23, op := SOp.mv (Operand.tmp 0), guard := none },
  { dst := some 24, op := SOp.call 57 [Operand.tmp 23], guard := none },
  { dst := some 22, op := SOp.mv (Operand.tmp 24), guard := none },
  { dst := some 25, op := SOp.ext (Operand.tmp 22) 0, guard := none },
  { dst := some 26, op := SOp.ext (Operand.tmp 22) 1, guard := none },
  { dst := some 8, op := SOp.mv (Operand.tmp 25), guard := none },
  { dst := some 9, op := SOp.mv (Operand.tmp 26), guard := none }]
def c28_r7 : List SIns := [
  { dst := some 27, op := SOp.mv (Operand.tmp 8), guard := none },
  { dst := some 28, op := SOp.mv (Operand.tmp 0), guard := none },
  { dst := some 29, op := SOp.mv (Operand.tmp 6), guard := none },
  { dst := some 30, op := SOp.call 65 [Operand.tmp 28, Operand.tmp 29], guard := none },
  { dst := some 31, op := SOp.idx 1 (Operand.tmp 27) (Operand.tmp 30), guard := none },
  { dst := some 32, op := SOp.load1 (Operand.tmp 31), guard := none },
  { dst := some 4, op := SOp.mv (Operand.tmp 32), guard := none },
  { dst := some 5, op := SOp.mv (Operand.const (Value.int (IntKind.i64) 0)), guard := none }]
def c28 : SCode := (.seq (.reg c28_r0 [0, 1]) (.seq (.reg c28_r1 [0, 6, 7]) (.seq (.seq (.reg c28_r2 [0, 6, 7, 17]) (.cond (Operand.tmp 17) (.seq (.reg c28_r3 [4, 5]) .ret) .skip)) (.seq (.seq (.reg c28_r4 [0, 6, 21]) (.cond (Operand.tmp 21) (.seq (.reg c28_r5 [4, 5]) .ret) .skip)) (.seq (.reg c28_r6 [0, 6, 8]) (.seq (.reg c28_r7 [4, 5]) .ret))))))
theorem F28 : Fn Try.prog 28 c28 [SRes.tmp 4, SRes.tmp 5] 33 := ⟨Try.f28, Try.f28.body.getD .skip, [[0, 1], [0, 6, 7], [0, 6, 7, 17], [4, 5], [0, 6, 21], [4, 5], [0, 6, 8], [4, 5]], Try.func28, by kernel_rfl, by kernel_rfl, by kernel_rfl, by kernel_rfl, by decide⟩

def c31_r0 : List SIns := [
  { dst := some 4, op := SOp.mv (Operand.const (Value.int (IntKind.i64) 0)), guard := none }]
def c31_r1 : List SIns := [
  { dst := some 8, op := SOp.mv (Operand.tmp 0), guard := none },
  { dst := some 9, op := SOp.call 24 [Operand.tmp 8], guard := none },
  { dst := some 5, op := SOp.mv (Operand.tmp 9), guard := none }]
def c31_r2 : List SIns := [
  { dst := some 10, op := SOp.mv (Operand.tmp 5), guard := none },
  { dst := some 11, op := SOp.ib (BinOp.eql) (Operand.tmp 10) (Operand.const (Value.int (IntKind.i64) 0)), guard := none },
  { dst := some 12, op := SOp.mv (Operand.tmp 11), guard := none },
  { dst := some 13, op := SOp.mv (Operand.tmp 1), guard := some (12, true) },
  { dst := some 14, op := SOp.lenSl (Operand.tmp 13), guard := some (12, true) },
  { dst := some 15, op := SOp.ib (BinOp.eql) (Operand.tmp 14) (Operand.const (Value.int (IntKind.i64) 0)), guard := some (12, true) },
  { dst := some 16, op := SOp.pick (Operand.tmp 12) (Operand.tmp 15) (Operand.const (Value.bool false)), guard := none }]
def c31_r3 : List SIns := [
  { dst := some 5, op := SOp.mv (Operand.const (Value.int (IntKind.i64) 4)), guard := none }]
def c31_r4 : List SIns := [
  { dst := some 17, op := SOp.mv (Operand.tmp 5), guard := none },
  { dst := some 18, op := SOp.ib (BinOp.eql) (Operand.tmp 17) (Operand.const (Value.int (IntKind.i64) 0)), guard := none }]
def c31_r5 : List SIns := [
  { dst := some 19, op := SOp.mv (Operand.tmp 0), guard := none },
  { dst := some 20, op := SOp.mv (Operand.tmp 1), guard := none },
  { dst := some 21, op := SOp.call 63 [Operand.tmp 19, Operand.tmp 20], guard := none },
  { dst := some 5, op := SOp.mv (Operand.tmp 21), guard := none }]
def c31_r6 : List SIns := [
  { dst := some 22, op := SOp.mv (Operand.tmp 5), guard := none },
  { dst := some 23, op := SOp.ib (BinOp.neq) (Operand.tmp 22) (Operand.const (Value.int (IntKind.i64) 0)), guard := none }]
def c31_r7 : List SIns := [
  { dst := some 24, op := SOp.mv (Operand.tmp 5), guard := none },
  { dst := some 4, op := SOp.mv (Operand.tmp 24), guard := none }]
def c31_r8 : List SIns := [
  { dst := some 6, op := SOp.mv (Operand.const (Value.slice none 0 0)), guard := none }]
def c31_r9 : List SIns := [
  { dst := some 7, op := SOp.mv (Operand.const (Value.int (IntKind.i64) 0)), guard := none }]
def c31_r10 : List SIns := [
  { dst := some 25, op := SOp.mv (Operand.tmp 7), guard := none },
  { dst := some 26, op := SOp.ib (BinOp.lss) (Operand.tmp 25) (Operand.const (Value.int (IntKind.i64) 9)), guard := none }]
def c31_r11 : List SIns := [
  { dst := some 29, op := SOp.mv (Operand.tmp 6), guard := none },
  { dst := some 30, op := SOp.mv (Operand.tmp 1), guard := none },
  { dst := some 31, op := SOp.app 1 8 (Operand.tmp 29) (Operand.tmp 30), guard := none },
  { dst := some 6, op := SOp.mv (Operand.tmp 31), guard := none }]
def c31_r12 : List SIns := [
  { dst := some 27, op := SOp.mv (Operand.tmp 7), guard := none },
  { dst := some 28, op := SOp.ib (BinOp.add) (Operand.tmp 27) (Operand.const (Value.int (IntKind.i64) 1)), guard := none },
  { dst := some 7, op := SOp.mv (Operand.tmp 28), guard := none }]
def c31_l0 : SCode := (.seq (.seq (.reg c31_r10 [0, 1, 6, 7, 26]) (.cond (Operand.tmp 26) .skip (.exit 0))) (.seq (.block 1 (.reg c31_r11 [0, 1, 6, 7])) (.reg c31_r12 [0, 1, 6, 7])))
def c31_r13 : List SIns := [
  { dst := some 32, op := SOp.mv (Operand.tmp 0), guard := none },
  { dst := some 33, op := SOp.mv (Operand.tmp 6), guard := none },
  { dst := some 34, op := SOp.call 64 [Operand.tmp 32, Operand.tmp 33], guard := none },
  { dst := some 35, op := SOp.nt (Operand.tmp 34), guard := none }]
def c31_r14 : List SIns := [
  { dst := some 4, op := SOp.mv (Operand.const (Value.int (IntKind.i64) 14)), guard := none }]
def c31_r15 : List SIns := [
  { dst := some 4, op := SOp.mv (Operand.const (Value.int (IntKind.i64) 0)), guard := none }]
def c31 : SCode := (.seq (.reg c31_r0 [0, 1]) (.seq (.reg c31_r1 [0, 1, 5]) (.seq (.seq (.reg c31_r2 [0, 1, 5, 16]) (.cond (Operand.tmp 16) (.reg c31_r3 [0, 1, 5]) .skip)) (.seq (.seq (.reg c31_r4 [0, 1, 5, 18]) (.cond (Operand.tmp 18) (.reg c31_r5 [0, 1, 5]) .skip)) (.seq (.seq (.reg c31_r6 [0, 1, 5, 23]) (.cond (Operand.tmp 23) (.seq (.reg c31_r7 [4]) .ret) .skip)) (.seq (.reg c31_r8 [0, 1, 6]) (.seq (.seq (.reg c31_r9 [0, 1, 6, 7]) (.block 0 (.loop c31_l0))) (.seq (.seq (.reg c31_r13 [35]) (.cond (Operand.tmp 35) (.seq (.reg c31_r14 [4]) .ret) .skip)) (.seq (.reg c31_r15 [4]) .ret)))))))))
theorem F31 : Fn Try.prog 31 c31 [SRes.tmp 4] 36 := ⟨Try.f31, Try.f31.body.getD .skip, [[0, 1], [0, 1, 5], [0, 1, 5, 16], [0, 1, 5], [0, 1, 5, 18], [0, 1, 5], [0, 1, 5, 23], [4], [0, 1, 6], [0, 1, 6, 7], [0, 1, 6, 7, 26], [0, 1, 6, 7], [0, 1, 6, 7], [35], [4], [4]], Try.func31, by kernel_rfl, by kernel_rfl, by kernel_rfl, by kernel_rfl, by decide⟩

def c33_r0 : List SIns := [
  { dst := some 4, op := SOp.mv (Operand.const (Value.slice none 0 0)), guard := none },
  { dst := some 5, op := SOp.mv (Operand.const (Value.int (IntKind.i64) 0)), guard := none }]
def c33_r1 : List SIns := [
  { dst := some 13, op := SOp.mv (Operand.tmp 0), guard := none },
  { dst := some 14, op := SOp.call 24 [Operand.tmp 13], guard := none },
  { dst := some 6, op := SOp.mv (Operand.tmp 14), guard := none }]
def c33_r2 : List SIns := [
  { dst := some 15, op := SOp.mv (Operand.tmp 6), guard := none },
  { dst := some 16, op := SOp.ib (BinOp.eql) (Operand.tmp 15) (Operand.const (Value.int (IntKind.i64) 0)), guard := none },
  { dst := some 17, op := SOp.mv (Operand.tmp 16), guard := none },
  { dst := some 18, op := SOp.mv (Operand.tmp 1), guard := some (17, true) },
  { dst := some 19, op := SOp.call 61 [Operand.tmp 18, Operand.const (Value.int (IntKind.i64) 0), Operand.const (Value.int (IntKind.i64) 60)], guard := some (17, true) },
  { dst := some 20, op := SOp.nt (Operand.tmp 19), guard := some (17, true) },
  { dst := some 21, op := SOp.pick (Operand.tmp 17) (Operand.tmp 20) (Operand.const (Value.bool false)), guard := none }]
def c33_r3 : List SIns := [
  { dst := some 6, op := SOp.mv (Operand.const (Value.int (IntKind.i64) 1)), guard := none }]
def c33_r4 : List SIns := [
  { dst := some 22, op := SOp.mv (Operand.tmp 6), guard := none },
  { dst := some 23, op := SOp.ib (BinOp.eql) (Operand.tmp 22) (Operand.const (Value.int (IntKind.i64) 0)), guard := none },
  { dst := some 24, op := SOp.mv (Operand.tmp 23), guard := none },
  { dst := some 25, op := SOp.mv (Operand.tmp 0), guard := some (24, true) },
  { dst := some 26, op := SOp.call 56 [Operand.tmp 25], guard := some (24, true) },
  { dst := some 27, op := SOp.nt (Operand.tmp 26), guard := some (24, true) },
  { dst := some 28, op := SOp.pick (Operand.tmp 24) (Operand.tmp 27) (Operand.const (Value.bool false)), guard := none }]
def c33_r5 : List SIns := [
  { dst := some 6, op := SOp.mv (Operand.const (Value.int (IntKind.i64) 12)), guard := none }]
def c33_r6 : List SIns := [
  { dst := some 29, op := SOp.mv (Operand.tmp 6), guard := none },
  { dst := some 30, op := SOp.ib (BinOp.neq) (Operand.tmp 29) (Operand.const (Value.int (IntKind.i64) 0)), guard := none }]
def c33_r7 : List SIns := [
  { dst := some 31, op := SOp.mv (Operand.tmp 6), guard := none },
  { dst := some 4, op := SOp.mv (Operand.const (Value.slice none 0 0)), guard := none },
  { dst := some 5, op := SOp.mv (Operand.tmp 31), guard := none }]
def c33_r8 : List SIns := [
  { dst := some 33, op := SOp.mv (Operand.tmp 0), guard := none },
  { dst := some 34, op := SOp.call 57 [Operand.tmp 33], guard := none },
  { dst := some 32, op := SOp.mv (Operand.tmp 34), guard := none },
  { dst := some 35, op := SOp.ext (Operand.tmp 32) 0, guard := none },
  { dst := some 36, op := SOp.ext (Operand.tmp 32) 1, guard := none },
  { dst := some 7, op := SOp.mv (Operand.tmp 35), guard := none },
  { dst := some 8, op := SOp.mv (Operand.tmp 36), guard := none }]
def c33_r9 : List SIns := [
  { dst := some 37, op := SOp.mv (Operand.tmp 0), guard := none },
  { dst := some 9, op := SOp.mv (Operand.tmp 37), guard := none }]
def c33_r10 : List SIns := [
  { dst := some 10, op := SOp.mv (Operand.const (Value.slice none 0 0)), guard := none }]
def c33_r11 : List SIns := [
  { dst := some 38, op := SOp.mv (Operand.tmp 10), guard := none },
  { dst := some 39, op := SOp.lenSl (Operand.tmp 38), guard := none },
  { dst := some 40, op := SOp.mv (Operand.tmp 1), guard := none },
  { dst := some 41, op := SOp.ib (BinOp.lss) (Operand.tmp 39) (Operand.tmp 40), guard := none }]
def c33_r12 : List SIns := [
  { dst := some 43, op := SOp.mv (Operand.tmp 0), guard := none },
  { dst := some 44, op := SOp.mv (Operand.tmp 9), guard := none },
  { dst := some 45, op := SOp.mv (Operand.tmp 7), guard := none },
  { dst := some 46, op := SOp.call 69 [Operand.tmp 43, Operand.tmp 44, Operand.tmp 45], guard := none },
  { dst := some 42, op := SOp.mv (Operand.tmp 46), guard := none },
  { dst := some 47, op := SOp.ext (Operand.tmp 42) 0, guard := none },
  { dst := some 48, op := SOp.ext (Operand.tmp 42) 1, guard := none },
  { dst := some 11, op := SOp.mv (Operand.tmp 47), guard := none },
  { dst := some 12, op := SOp.mv (Operand.tmp 48), guard := none }]
def c33_r13 : List SIns := [
  { dst := some 49, op := SOp.mv (Operand.tmp 10), guard := none },
  { dst := some 50, op := SOp.mv (Operand.tmp 11), guard := none },
  { dst := some 51, op := SOp.mks 1 1 [Value.int (IntKind.i64) 0] [(0, 1, Operand.tmp 50)], guard := none },
  { dst := some 52, op := SOp.app 1 8 (Operand.tmp 49) (Operand.tmp 51), guard := none },
  { dst := some 10, op := SOp.mv (Operand.tmp 52), guard := none }]
def c33_r14 : List SIns := [
  { dst := some 53, op := SOp.mv (Operand.tmp 12), guard := none },
  { dst := some 9, op := SOp.mv (Operand.tmp 53), guard := none }]
def c33_l0 : SCode := (.seq (.seq (.reg c33_r11 [0, 1, 7, 9, 10, 41]) (.cond (Operand.tmp 41) .skip (.exit 0))) (.block 1 (.seq (.reg c33_r12 [0, 1, 7, 10, 11, 12]) (.seq (.reg c33_r13 [0, 1, 7, 10, 12]) (.reg c33_r14 [0, 1, 7, 9, 10])))))
def c33_r15 : List SIns := [
  { dst := some 54, op := SOp.mv (Operand.tmp 10), guard := none },
  { dst := some 4, op := SOp.mv (Operand.tmp 54), guard := none },
  { dst := some 5, op := SOp.mv (Operand.const (Value.int (IntKind.i64) 0)), guard := none }]
def c33 : SCode := (.seq (.reg c33_r0 [0, 1]) (.seq (.reg c33_r1 [0, 1, 6]) (.seq (.seq (.reg c33_r2 [0, 1, 6, 21]) (.cond (Operand.tmp 21) (.reg c33_r3 [0, 1, 6]) .skip)) (.seq (.seq (.reg c33_r4 [0, 1, 6, 28]) (.cond (Operand.tmp 28) (.reg c33_r5 [0, 1, 6]) .skip)) (.seq (.seq (.reg c33_r6 [0, 1, 6, 30]) (.cond (Operand.tmp 30) (.seq (.reg c33_r7 [4, 5]) .ret) .skip)) (.seq (.reg c33_r8 [0, 1, 7]) (.seq (.reg c33_r9 [0, 1, 7, 9]) (.seq (.reg c33_r10 [0, 1, 7, 9, 10]) (.seq (.block 0 (.loop c33_l0)) (.seq (.reg c33_r15 [4, 5]) .ret))))))))))
theorem F33 : Fn Try.prog 33 c33 [SRes.tmp 4, SRes.tmp 5] 55 := ⟨Try.f33, Try.f33.body.getD .skip, [[0, 1], [0, 1, 6], [0, 1, 6, 21], [0, 1, 6], [0, 1, 6, 28], [0, 1, 6], [0, 1, 6, 30], [4, 5], [0, 1, 7], [0, 1, 7, 9], [0, 1, 7, 9, 10], [0, 1, 7, 9, 10, 41], [0, 1, 7, 10, 11, 12], [0, 1, 7, 10, 12], [0, 1, 7, 9, 10], [4, 5]], Try.func33, by kernel_rfl, by kernel_rfl, by kernel_rfl, by kernel_rfl, by decide⟩

def c63_r0 : List SIns := [
  { dst := some 4, op := SOp.mv (Operand.const (Value.int (IntKind.i64) 0)), guard := none }]
def c63_r1 : List SIns := [
  { dst := some 7, op := SOp.mv (Operand.tmp 0), guard := none },
  { dst := some 8, op := SOp.call 24 [Operand.tmp 7], guard := none },
  { dst := some 5, op := SOp.mv (Operand.tmp 8), guard := none }]
def c63_r2 : List SIns := [
  { dst := some 9, op := SOp.mv (Operand.tmp 5), guard := none },
  { dst := some 10, op := SOp.ib (BinOp.eql) (Operand.tmp 9) (Operand.const (Value.int (IntKind.i64) 0)), guard := none },
  { dst := some 11, op := SOp.mv (Operand.tmp 10), guard := none },
  { dst := some 12, op := SOp.mv (Operand.tmp 1), guard := some (11, true) },
  { dst := some 13, op := SOp.lenSl (Operand.tmp 12), guard := some (11, true) },
  { dst := some 14, op := SOp.ib (BinOp.gtr) (Operand.tmp 13) (Operand.const (Value.int (IntKind.i64) 60)), guard := some (11, true) },
  { dst := some 15, op := SOp.pick (Operand.tmp 11) (Operand.tmp 14) (Operand.const (Value.bool false)), guard := none }]
def c63_r3 : List SIns := [
  { dst := some 5, op := SOp.mv (Operand.const (Value.int (IntKind.i64) 19)), guard := none }]
def c63_r4 : List SIns := [
  { dst := some 6, op := SOp.mv (Operand.const (Value.int (IntKind.i64) 0)), guard := none }]
def c63_r5 : List SIns := [
  { dst := some 16, op := SOp.mv (Operand.tmp 6), guard := none },
  { dst := some 17, op := SOp.mv (Operand.tmp 1), guard := none },
  { dst := some 18, op := SOp.lenSl (Operand.tmp 17), guard := none },
  { dst := some 19, op := SOp.ib (BinOp.lss) (Operand.tmp 16) (Operand.tmp 18), guard := none },
  { dst := some 20, op := SOp.mv (Operand.tmp 19), guard := none },
  { dst := some 21, op := SOp.mv (Operand.tmp 5), guard := some (20, true) },
  { dst := some 22, op := SOp.ib (BinOp.eql) (Operand.tmp 21) (Operand.const (Value.int (IntKind.i64) 0)), guard := some (20, true) },
  { dst := some 23, op := SOp.pick (Operand.tmp 20) (Operand.tmp 22) (Operand.const (Value.bool false)), guard := none }]
def c63_r6 : List SIns := [
  { dst := some 26, op := SOp.mv (Operand.tmp 1), guard := none },
  { dst := some 27, op := SOp.mv (Operand.tmp 6), guard := none },
  { dst := some 28, op := SOp.idx 1 (Operand.tmp 26) (Operand.tmp 27), guard := none },
  { dst := some 29, op := SOp.load1 (Operand.tmp 28), guard := none },
  { dst := some 30, op := SOp.mv (Operand.tmp 0), guard := none },
  { dst := some 31, op := SOp.lenSl (Operand.tmp 30), guard := none },
  { dst := some 32, op := SOp.ib (BinOp.sub) (Operand.tmp 31) (Operand.const (Value.int (IntKind.i64) 1)), guard := none },
  { dst := some 33, op := SOp.call 61 [Operand.tmp 29, Operand.const (Value.int (IntKind.i64) 0), Operand.tmp 32], guard := none },
  { dst := some 34, op := SOp.nt (Operand.tmp 33), guard := none }]
def c63_r7 : List SIns := [
  { dst := some 5, op := SOp.mv (Operand.const (Value.int (IntKind.i64) 2)), guard := none }]
def c63_r8 : List SIns := [
  { dst := some 24, op := SOp.mv (Operand.tmp 6), guard := none },
  { dst := some 25, op := SOp.ib (BinOp.add) (Operand.tmp 24) (Operand.const (Value.int (IntKind.i64) 1)), guard := none },
  { dst := some 6, op := SOp.mv (Operand.tmp 25), guard := none }]
def c63_l0 : SCode := (.seq (.seq (.reg c63_r5 [0, 1, 5, 6, 23]) (.cond (Operand.tmp 23) .skip (.exit 0))) (.seq (.block 1 (.seq (.reg c63_r6 [0, 1, 5, 6, 34]) (.cond (Operand.tmp 34) (.reg c63_r7 [0, 1, 5, 6]) .skip))) (.reg c63_r8 [0, 1, 5, 6])))
def c63_r9 : List SIns := [
  { dst := some 35, op := SOp.mv (Operand.tmp 5), guard := none },
  { dst := some 4, op := SOp.mv (Operand.tmp 35), guard := none }]
def c63 : SCode := (.seq (.reg c63_r0 [0, 1]) (.seq (.reg c63_r1 [0, 1, 5]) (.seq (.seq (.reg c63_r2 [0, 1, 5, 15]) (.cond (Operand.tmp 15) (.reg c63_r3 [0, 1, 5]) .skip)) (.seq (.seq (.reg c63_r4 [0, 1, 5, 6]) (.block 0 (.loop c63_l0))) (.seq (.reg c63_r9 [4]) .ret)))))
theorem F63 : Fn Try.prog 63 c63 [SRes.tmp 4] 36 := ⟨Try.f63, Try.f63.body.getD .skip, [[0, 1], [0, 1, 5], [0, 1, 5, 15], [0, 1, 5], [0, 1, 5, 6], [0, 1, 5, 6, 23], [0, 1, 5, 6, 34], [0, 1, 5, 6], [0, 1, 5, 6], [4]], Try.func63, by kernel_rfl, by kernel_rfl, by kernel_rfl, by kernel_rfl, by decide⟩

def c64_r0 : List SIns := [
  { dst := some 4, op := SOp.mv (Operand.const (Value.bool false)), guard := none }]
def c64_r1 : List SIns := [
  { dst := some 5, op := SOp.mv (Operand.const (Value.int (IntKind.i64) 0)), guard := none }]
def c64_r2 : List SIns := [
  { dst := some 8, op := SOp.mv (Operand.tmp 5), guard := none },
  { dst := some 9, op := SOp.mv (Operand.tmp 0), guard := none },
  { dst := some 10, op := SOp.lenSl (Operand.tmp 9), guard := none },
  { dst := some 11, op := SOp.ib (BinOp.lss) (Operand.tmp 8) (Operand.tmp 10), guard := none }]
def c64_r3 : List SIns := [
  { dst := some 6, op := SOp.mv (Operand.const (Value.int (IntKind.i64) 0)), guard := none }]
def c64_r4 : List SIns := [
  { dst := some 7, op := SOp.mv (Operand.const (Value.int (IntKind.i64) 0)), guard := none }]
def c64_r5 : List SIns := [
  { dst := some 14, op := SOp.mv (Operand.tmp 7), guard := none },
  { dst := some 15, op := SOp.mv (Operand.tmp 1), guard := none },
  { dst := some 16, op := SOp.lenSl (Operand.tmp 15), guard := none },
  { dst := some 17, op := SOp.ib (BinOp.lss) (Operand.tmp 14) (Operand.tmp 16), guard := none }]
def c64_r6 : List SIns := [
  { dst := some 20, op := SOp.mv (Operand.tmp 6), guard := none },
  { dst := some 21, op := SOp.ib (BinOp.add) (Operand.tmp 20) (Operand.const (Value.int (IntKind.i64) 1)), guard := none },
  { dst := some 6, op := SOp.mv (Operand.tmp 21), guard := none }]
def c64_r7 : List SIns := [
  { dst := some 22, op := SOp.mv (Operand.tmp 1), guard := none },
  { dst := some 23, op := SOp.mv (Operand.tmp 7), guard := none },
  { dst := some 24, op := SOp.idx 1 (Operand.tmp 22) (Operand.tmp 23), guard := none },
  { dst := some 25, op := SOp.load1 (Operand.tmp 24), guard := none },
  { dst := some 26, op := SOp.mv (Operand.tmp 5), guard := none },
  { dst := some 27, op := SOp.ib (BinOp.eql) (Operand.tmp 25) (Operand.tmp 26), guard := none }]
def c64_r8 : List SIns := [
  { dst := some 6, op := SOp.mv (Operand.const (Value.int (IntKind.i64) 0)), guard := none }]
def c64_r9 : List SIns := [
  { dst := some 28, op := SOp.mv (Operand.tmp 6), guard := none },
  { dst := some 29, op := SOp.mv (Operand.tmp 0), guard := none },
  { dst := some 30, op := SOp.mv (Operand.tmp 5), guard := none },
  { dst := some 31, op := SOp.idx 1 (Operand.tmp 29) (Operand.tmp 30), guard := none },
  { dst := some 32, op := SOp.load1 (Operand.tmp 31), guard := none },
  { dst := some 33, op := SOp.ib (BinOp.eql) (Operand.tmp 28) (Operand.tmp 32), guard := none }]
def c64_r10 : List SIns := [
  { dst := some 4, op := SOp.mv (Operand.const (Value.bool false)), guard := none }]
def c64_r11 : List SIns := [
  { dst := some 18, op := SOp.mv (Operand.tmp 7), guard := none },
  { dst := some 19, op := SOp.ib (BinOp.add) (Operand.tmp 18) (Operand.const (Value.int (IntKind.i64) 1)), guard := none },
  { dst := some 7, op := SOp.mv (Operand.tmp 19), guard := none }]
def c64_l0 : SCode := (.seq (.seq (.reg c64_r5 [0, 1, 5, 6, 7, 17]) (.cond (Operand.tmp 17) .skip (.exit 2))) (.seq (.block 3 (.seq (.reg c64_r6 [0, 1, 5, 6, 7]) (.seq (.seq (.reg c64_r7 [0, 1, 5, 6, 7, 27]) (.cond (Operand.tmp 27) (.reg c64_r8 [0, 1, 5, 6, 7]) .skip)) (.seq (.reg c64_r9 [0, 1, 5, 6, 7, 33]) (.cond (Operand.tmp 33) (.seq (.reg c64_r10 [4]) .ret) .skip))))) (.reg c64_r11 [0, 1, 5, 6, 7])))
def c64_r12 : List SIns := [
  { dst := some 12, op := SOp.mv (Operand.tmp 5), guard := none },
  { dst := some 13, op := SOp.ib (BinOp.add) (Operand.tmp 12) (Operand.const (Value.int (IntKind.i64) 1)), guard := none },
  { dst := some 5, op := SOp.mv (Operand.tmp 13), guard := none }]
def c64_l1 : SCode := (.seq (.seq (.reg c64_r2 [0, 1, 5, 11]) (.cond (Operand.tmp 11) .skip (.exit 0))) (.seq (.block 1 (.seq (.reg c64_r3 [0, 1, 5, 6]) (.seq (.reg c64_r4 [0, 1, 5, 6, 7]) (.block 2 (.loop c64_l0))))) (.reg c64_r12 [0, 1, 5])))
def c64_r13 : List SIns := [
  { dst := some 4, op := SOp.mv (Operand.const (Value.bool true)), guard := none }]
def c64 : SCode := (.seq (.reg c64_r0 [0, 1]) (.seq (.seq (.reg c64_r1 [0, 1, 5]) (.block 0 (.loop c64_l1))) (.seq (.reg c64_r13 [4]) .ret)))
theorem F64 : Fn Try.prog 64 c64 [SRes.tmp 4] 34 := ⟨Try.f64, Try.f64.body.getD .skip, [[0, 1], [0, 1, 5], [0, 1, 5, 11], [0, 1, 5, 6], [0, 1, 5, 6, 7], [0, 1, 5, 6, 7, 17], [0, 1, 5, 6, 7], [0, 1, 5, 6, 7, 27], [0, 1, 5, 6, 7], [0, 1, 5, 6, 7, 33], [4], [0, 1, 5, 6, 7], [0, 1, 5], [4]], Try.func64, by kernel_rfl, by kernel_rfl, by kernel_rfl, by kernel_rfl, by decide⟩

def c69_r0 : List SIns := [
  { dst := some 6, op := SOp.mv (Operand.const (Value.int (IntKind.i64) 0)), guard := none },
  { dst := some 7, op := SOp.mv (Operand.const (Value.slice none 0 0)), guard := none }]
def c69_r1 : List SIns := [
  { dst := some 8, op := SOp.mv (Operand.const (Value.int (IntKind.i64) 0)), guard := none }]
def c69_r2 : List SIns := [
  { dst := some 12, op := SOp.mv (Operand.tmp 0), guard := none },
  { dst := some 13, op := SOp.mv (Operand.tmp 1), guard := none },
  { dst := some 14, op := SOp.mv (Operand.tmp 8), guard := none },
  { dst := some 15, op := SOp.call 79 [Operand.tmp 12, Operand.tmp 13, Operand.tmp 14], guard := none },
  { dst := some 11, op := SOp.mv (Operand.tmp 15), guard := none },
  { dst := some 16, op := SOp.ext (Operand.tmp 11) 0, guard := none },
  { dst := some 17, op := SOp.ext (Operand.tmp 11) 1, guard := none },
  { dst := some 9, op := SOp.mv (Operand.tmp 16), guard := none },
  { dst := some 10, op := SOp.mv (Operand.tmp 17), guard := none }]
def c69_r3 : List SIns := [
  { dst := some 18, op := SOp.mv (Operand.tmp 10), guard := none },
  { dst := some 19, op := SOp.nt (Operand.tmp 18), guard := none },
  { dst := some 20, op := SOp.mv (Operand.tmp 19), guard := none },
  { dst := some 21, op := SOp.mv (Operand.tmp 2), guard := some (20, false) },
  { dst := some 22, op := SOp.mv (Operand.tmp 0), guard := some (20, false) },
  { dst := some 23, op := SOp.mv (Operand.tmp 9), guard := some (20, false) },
  { dst := some 24, op := SOp.call 65 [Operand.tmp 22, Operand.tmp 23], guard := some (20, false) },
  { dst := some 25, op := SOp.idx 1 (Operand.tmp 21) (Operand.tmp 24), guard := some (20, false) },
  { dst := some 26, op := SOp.load1 (Operand.tmp 25), guard := some (20, false) },
  { dst := some 27, op := SOp.nt (Operand.tmp 26), guard := some (20, false) },
  { dst := some 28, op := SOp.pick (Operand.tmp 20) (Operand.const (Value.bool true)) (Operand.tmp 27), guard := none }]
def c69_r4 : List SIns := [
  { dst := some 29, op := SOp.mv (Operand.tmp 8), guard := none },
  { dst := some 30, op := SOp.ib (BinOp.add) (Operand.tmp 29) (Operand.const (Value.int (IntKind.i64) 1)), guard := none },
  { dst := some 8, op := SOp.mv (Operand.tmp 30), guard := none }]
def c69_r5 : List SIns := [
  { dst := some 32, op := SOp.mv (Operand.tmp 0), guard := none },
  { dst := some 33, op := SOp.mv (Operand.tmp 1), guard := none },
  { dst := some 34, op := SOp.mv (Operand.tmp 8), guard := none },
  { dst := some 35, op := SOp.call 79 [Operand.tmp 32, Operand.tmp 33, Operand.tmp 34], guard := none },
  { dst := some 31, op := SOp.mv (Operand.tmp 35), guard := none },
  { dst := some 36, op := SOp.ext (Operand.tmp 31) 0, guard := none },
  { dst := some 37, op := SOp.ext (Operand.tmp 31) 1, guard := none },
  { dst := some 9, op := SOp.mv (Operand.tmp 36), guard := none },
  { dst := some 10, op := SOp.mv (Operand.tmp 37), guard := none }]
def c69_l0 : SCode := (.seq (.seq (.reg c69_r3 [0, 1, 2, 8, 9, 28]) (.cond (Operand.tmp 28) .skip (.exit 0))) (.block 1 (.seq (.reg c69_r4 [0, 1, 2, 8]) (.reg c69_r5 [0, 1, 2, 8, 9, 10]))))
def c69_r6 : List SIns := [
  { dst := some 38, op := SOp.mv (Operand.tmp 8), guard := none },
  { dst := some 39, op := SOp.mv (Operand.tmp 9), guard := none },
  { dst := some 6, op := SOp.mv (Operand.tmp 38), guard := none },
  { dst := some 7, op := SOp.mv (Operand.tmp 39), guard := none }]
def c69 : SCode := (.seq (.reg c69_r0 [0, 1, 2]) (.seq (.reg c69_r1 [0, 1, 2, 8]) (.seq (.reg c69_r2 [0, 1, 2, 8, 9, 10]) (.seq (.block 0 (.loop c69_l0)) (.seq (.reg c69_r6 [6, 7]) .ret)))))
theorem F69 : Fn Try.prog 69 c69 [SRes.tmp 6, SRes.tmp 7] 40 := ⟨Try.f69, Try.f69.body.getD .skip, [[0, 1, 2], [0, 1, 2, 8], [0, 1, 2, 8, 9, 10], [0, 1, 2, 8, 9, 28], [0, 1, 2, 8], [0, 1, 2, 8, 9, 10], [6, 7]], Try.func69, by kernel_rfl, by kernel_rfl, by kernel_rfl, by kernel_rfl, by decide⟩

end Go.Sx.Wk
