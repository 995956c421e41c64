/- The codes of the functions, written by a program (Gen.lean), and that they are the functions'. No conditions. -/
import Derived.Test.YtmakepdccccmaaaSxN
import Derived.KernelRfl
import Derived.Test.YtmakepdccccmaaaProg
set_option linter.unusedVariables false
set_option maxRecDepth 100000
namespace Go.Sx.Wk
open Go Go.Sx Go.Proofs

def c29_r0 : List SIns := [
  { dst := some 4, op := SOp.mv (Operand.const (Value.bool false)), guard := none }]
def c29_r1 : List SIns := [
  { dst := some 6, op := SOp.mv (Operand.tmp 0), guard := none },
  { dst := some 7, op := SOp.lenSl (Operand.tmp 6), guard := none },
  { dst := some 8, op := SOp.mv (Operand.tmp 1), guard := none },
  { dst := some 9, op := SOp.lenSl (Operand.tmp 8), guard := none },
  { dst := some 10, op := SOp.ib (BinOp.neq) (Operand.tmp 7) (Operand.tmp 9), guard := none }]
def c29_r2 : List SIns := [
  { dst := some 4, op := SOp.mv (Operand.const (Value.bool false)), guard := none }]
def c29_r3 : List SIns := [
  { dst := some 5, op := SOp.mv (Operand.const (Value.int (IntKind.i64) 0)), guard := none }]
def c29_r4 : List SIns := [
  { dst := some 11, op := SOp.mv (Operand.tmp 5), guard := none },
  { dst := some 12, op := SOp.mv (Operand.tmp 0), guard := none },
  { dst := some 13, op := SOp.lenSl (Operand.tmp 12), guard := none },
  { dst := some 14, op := SOp.ib (BinOp.lss) (Operand.tmp 11) (Operand.tmp 13), guard := none }]
def c29_r5 : List SIns := [
  { dst := some 17, op := SOp.mv (Operand.tmp 0), guard := none },
  { dst := some 18, op := SOp.mv (Operand.tmp 5), guard := none },
  { dst := some 19, op := SOp.idx 1 (Operand.tmp 17) (Operand.tmp 18), guard := none },
  { dst := some 20, op := SOp.load1 (Operand.tmp 19), guard := none },
  { dst := some 21, op := SOp.mv (Operand.tmp 1), guard := none },
  { dst := some 22, op := SOp.mv (Operand.tmp 5), guard := none },
  { dst := some 23, op := SOp.idx 1 (Operand.tmp 21) (Operand.tmp 22), guard := none },
  { dst := some 24, op := SOp.load1 (Operand.tmp 23), guard := none },
  { dst := some 25, op := SOp.ib (BinOp.neq) (Operand.tmp 20) (Operand.tmp 24), guard := none }]
def c29_r6 : List SIns := [
  { dst := some 4, op := SOp.mv (Operand.const (Value.bool false)), guard := none }]
def c29_r7 : List SIns := [
  { dst := some 15, op := SOp.mv (Operand.tmp 5), guard := none },
  { dst := some 16, op := SOp.ib (BinOp.add) (Operand.tmp 15) (Operand.const (Value.int (IntKind.i64) 1)), guard := none },
  { dst := some 5, op := SOp.mv (Operand.tmp 16), guard := none }]
def c29_l0 : SCode := (.seq (.seq (.reg c29_r4 [0, 1, 5, 14]) (.cond (Operand.tmp 14) .skip (.exit 0))) (.seq (.block 1 (.seq (.draw c29_r5 [[], [], [0, 1], [2, 0, 1], [], [], [4, 5], [6, 4, 5], [3, 7, 2, 0, 1, 6, 4, 5]] [0, 1, 5, 25]) (.cond (Operand.tmp 25) (.seq (.reg c29_r6 [4]) .ret) .skip))) (.reg c29_r7 [0, 1, 5])))
def c29_r8 : List SIns := [
  { dst := some 4, op := SOp.mv (Operand.const (Value.bool true)), guard := none }]
def c29 : SCode := (.seq (.reg c29_r0 [0, 1]) (.seq (.seq (.reg c29_r1 [0, 1, 10]) (.cond (Operand.tmp 10) (.seq (.reg c29_r2 [4]) .ret) .skip)) (.seq (.seq (.reg c29_r3 [0, 1, 5]) (.block 0 (.loop c29_l0))) (.seq (.reg c29_r8 [4]) .ret))))
theorem F29 : Fn Try.prog 29 c29 [SRes.tmp 4] 26 := ⟨Try.f29, Try.f29.body.getD .skip, [[0, 1], [0, 1, 10], [4], [0, 1, 5], [0, 1, 5, 14], [0, 1, 5, 25], [4], [0, 1, 5], [4]], Try.func29, by kernel_rfl, by kernel_rfl, by kernel_rfl, by kernel_rfl, by decide⟩

def c60_r0 : List SIns := [
  { dst := some 6, op := SOp.mv (Operand.const (Value.bool false)), guard := none }]
def c60_r1 : List SIns := [
  { dst := some 7, op := SOp.mv (Operand.tmp 0), guard := none },
  { dst := some 8, op := SOp.mv (Operand.tmp 1), guard := none },
  { dst := some 9, op := SOp.ib (BinOp.leq) (Operand.tmp 7) (Operand.tmp 8), guard := none },
  { dst := some 10, op := SOp.mv (Operand.tmp 9), guard := none },
  { dst := some 11, op := SOp.mv (Operand.tmp 1), guard := some (10, true) },
  { dst := some 12, op := SOp.mv (Operand.tmp 2), guard := some (10, true) },
  { dst := some 13, op := SOp.ib (BinOp.leq) (Operand.tmp 11) (Operand.tmp 12), guard := some (10, true) },
  { dst := some 14, op := SOp.pick (Operand.tmp 10) (Operand.tmp 13) (Operand.const (Value.bool false)), guard := none },
  { dst := some 6, op := SOp.mv (Operand.tmp 14), guard := none }]
def c60 : SCode := (.seq (.reg c60_r0 [0, 1, 2]) (.seq (.reg c60_r1 [6]) .ret))
theorem F60 : Fn Try.prog 60 c60 [SRes.tmp 6] 15 := ⟨Try.f60, Try.f60.body.getD .skip, [[0, 1, 2], [6]], Try.func60, by kernel_rfl, by kernel_rfl, by kernel_rfl, by kernel_rfl, by decide⟩

def c23_r0 : List SIns := [
  { dst := some 2, op := SOp.mv (Operand.const (Value.int (IntKind.i64) 0)), guard := none }]
def c23_r1 : List SIns := [
  { dst := some 4, op := SOp.mv (Operand.tmp 0), guard := none },
  { dst := some 5, op := SOp.lenSl (Operand.tmp 4), guard := none },
  { dst := some 6, op := SOp.ib (BinOp.eql) (Operand.tmp 5) (Operand.const (Value.int (IntKind.i64) 0)), guard := none },
  { dst := some 3, op := SOp.mv (Operand.tmp 6), guard := none }]
def c23_r2 : List SIns := [
  { dst := some 2, op := SOp.mv (Operand.const (Value.int (IntKind.i64) 4)), guard := none }]
def c23_r3 : List SIns := [
  { dst := some 8, op := SOp.mv (Operand.tmp 0), guard := none },
  { dst := some 9, op := SOp.lenSl (Operand.tmp 8), guard := none },
  { dst := some 10, op := SOp.ib (BinOp.gtr) (Operand.tmp 9) (Operand.const (Value.int (IntKind.i64) 4)), guard := none },
  { dst := some 7, op := SOp.mv (Operand.tmp 10), guard := none }]
def c23_r4 : List SIns := [
  { dst := some 2, op := SOp.mv (Operand.const (Value.int (IntKind.i64) 3)), guard := none }]
def c23_r5 : List SIns := [
  { dst := some 12, op := SOp.mv (Operand.tmp 0), guard := none },
  { dst := some 13, op := SOp.call 58 [Operand.tmp 12, Operand.func 59], guard := none },
  { dst := some 11, op := SOp.mv (Operand.tmp 13), guard := none }]
def c23_r6 : List SIns := [
  { dst := some 2, op := SOp.mv (Operand.const (Value.int (IntKind.i64) 1)), guard := none }]
def c23_r7 : List SIns := [
  { dst := some 2, op := SOp.mv (Operand.const (Value.int (IntKind.i64) 0)), guard := none }]
def c23 : SCode := (.seq (.reg c23_r0 [0]) (.seq (.block 0 (.seq (.reg c23_r1 [0, 3]) (.cond (Operand.tmp 3) (.seq (.reg c23_r2 [2]) .ret) (.seq (.reg c23_r3 [0, 7]) (.cond (Operand.tmp 7) (.seq (.reg c23_r4 [2]) .ret) (.seq (.reg c23_r5 [11]) (.cond (Operand.tmp 11) (.seq (.reg c23_r6 [2]) .ret) .skip))))))) (.seq (.reg c23_r7 [2]) .ret)))
theorem F23 : Fn Try.prog 23 c23 [SRes.tmp 2] 14 := ⟨Try.f23, Try.f23.body.getD .skip, [[0], [0, 3], [2], [0, 7], [2], [11], [2], [2]], Try.func23, by kernel_rfl, by kernel_rfl, by kernel_rfl, by kernel_rfl, by decide⟩

def c59_r0 : List SIns := [
  { dst := some 2, op := SOp.mv (Operand.const (Value.bool false)), guard := none }]
def c59_r1 : List SIns := [
  { dst := some 3, op := SOp.mv (Operand.tmp 0), guard := none },
  { dst := some 4, op := SOp.call 60 [Operand.const (Value.int (IntKind.i64) 1), Operand.tmp 3, Operand.const (Value.int (IntKind.i64) 8)], guard := none },
  { dst := some 5, op := SOp.nt (Operand.tmp 4), guard := none },
  { dst := some 2, op := SOp.mv (Operand.tmp 5), guard := none }]
def c59 : SCode := (.seq (.reg c59_r0 [0]) (.seq (.reg c59_r1 [2]) .ret))
theorem F59 : Fn Try.prog 59 c59 [SRes.tmp 2] 6 := ⟨Try.f59, Try.f59.body.getD .skip, [[0], [2]], Try.func59, by kernel_rfl, by kernel_rfl, by kernel_rfl, by kernel_rfl, by decide⟩

def c58_r0 : List SIns := [
  { dst := some 4, op := SOp.mv (Operand.const (Value.bool false)), guard := none }]
def c58_r1 : List SIns := [
  { dst := some 5, op := SOp.mv (Operand.tmp 0), guard := none },
  { dst := some 6, op := SOp.mv (Operand.tmp 1), guard := none },
  { dst := some 7, op := SOp.call 80 [Operand.tmp 5, Operand.tmp 6], guard := none },
  { dst := some 8, op := SOp.ib (BinOp.geq) (Operand.tmp 7) (Operand.const (Value.int (IntKind.i64) 0)), guard := none },
  { dst := some 4, op := SOp.mv (Operand.tmp 8), guard := none }]
def c58 : SCode := (.seq (.reg c58_r0 [0, 1]) (.seq (.reg c58_r1 [4]) .ret))
theorem F58 : Fn Try.prog 58 c58 [SRes.tmp 4] 9 := ⟨Try.f58, Try.f58.body.getD .skip, [[0, 1], [4]], Try.func58, by kernel_rfl, by kernel_rfl, by kernel_rfl, by kernel_rfl, by decide⟩

def c80_r0 : List SIns := [
  { dst := some 4, op := SOp.mv (Operand.const (Value.int (IntKind.i64) 0)), guard := none }]
def c80_r1 : List SIns := [
  { dst := some 6, op := SOp.mv (Operand.tmp 0), guard := none },
  { dst := some 7, op := SOp.lenSl (Operand.tmp 6), guard := none },
  { dst := some 8, op := SOp.mv (Operand.const (Value.int (IntKind.i64) 0)), guard := none }]
def c80_r2 : List SIns := [
  { dst := some 9, op := SOp.ib (BinOp.lss) (Operand.tmp 8) (Operand.tmp 7), guard := none }]
def c80_r3 : List SIns := [
  { dst := some 10, op := SOp.mv (Operand.tmp 8), guard := none },
  { dst := some 5, op := SOp.mv (Operand.tmp 10), guard := none }]
def c80_r4 : List SIns := [
  { dst := some 11, op := SOp.mv (Operand.tmp 1), guard := none },
  { dst := some 12, op := SOp.mv (Operand.tmp 0), guard := none },
  { dst := some 13, op := SOp.mv (Operand.tmp 5), guard := none },
  { dst := some 14, op := SOp.idx 1 (Operand.tmp 12) (Operand.tmp 13), guard := none },
  { dst := some 15, op := SOp.load1 (Operand.tmp 14), guard := none },
  { dst := some 16, op := SOp.callv (Operand.tmp 11) [Operand.tmp 15], guard := none }]
def c80_r5 : List SIns := [
  { dst := some 17, op := SOp.mv (Operand.tmp 5), guard := none },
  { dst := some 4, op := SOp.mv (Operand.tmp 17), guard := none }]
def c80_r6 : List SIns := [
  { dst := some 18, op := SOp.ib (BinOp.add) (Operand.tmp 8) (Operand.const (Value.int (IntKind.i64) 1)), guard := none },
  { dst := some 8, op := SOp.mv (Operand.tmp 18), guard := none }]
def c80_l0 : SCode := (.seq (.reg c80_r2 [0, 1, 7, 8, 9]) (.seq (.cond (Operand.tmp 9) .skip (.exit 0)) (.seq (.block 1 (.seq (.reg c80_r3 [0, 1, 5, 7, 8]) (.seq (.reg c80_r4 [0, 1, 5, 7, 8, 16]) (.cond (Operand.tmp 16) (.seq (.reg c80_r5 [4]) .ret) .skip)))) (.reg c80_r6 [0, 1, 7, 8]))))
def c80_r7 : List SIns := [
  { dst := some 4, op := SOp.mv (Operand.const (Value.int (IntKind.i64) (-1))), guard := none }]
def c80 : SCode := (.seq (.reg c80_r0 [0, 1]) (.seq (.seq (.reg c80_r1 [0, 1, 7, 8]) (.block 0 (.loop c80_l0))) (.seq (.reg c80_r7 [4]) .ret)))
theorem F80 : Fn Try.prog 80 c80 [SRes.tmp 4] 19 := ⟨Try.f80, Try.f80.body.getD .skip, [[0, 1], [0, 1, 7, 8], [0, 1, 7, 8, 9], [0, 1, 5, 7, 8], [0, 1, 5, 7, 8, 16], [4], [0, 1, 7, 8], [4]], Try.func80, by kernel_rfl, by kernel_rfl, by kernel_rfl, by kernel_rfl, by decide⟩

def c53_r0 : List SIns := [
  { dst := some 4, op := SOp.mv (Operand.const (Value.int (IntKind.i64) 0)), guard := none }]
def c53_r1 : List SIns := [
  { dst := some 5, op := SOp.mv (Operand.tmp 1), guard := none },
  { dst := some 6, op := SOp.ib (BinOp.neq) (Operand.tmp 5) (Operand.const (Value.int (IntKind.i64) 0)), guard := none }]
def c53_r2 : List SIns := [
  { dst := some 7, op := SOp.mv (Operand.tmp 1), guard := none },
  { dst := some 8, op := SOp.mv (Operand.tmp 0), guard := none },
  { dst := some 9, op := SOp.mv (Operand.tmp 1), guard := none },
  { dst := some 10, op := SOp.ib (BinOp.rem) (Operand.tmp 8) (Operand.tmp 9), guard := none },
  { dst := some 0, op := SOp.mv (Operand.tmp 7), guard := none },
  { dst := some 1, op := SOp.mv (Operand.tmp 10), guard := none }]
def c53_l0 : SCode := (.seq (.seq (.reg c53_r1 [0, 1, 6]) (.cond (Operand.tmp 6) .skip (.exit 0))) (.block 1 (.draw c53_r2 [[], [], [], [1, 2], [0, 0, 1], [3, 4, 0, 1, 2, 3, 4, 1, 2, 0, 0, 1, 1, 2, 0, 0, 1]] [0, 1])))
def c53_r3 : List SIns := [
  { dst := some 11, op := SOp.mv (Operand.tmp 0), guard := none },
  { dst := some 4, op := SOp.mv (Operand.tmp 11), guard := none }]
def c53 : SCode := (.seq (.reg c53_r0 [0, 1]) (.seq (.block 0 (.loop c53_l0)) (.seq (.reg c53_r3 [4]) .ret)))
theorem F53 : Fn Try.prog 53 c53 [SRes.tmp 4] 12 := ⟨Try.f53, Try.f53.body.getD .skip, [[0, 1], [0, 1, 6], [0, 1], [4]], Try.func53, by kernel_rfl, by kernel_rfl, by kernel_rfl, by kernel_rfl, by decide⟩

def c17_r0 : List SIns := [
  { dst := some 2, op := SOp.mv (Operand.const (Value.int (IntKind.i64) 0)), guard := none },
  { dst := some 3, op := SOp.mv (Operand.const (Value.int (IntKind.i64) 0)), guard := none },
  { dst := some 4, op := SOp.mv (Operand.const (Value.int (IntKind.i64) 0)), guard := none }]
def c17_r1 : List SIns := [
  { dst := some 9, op := SOp.mv (Operand.tmp 0), guard := none },
  { dst := some 10, op := SOp.call 23 [Operand.tmp 9], guard := none },
  { dst := some 5, op := SOp.mv (Operand.tmp 10), guard := none }]
def c17_r2 : List SIns := [
  { dst := some 11, op := SOp.mv (Operand.tmp 5), guard := none },
  { dst := some 12, op := SOp.ib (BinOp.neq) (Operand.tmp 11) (Operand.const (Value.int (IntKind.i64) 0)), guard := none }]
def c17_r3 : List SIns := [
  { dst := some 13, op := SOp.mv (Operand.tmp 5), guard := none },
  { dst := some 2, op := SOp.mv (Operand.const (Value.int (IntKind.i64) 0)), guard := none },
  { dst := some 3, op := SOp.mv (Operand.const (Value.int (IntKind.i64) 0)), guard := none },
  { dst := some 4, op := SOp.mv (Operand.tmp 13), guard := none }]
def c17_r4 : List SIns := [
  { dst := some 2, op := SOp.mv (Operand.const (Value.int (IntKind.i64) 0)), guard := none },
  { dst := some 3, op := SOp.mv (Operand.const (Value.int (IntKind.i64) 1)), guard := none }]
def c17_r5 : List SIns := [
  { dst := some 14, op := SOp.mv (Operand.tmp 0), guard := none },
  { dst := some 15, op := SOp.lenSl (Operand.tmp 14), guard := none },
  { dst := some 16, op := SOp.mv (Operand.const (Value.int (IntKind.i64) 0)), guard := none }]
def c17_r6 : List SIns := [
  { dst := some 17, op := SOp.ib (BinOp.lss) (Operand.tmp 16) (Operand.tmp 15), guard := none }]
def c17_r7 : List SIns := [
  { dst := some 18, op := SOp.idx 1 (Operand.tmp 14) (Operand.tmp 16), guard := none },
  { dst := some 19, op := SOp.load1 (Operand.tmp 18), guard := none },
  { dst := some 7, op := SOp.mv (Operand.tmp 19), guard := none }]
def c17_r8 : List SIns := [
  { dst := some 20, op := SOp.mv (Operand.tmp 2), guard := none },
  { dst := some 21, op := SOp.mv (Operand.tmp 7), guard := none },
  { dst := some 22, op := SOp.ib (BinOp.mul) (Operand.tmp 20) (Operand.tmp 21), guard := none },
  { dst := some 23, op := SOp.mv (Operand.tmp 3), guard := none },
  { dst := some 24, op := SOp.ib (BinOp.add) (Operand.tmp 22) (Operand.tmp 23), guard := none },
  { dst := some 25, op := SOp.mv (Operand.tmp 3), guard := none },
  { dst := some 26, op := SOp.mv (Operand.tmp 7), guard := none },
  { dst := some 27, op := SOp.ib (BinOp.mul) (Operand.tmp 25) (Operand.tmp 26), guard := none },
  { dst := some 2, op := SOp.mv (Operand.tmp 24), guard := none },
  { dst := some 3, op := SOp.mv (Operand.tmp 27), guard := none }]
def c17_r9 : List SIns := [
  { dst := some 28, op := SOp.mv (Operand.tmp 2), guard := none },
  { dst := some 29, op := SOp.mv (Operand.tmp 3), guard := none },
  { dst := some 30, op := SOp.call 53 [Operand.tmp 28, Operand.tmp 29], guard := none },
  { dst := some 8, op := SOp.mv (Operand.tmp 30), guard := none }]
def c17_r10 : List SIns := [
  { dst := some 31, op := SOp.mv (Operand.tmp 2), guard := none },
  { dst := some 32, op := SOp.mv (Operand.tmp 8), guard := none },
  { dst := some 33, op := SOp.ib (BinOp.quo) (Operand.tmp 31) (Operand.tmp 32), guard := none },
  { dst := some 34, op := SOp.mv (Operand.tmp 3), guard := none },
  { dst := some 35, op := SOp.mv (Operand.tmp 8), guard := none },
  { dst := some 36, op := SOp.ib (BinOp.quo) (Operand.tmp 34) (Operand.tmp 35), guard := none },
  { dst := some 2, op := SOp.mv (Operand.tmp 33), guard := none },
  { dst := some 3, op := SOp.mv (Operand.tmp 36), guard := none }]
def c17_r11 : List SIns := [
  { dst := some 37, op := SOp.ib (BinOp.add) (Operand.tmp 16) (Operand.const (Value.int (IntKind.i64) 1)), guard := none },
  { dst := some 16, op := SOp.mv (Operand.tmp 37), guard := none }]
def c17_l0 : SCode := (.seq (.reg c17_r6 [2, 3, 14, 15, 16, 17]) (.seq (.cond (Operand.tmp 17) .skip (.exit 0)) (.seq (.block 1 (.seq (.reg c17_r7 [2, 3, 7, 14, 15, 16]) (.seq (.reg c17_r8 [2, 3, 14, 15, 16]) (.seq (.reg c17_r9 [2, 3, 8, 14, 15, 16]) (.draw c17_r10 [[], [], [0, 1], [], [], [3, 4], [2, 0, 1, 2, 0, 1, 0, 1], [5, 6, 0, 1, 2, 3, 4, 5, 6, 3, 4, 2, 0, 1, 2, 0, 1, 0, 1, 0, 1, 3, 4, 2, 0, 1, 2, 0, 1, 0, 1]] [2, 3, 14, 15, 16]))))) (.reg c17_r11 [2, 3, 14, 15, 16]))))
def c17_r12 : List SIns := [
  { dst := some 38, op := SOp.mv (Operand.tmp 2), guard := none },
  { dst := some 39, op := SOp.mv (Operand.tmp 3), guard := none },
  { dst := some 2, op := SOp.mv (Operand.tmp 38), guard := none },
  { dst := some 3, op := SOp.mv (Operand.tmp 39), guard := none },
  { dst := some 4, op := SOp.mv (Operand.const (Value.int (IntKind.i64) 0)), guard := none }]
def c17 : SCode := (.seq (.reg c17_r0 [0]) (.seq (.seq (.reg c17_r1 [0, 5]) (.seq (.reg c17_r2 [0, 5, 12]) (.cond (Operand.tmp 12) (.seq (.reg c17_r3 [2, 3, 4]) .ret) .skip))) (.seq (.reg c17_r4 [0, 2, 3]) (.seq (.seq (.reg c17_r5 [2, 3, 14, 15, 16]) (.block 0 (.loop c17_l0))) (.seq (.reg c17_r12 [2, 3, 4]) .ret)))))
theorem F17 : Fn Try.prog 17 c17 [SRes.tmp 2, SRes.tmp 3, SRes.tmp 4] 40 := ⟨Try.f17, Try.f17.body.getD .skip, [[0], [0, 5], [0, 5, 12], [2, 3, 4], [0, 2, 3], [2, 3, 14, 15, 16], [2, 3, 14, 15, 16, 17], [2, 3, 7, 14, 15, 16], [2, 3, 14, 15, 16], [2, 3, 8, 14, 15, 16], [2, 3, 14, 15, 16], [2, 3, 14, 15, 16], [2, 3, 4]], Try.func17, by kernel_rfl, by kernel_rfl, by kernel_rfl, by kernel_rfl, by decide⟩

def c24_r0 : List SIns := [
  { dst := some 2, op := SOp.mv (Operand.const (Value.int (IntKind.i64) 0)), guard := none }]
def c24_r1 : List SIns := [
  { dst := some 4, op := SOp.mv (Operand.tmp 0), guard := none },
  { dst := some 5, op := SOp.lenSl (Operand.tmp 4), guard := none },
  { dst := some 6, op := SOp.ib (BinOp.eql) (Operand.tmp 5) (Operand.const (Value.int (IntKind.i64) 0)), guard := none }]
def c24_r2 : List SIns := [
  { dst := some 2, op := SOp.mv (Operand.const (Value.int (IntKind.i64) 4)), guard := none }]
def c24_r3 : List SIns := [
  { dst := some 7, op := SOp.mv (Operand.tmp 0), guard := none },
  { dst := some 8, op := SOp.lenSl (Operand.tmp 7), guard := none },
  { dst := some 9, op := SOp.ib (BinOp.gtr) (Operand.tmp 8) (Operand.const (Value.int (IntKind.i64) 4)), guard := none }]
def c24_r4 : List SIns := [
  { dst := some 2, op := SOp.mv (Operand.const (Value.int (IntKind.i64) 3)), guard := none }]
def c24_r5 : List SIns := [
  { dst := some 3, op := SOp.mv (Operand.const (Value.int (IntKind.i64) 0)), guard := none }]
def c24_r6 : List SIns := [
  { dst := some 10, op := SOp.mv (Operand.tmp 3), guard := none },
  { dst := some 11, op := SOp.mv (Operand.tmp 0), guard := none },
  { dst := some 12, op := SOp.lenSl (Operand.tmp 11), guard := none },
  { dst := some 13, op := SOp.ib (BinOp.lss) (Operand.tmp 10) (Operand.tmp 12), guard := none }]
def c24_r7 : List SIns := [
  { dst := some 16, op := SOp.mv (Operand.tmp 0), guard := none },
  { dst := some 17, op := SOp.mv (Operand.tmp 3), guard := none },
  { dst := some 18, op := SOp.idx 1 (Operand.tmp 16) (Operand.tmp 17), guard := none },
  { dst := some 19, op := SOp.load1 (Operand.tmp 18), guard := none },
  { dst := some 20, op := SOp.call 61 [Operand.tmp 19, Operand.const (Value.int (IntKind.i64) 1), Operand.const (Value.int (IntKind.i64) 8)], guard := none },
  { dst := some 21, op := SOp.nt (Operand.tmp 20), guard := none }]
def c24_r8 : List SIns := [
  { dst := some 2, op := SOp.mv (Operand.const (Value.int (IntKind.i64) 1)), guard := none }]
def c24_r9 : List SIns := [
  { dst := some 14, op := SOp.mv (Operand.tmp 3), guard := none },
  { dst := some 15, op := SOp.ib (BinOp.add) (Operand.tmp 14) (Operand.const (Value.int (IntKind.i64) 1)), guard := none },
  { dst := some 3, op := SOp.mv (Operand.tmp 15), guard := none }]
def c24_l0 : SCode := (.seq (.seq (.reg c24_r6 [0, 3, 13]) (.cond (Operand.tmp 13) .skip (.exit 0))) (.seq (.block 1 (.seq (.reg c24_r7 [0, 3, 21]) (.cond (Operand.tmp 21) (.seq (.reg c24_r8 [2]) .ret) .skip))) (.reg c24_r9 [0, 3])))
def c24_r10 : List SIns := [
  { dst := some 2, op := SOp.mv (Operand.const (Value.int (IntKind.i64) 0)), guard := none }]
def c24 : SCode := (.seq (.reg c24_r0 [0]) (.seq (.seq (.reg c24_r1 [0, 6]) (.cond (Operand.tmp 6) (.seq (.reg c24_r2 [2]) .ret) .skip)) (.seq (.seq (.reg c24_r3 [0, 9]) (.cond (Operand.tmp 9) (.seq (.reg c24_r4 [2]) .ret) .skip)) (.seq (.seq (.reg c24_r5 [0, 3]) (.block 0 (.loop c24_l0))) (.seq (.reg c24_r10 [2]) .ret)))))
theorem F24 : Fn Try.prog 24 c24 [SRes.tmp 2] 22 := ⟨Try.f24, Try.f24.body.getD .skip, [[0], [0, 6], [2], [0, 9], [2], [0, 3], [0, 3, 13], [0, 3, 21], [2], [0, 3], [2]], Try.func24, by kernel_rfl, by kernel_rfl, by kernel_rfl, by kernel_rfl, by decide⟩

def c61_r0 : List SIns := [
  { dst := some 6, op := SOp.mv (Operand.const (Value.bool false)), guard := none }]
def c61_r1 : List SIns := [
  { dst := some 7, op := SOp.mv (Operand.tmp 0), guard := none },
  { dst := some 8, op := SOp.mv (Operand.tmp 1), guard := none },
  { dst := some 9, op := SOp.ib (BinOp.geq) (Operand.tmp 7) (Operand.tmp 8), guard := none },
  { dst := some 10, op := SOp.mv (Operand.tmp 9), guard := none },
  { dst := some 11, op := SOp.mv (Operand.tmp 0), guard := some (10, true) },
  { dst := some 12, op := SOp.mv (Operand.tmp 2), guard := some (10, true) },
  { dst := some 13, op := SOp.ib (BinOp.leq) (Operand.tmp 11) (Operand.tmp 12), guard := some (10, true) },
  { dst := some 14, op := SOp.pick (Operand.tmp 10) (Operand.tmp 13) (Operand.const (Value.bool false)), guard := none },
  { dst := some 6, op := SOp.mv (Operand.tmp 14), guard := none }]
def c61 : SCode := (.seq (.reg c61_r0 [0, 1, 2]) (.seq (.reg c61_r1 [6]) .ret))
theorem F61 : Fn Try.prog 61 c61 [SRes.tmp 6] 15 := ⟨Try.f61, Try.f61.body.getD .skip, [[0, 1, 2], [6]], Try.func61, by kernel_rfl, by kernel_rfl, by kernel_rfl, by kernel_rfl, by decide⟩

def c18_r0 : List SIns := [
  { dst := some 2, op := SOp.mv (Operand.const (Value.int (IntKind.i64) 0)), guard := none },
  { dst := some 3, op := SOp.mv (Operand.const (Value.int (IntKind.i64) 0)), guard := none },
  { dst := some 4, op := SOp.mv (Operand.const (Value.int (IntKind.i64) 0)), guard := none }]
def c18_r1 : List SIns := [
  { dst := some 10, op := SOp.mv (Operand.tmp 0), guard := none },
  { dst := some 11, op := SOp.call 24 [Operand.tmp 10], guard := none },
  { dst := some 5, op := SOp.mv (Operand.tmp 11), guard := none }]
def c18_r2 : List SIns := [
  { dst := some 12, op := SOp.mv (Operand.tmp 5), guard := none },
  { dst := some 13, op := SOp.ib (BinOp.neq) (Operand.tmp 12) (Operand.const (Value.int (IntKind.i64) 0)), guard := none }]
def c18_r3 : List SIns := [
  { dst := some 14, op := SOp.mv (Operand.tmp 5), guard := none },
  { dst := some 2, op := SOp.mv (Operand.const (Value.int (IntKind.i64) 0)), guard := none },
  { dst := some 3, op := SOp.mv (Operand.const (Value.int (IntKind.i64) 0)), guard := none },
  { dst := some 4, op := SOp.mv (Operand.tmp 14), guard := none }]
def c18_r4 : List SIns := [
  { dst := some 6, op := SOp.mv (Operand.const (Value.int (IntKind.i64) 0)), guard := none },
  { dst := some 7, op := SOp.mv (Operand.const (Value.int (IntKind.i64) 840)), guard := none }]
def c18_r5 : List SIns := [
  { dst := some 8, op := SOp.mv (Operand.const (Value.int (IntKind.i64) 0)), guard := none }]
def c18_r6 : List SIns := [
  { dst := some 15, op := SOp.mv (Operand.tmp 8), guard := none },
  { dst := some 16, op := SOp.mv (Operand.tmp 0), guard := none },
  { dst := some 17, op := SOp.lenSl (Operand.tmp 16), guard := none },
  { dst := some 18, op := SOp.ib (BinOp.lss) (Operand.tmp 15) (Operand.tmp 17), guard := none }]
def c18_r7 : List SIns := [
  { dst := some 21, op := SOp.mv (Operand.tmp 6), guard := none },
  { dst := some 22, op := SOp.mv (Operand.tmp 0), guard := none },
  { dst := some 23, op := SOp.mv (Operand.tmp 8), guard := none },
  { dst := some 24, op := SOp.idx 1 (Operand.tmp 22) (Operand.tmp 23), guard := none },
  { dst := some 25, op := SOp.load1 (Operand.tmp 24), guard := none },
  { dst := some 26, op := SOp.ib (BinOp.quo) (Operand.const (Value.int (IntKind.i64) 840)) (Operand.tmp 25), guard := none },
  { dst := some 27, op := SOp.ib (BinOp.add) (Operand.tmp 21) (Operand.tmp 26), guard := none },
  { dst := some 6, op := SOp.mv (Operand.tmp 27), guard := none }]
def c18_r8 : List SIns := [
  { dst := some 19, op := SOp.mv (Operand.tmp 8), guard := none },
  { dst := some 20, op := SOp.ib (BinOp.add) (Operand.tmp 19) (Operand.const (Value.int (IntKind.i64) 1)), guard := none },
  { dst := some 8, op := SOp.mv (Operand.tmp 20), guard := none }]
def c18_l0 : SCode := (.seq (.seq (.reg c18_r6 [0, 6, 7, 8, 18]) (.cond (Operand.tmp 18) .skip (.exit 0))) (.seq (.block 1 (.reg c18_r7 [0, 6, 7, 8])) (.reg c18_r8 [0, 6, 7, 8])))
def c18_r9 : List SIns := [
  { dst := some 9, op := SOp.mv (Operand.const (Value.int (IntKind.i64) 840)), guard := none }]
def c18_r10 : List SIns := [
  { dst := some 28, op := SOp.mv (Operand.tmp 9), guard := none },
  { dst := some 29, op := SOp.ib (BinOp.gtr) (Operand.tmp 28) (Operand.const (Value.int (IntKind.i64) 1)), guard := none }]
def c18_r11 : List SIns := [
  { dst := some 32, op := SOp.mv (Operand.tmp 6), guard := none },
  { dst := some 33, op := SOp.mv (Operand.tmp 9), guard := none },
  { dst := some 34, op := SOp.ib (BinOp.rem) (Operand.tmp 32) (Operand.tmp 33), guard := none },
  { dst := some 35, op := SOp.ib (BinOp.eql) (Operand.tmp 34) (Operand.const (Value.int (IntKind.i64) 0)), guard := none },
  { dst := some 36, op := SOp.mv (Operand.tmp 35), guard := none },
  { dst := some 37, op := SOp.mv (Operand.tmp 7), guard := some (36, true) },
  { dst := some 38, op := SOp.mv (Operand.tmp 9), guard := some (36, true) },
  { dst := some 39, op := SOp.ib (BinOp.rem) (Operand.tmp 37) (Operand.tmp 38), guard := some (36, true) },
  { dst := some 40, op := SOp.ib (BinOp.eql) (Operand.tmp 39) (Operand.const (Value.int (IntKind.i64) 0)), guard := some (36, true) },
  { dst := some 41, op := SOp.pick (Operand.tmp 36) (Operand.tmp 40) (Operand.const (Value.bool false)), guard := none }]
def c18_r12 : List SIns := [
  { dst := some 42, op := SOp.mv (Operand.tmp 6), guard := none },
  { dst := some 43, op := SOp.mv (Operand.tmp 9), guard := none },
  { dst := some 44, op := SOp.ib (BinOp.quo) (Operand.tmp 42) (Operand.tmp 43), guard := none },
  { dst := some 45, op := SOp.mv (Operand.tmp 7), guard := none },
  { dst := some 46, op := SOp.mv (Operand.tmp 9), guard := none },
  { dst := some 47, op := SOp.ib (BinOp.quo) (Operand.tmp 45) (Operand.tmp 46), guard := none },
  { dst := some 6, op := SOp.mv (Operand.tmp 44), guard := none },
  { dst := some 7, op := SOp.mv (Operand.tmp 47), guard := none }]
def c18_r13 : List SIns := [
  { dst := some 30, op := SOp.mv (Operand.tmp 9), guard := none },
  { dst := some 31, op := SOp.ib (BinOp.sub) (Operand.tmp 30) (Operand.const (Value.int (IntKind.i64) 1)), guard := none },
  { dst := some 9, op := SOp.mv (Operand.tmp 31), guard := none }]
def c18_l1 : SCode := (.seq (.seq (.reg c18_r10 [6, 7, 9, 29]) (.cond (Operand.tmp 29) .skip (.exit 2))) (.seq (.block 3 (.seq (.reg c18_r11 [6, 7, 9, 41]) (.cond (Operand.tmp 41) (.draw c18_r12 [[], [], [0, 1], [], [], [3, 4], [2, 0, 1, 2, 0, 1, 0, 1], [5, 6, 0, 1, 2, 3, 4, 5, 6, 3, 4, 2, 0, 1, 2, 0, 1, 0, 1, 0, 1, 3, 4, 2, 0, 1, 2, 0, 1, 0, 1]] [6, 7, 9]) .skip))) (.reg c18_r13 [6, 7, 9])))
def c18_r14 : List SIns := [
  { dst := some 48, op := SOp.mv (Operand.tmp 6), guard := none },
  { dst := some 49, op := SOp.mv (Operand.tmp 7), guard := none },
  { dst := some 2, op := SOp.mv (Operand.tmp 48), guard := none },
  { dst := some 3, op := SOp.mv (Operand.tmp 49), guard := none },
  { dst := some 4, op := SOp.mv (Operand.const (Value.int (IntKind.i64) 0)), guard := none }]
def c18 : SCode := (.seq (.reg c18_r0 [0]) (.seq (.reg c18_r1 [0, 5]) (.seq (.seq (.reg c18_r2 [0, 5, 13]) (.cond (Operand.tmp 13) (.seq (.reg c18_r3 [2, 3, 4]) .ret) .skip)) (.seq (.reg c18_r4 [0, 6, 7]) (.seq (.seq (.reg c18_r5 [0, 6, 7, 8]) (.block 0 (.loop c18_l0))) (.seq (.seq (.reg c18_r9 [6, 7, 9]) (.block 2 (.loop c18_l1))) (.seq (.reg c18_r14 [2, 3, 4]) .ret)))))))
theorem F18 : Fn Try.prog 18 c18 [SRes.tmp 2, SRes.tmp 3, SRes.tmp 4] 50 := ⟨Try.f18, Try.f18.body.getD .skip, [[0], [0, 5], [0, 5, 13], [2, 3, 4], [0, 6, 7], [0, 6, 7, 8], [0, 6, 7, 8, 18], [0, 6, 7, 8], [0, 6, 7, 8], [6, 7, 9], [6, 7, 9, 29], [6, 7, 9, 41], [6, 7, 9], [6, 7, 9], [2, 3, 4]], Try.func18, by kernel_rfl, by kernel_rfl, by kernel_rfl, by kernel_rfl, by decide⟩

def c77_r0 : List SIns := [
  { dst := some 4, op := SOp.box (Operand.tmp 1), guard := none },
  { dst := some 6, op := SOp.alloc [Value.int (IntKind.i64) 0, Value.int (IntKind.i64) 0, Value.int (IntKind.i64) 0, Value.int (IntKind.i64) 0], guard := none },
  { dst := some 7, op := SOp.mv (Operand.const (Value.bool false)), guard := none }]
def c77_r1 : List SIns := [
  { dst := some 9, op := SOp.mv (Operand.tmp 0), guard := none },
  { dst := some 10, op := SOp.nilck (Operand.tmp 9), guard := none },
  { dst := some 11, op := SOp.off 0 (Operand.tmp 10), guard := none },
  { dst := some 12, op := SOp.load1 (Operand.tmp 11), guard := none },
  { dst := some 13, op := SOp.lenSl (Operand.tmp 12), guard := none },
  { dst := some 14, op := SOp.mv (Operand.const (Value.int (IntKind.i64) 0)), guard := none }]
def c77_r2 : List SIns := [
  { dst := some 15, op := SOp.ib (BinOp.lss) (Operand.tmp 14) (Operand.tmp 13), guard := none }]
def c77_r3 : List SIns := [
  { dst := some 16, op := SOp.mv (Operand.tmp 14), guard := none },
  { dst := some 8, op := SOp.mv (Operand.tmp 16), guard := none }]
def c77_r4 : List SIns := [
  { dst := some 17, op := SOp.mv (Operand.tmp 8), guard := none },
  { dst := some 18, op := SOp.idxA 4 1 (Operand.tmp 4) (Operand.tmp 17), guard := none },
  { dst := some 19, op := SOp.load1 (Operand.tmp 18), guard := none },
  { dst := some 20, op := SOp.ib (BinOp.sub) (Operand.tmp 19) (Operand.const (Value.int (IntKind.i64) 1)), guard := none },
  { dst := some 21, op := SOp.idxA 4 1 (Operand.tmp 4) (Operand.tmp 17), guard := none },
  { dst := none, op := SOp.store 1 (Operand.tmp 21) (Operand.tmp 20), guard := none }]
def c77_r5 : List SIns := [
  { dst := some 22, op := SOp.mv (Operand.tmp 8), guard := none },
  { dst := some 23, op := SOp.mv (Operand.tmp 2), guard := none },
  { dst := some 24, op := SOp.ib (BinOp.neq) (Operand.tmp 22) (Operand.tmp 23), guard := none },
  { dst := some 25, op := SOp.mv (Operand.tmp 24), guard := none },
  { dst := some 26, op := SOp.mv (Operand.tmp 8), guard := some (25, true) },
  { dst := some 27, op := SOp.idxA 4 1 (Operand.tmp 4) (Operand.tmp 26), guard := some (25, true) },
  { dst := some 28, op := SOp.load1 (Operand.tmp 27), guard := some (25, true) },
  { dst := some 29, op := SOp.ib (BinOp.eql) (Operand.tmp 28) (Operand.const (Value.int (IntKind.i64) 0)), guard := some (25, true) },
  { dst := some 30, op := SOp.pick (Operand.tmp 25) (Operand.tmp 29) (Operand.const (Value.bool false)), guard := none }]
def c77_r6 : List SIns := [
  { dst := some 31, op := SOp.build [Value.int (IntKind.i64) 0, Value.int (IntKind.i64) 0, Value.int (IntKind.i64) 0, Value.int (IntKind.i64) 0] [], guard := none },
  { dst := none, op := SOp.store 4 (Operand.tmp 6) (Operand.tmp 31), guard := none },
  { dst := some 7, op := SOp.mv (Operand.const (Value.bool false)), guard := none }]
def c77_r7 : List SIns := [
  { dst := some 32, op := SOp.ib (BinOp.add) (Operand.tmp 14) (Operand.const (Value.int (IntKind.i64) 1)), guard := none },
  { dst := some 14, op := SOp.mv (Operand.tmp 32), guard := none }]
def c77_l0 : SCode := (.seq (.reg c77_r2 [0, 2, 4, 6, 13, 14, 15]) (.seq (.cond (Operand.tmp 15) .skip (.exit 0)) (.seq (.block 1 (.seq (.reg c77_r3 [0, 2, 4, 6, 8, 13, 14]) (.seq (.reg c77_r4 [0, 2, 4, 6, 8, 13, 14]) (.seq (.reg c77_r5 [0, 2, 4, 6, 13, 14, 30]) (.cond (Operand.tmp 30) (.seq (.reg c77_r6 [6, 7]) .ret) .skip))))) (.reg c77_r7 [0, 2, 4, 6, 13, 14]))))
def c77_r8 : List SIns := [
  { dst := some 33, op := SOp.mv (Operand.tmp 2), guard := none },
  { dst := some 34, op := SOp.mv (Operand.tmp 0), guard := none },
  { dst := some 35, op := SOp.nilck (Operand.tmp 34), guard := none },
  { dst := some 36, op := SOp.off 0 (Operand.tmp 35), guard := none },
  { dst := some 37, op := SOp.load1 (Operand.tmp 36), guard := none },
  { dst := some 38, op := SOp.mv (Operand.tmp 2), guard := none },
  { dst := some 39, op := SOp.idx 1 (Operand.tmp 37) (Operand.tmp 38), guard := none },
  { dst := some 40, op := SOp.load1 (Operand.tmp 39), guard := none },
  { dst := some 41, op := SOp.idxA 4 1 (Operand.tmp 4) (Operand.tmp 33), guard := none },
  { dst := none, op := SOp.store 1 (Operand.tmp 41) (Operand.tmp 40), guard := none }]
def c77_r9 : List SIns := [
  { dst := some 42, op := SOp.loadN 4 (Operand.tmp 4), guard := none },
  { dst := none, op := SOp.store 4 (Operand.tmp 6) (Operand.tmp 42), guard := none },
  { dst := some 7, op := SOp.mv (Operand.const (Value.bool true)), guard := none }]
def c77 : SCode := (.seq (.reg c77_r0 [0, 2, 4, 6]) (.seq (.seq (.reg c77_r1 [0, 2, 4, 6, 13, 14]) (.block 0 (.loop c77_l0))) (.seq (.reg c77_r8 [4, 6]) (.seq (.reg c77_r9 [6, 7]) .ret))))
theorem F77 : Fn Try.prog 77 c77 [SRes.cell 6 (some 4), SRes.tmp 7] 43 := ⟨Try.f77, Try.f77.body.getD .skip, [[0, 2, 4, 6], [0, 2, 4, 6, 13, 14], [0, 2, 4, 6, 13, 14, 15], [0, 2, 4, 6, 8, 13, 14], [0, 2, 4, 6, 8, 13, 14], [0, 2, 4, 6, 13, 14, 30], [6, 7], [0, 2, 4, 6, 13, 14], [4, 6], [6, 7]], Try.func77, by kernel_rfl, by kernel_rfl, by kernel_rfl, by kernel_rfl, by decide⟩

def c55_r0 : List SIns := [
  { dst := some 3, op := SOp.box (Operand.tmp 1), guard := none },
  { dst := some 4, op := SOp.mv (Operand.const (Value.bool false)), guard := none }]
def c55_r1 : List SIns := [
  { dst := some 12, op := SOp.mv (Operand.tmp 0), guard := none },
  { dst := some 13, op := SOp.nilck (Operand.tmp 12), guard := none },
  { dst := some 14, op := SOp.off 5 (Operand.tmp 13), guard := none },
  { dst := some 15, op := SOp.load1 (Operand.tmp 14), guard := none },
  { dst := some 16, op := SOp.loadN 4 (Operand.tmp 3), guard := none },
  { dst := some 17, op := SOp.look (KTy.ar 4 (IntKind.i64)) (Value.bool false) true (Operand.tmp 15) (Operand.tmp 16), guard := none },
  { dst := some 11, op := SOp.mv (Operand.tmp 17), guard := none },
  { dst := some 18, op := SOp.ext (Operand.tmp 11) 0, guard := none },
  { dst := some 19, op := SOp.ext (Operand.tmp 11) 1, guard := none },
  { dst := some 5, op := SOp.mv (Operand.tmp 18), guard := none },
  { dst := some 6, op := SOp.mv (Operand.tmp 19), guard := none }]
def c55_r2 : List SIns := [
  { dst := some 20, op := SOp.mv (Operand.tmp 6), guard := none }]
def c55_r3 : List SIns := [
  { dst := some 21, op := SOp.mv (Operand.tmp 5), guard := none },
  { dst := some 4, op := SOp.mv (Operand.tmp 21), guard := none }]
def c55_r4 : List SIns := [
  { dst := some 22, op := SOp.mv (Operand.tmp 0), guard := none },
  { dst := some 23, op := SOp.nilck (Operand.tmp 22), guard := none },
  { dst := some 24, op := SOp.off 5 (Operand.tmp 23), guard := none },
  { dst := some 25, op := SOp.load1 (Operand.tmp 24), guard := none },
  { dst := some 26, op := SOp.loadN 4 (Operand.tmp 3), guard := none },
  { dst := none, op := SOp.mset (KTy.ar 4 (IntKind.i64)) (Operand.tmp 25) (Operand.tmp 26) (Operand.const (Value.bool true)), guard := none }]
def c55_r5 : List SIns := [
  { dst := some 7, op := SOp.mv (Operand.const (Value.int (IntKind.i64) 0)), guard := none }]
def c55_r6 : List SIns := [
  { dst := some 27, op := SOp.mv (Operand.tmp 0), guard := none },
  { dst := some 28, op := SOp.nilck (Operand.tmp 27), guard := none },
  { dst := some 29, op := SOp.off 0 (Operand.tmp 28), guard := none },
  { dst := some 30, op := SOp.load1 (Operand.tmp 29), guard := none },
  { dst := some 31, op := SOp.lenSl (Operand.tmp 30), guard := none },
  { dst := some 32, op := SOp.mv (Operand.const (Value.int (IntKind.i64) 0)), guard := none }]
def c55_r7 : List SIns := [
  { dst := some 33, op := SOp.ib (BinOp.lss) (Operand.tmp 32) (Operand.tmp 31), guard := none }]
def c55_r8 : List SIns := [
  { dst := some 34, op := SOp.mv (Operand.tmp 32), guard := none },
  { dst := some 8, op := SOp.mv (Operand.tmp 34), guard := none }]
def c55_r9 : List SIns := [
  { dst := some 36, op := SOp.mv (Operand.tmp 0), guard := none },
  { dst := some 37, op := SOp.loadN 4 (Operand.tmp 3), guard := none },
  { dst := some 38, op := SOp.mv (Operand.tmp 8), guard := none },
  { dst := some 39, op := SOp.call 77 [Operand.tmp 36, Operand.tmp 37, Operand.tmp 38], guard := none },
  { dst := some 35, op := SOp.mv (Operand.tmp 39), guard := none },
  { dst := some 40, op := SOp.ext (Operand.tmp 35) 0, guard := none },
  { dst := some 41, op := SOp.ext (Operand.tmp 35) 1, guard := none },
  { dst := some 9, op := SOp.alloc [Value.int (IntKind.i64) 0, Value.int (IntKind.i64) 0, Value.int (IntKind.i64) 0, Value.int (IntKind.i64) 0], guard := none },
  { dst := none, op := SOp.store 4 (Operand.tmp 9) (Operand.tmp 40), guard := none },
  { dst := some 10, op := SOp.mv (Operand.tmp 41), guard := none }]
def c55_r10 : List SIns := [
  { dst := some 42, op := SOp.mv (Operand.tmp 10), guard := none },
  { dst := some 43, op := SOp.nt (Operand.tmp 42), guard := none }]
def c55_r11 : List SIns := [
  { dst := some 44, op := SOp.mv (Operand.tmp 0), guard := none },
  { dst := some 45, op := SOp.loadN 4 (Operand.tmp 9), guard := none },
  { dst := some 46, op := SOp.call 55 [Operand.tmp 44, Operand.tmp 45], guard := none }]
def c55_r12 : List SIns := [
  { dst := some 4, op := SOp.mv (Operand.const (Value.bool true)), guard := none }]
def c55_r13 : List SIns := [
  { dst := some 47, op := SOp.mv (Operand.tmp 7), guard := none },
  { dst := some 48, op := SOp.mv (Operand.tmp 0), guard := none },
  { dst := some 49, op := SOp.nilck (Operand.tmp 48), guard := none },
  { dst := some 50, op := SOp.off 6 (Operand.tmp 49), guard := none },
  { dst := some 51, op := SOp.load1 (Operand.tmp 50), guard := none },
  { dst := some 52, op := SOp.loadN 4 (Operand.tmp 9), guard := none },
  { dst := some 53, op := SOp.look (KTy.ar 4 (IntKind.i64)) (Value.int (IntKind.i64) 0) false (Operand.tmp 51) (Operand.tmp 52), guard := none },
  { dst := some 54, op := SOp.ib (BinOp.add) (Operand.const (Value.int (IntKind.i64) 1)) (Operand.tmp 53), guard := none },
  { dst := some 55, op := SOp.big true [Operand.tmp 47, Operand.tmp 54], guard := none },
  { dst := some 7, op := SOp.mv (Operand.tmp 55), guard := none }]
def c55_r14 : List SIns := [
  { dst := some 56, op := SOp.ib (BinOp.add) (Operand.tmp 32) (Operand.const (Value.int (IntKind.i64) 1)), guard := none },
  { dst := some 32, op := SOp.mv (Operand.tmp 56), guard := none }]
def c55_l0 : SCode := (.seq (.reg c55_r7 [0, 3, 7, 31, 32, 33]) (.seq (.cond (Operand.tmp 33) .skip (.exit 0)) (.seq (.block 1 (.seq (.reg c55_r8 [0, 3, 7, 8, 31, 32]) (.seq (.reg c55_r9 [0, 3, 7, 9, 10, 31, 32]) (.seq (.seq (.reg c55_r10 [0, 3, 7, 9, 31, 32, 43]) (.cond (Operand.tmp 43) (.exit 1) .skip)) (.seq (.seq (.reg c55_r11 [0, 3, 7, 9, 31, 32, 46]) (.cond (Operand.tmp 46) (.seq (.reg c55_r12 [4]) .ret) .skip)) (.draw c55_r13 [[], [], [1], [2, 1], [3, 2, 1], [], [4, 5, 3, 2, 1], [6, 4, 5, 3, 2, 1], [0, 7, 6, 4, 5, 3, 2, 1], [8, 0, 1, 2, 3, 4, 5, 6, 7, 8, 0, 7, 6, 4, 5, 3, 2, 1, 1, 2, 1, 3, 2, 1, 4, 5, 3, 2, 1, 6, 4, 5, 3, 2, 1, 0, 7, 6, 4, 5, 3, 2, 1]] [0, 3, 7, 31, 32])))))) (.reg c55_r14 [0, 3, 7, 31, 32]))))
def c55_r15 : List SIns := [
  { dst := some 57, op := SOp.mv (Operand.tmp 0), guard := none },
  { dst := some 58, op := SOp.nilck (Operand.tmp 57), guard := none },
  { dst := some 59, op := SOp.off 5 (Operand.tmp 58), guard := none },
  { dst := some 60, op := SOp.load1 (Operand.tmp 59), guard := none },
  { dst := some 61, op := SOp.loadN 4 (Operand.tmp 3), guard := none },
  { dst := some 62, op := SOp.mv (Operand.tmp 0), guard := none },
  { dst := some 63, op := SOp.nilck (Operand.tmp 62), guard := none },
  { dst := some 64, op := SOp.off 6 (Operand.tmp 63), guard := none },
  { dst := some 65, op := SOp.load1 (Operand.tmp 64), guard := none },
  { dst := some 66, op := SOp.loadN 4 (Operand.tmp 3), guard := none },
  { dst := some 67, op := SOp.mv (Operand.tmp 7), guard := none },
  { dst := some 68, op := SOp.ment (KTy.ar 4 (IntKind.i64)) (Value.bool false) (Operand.tmp 60) (Operand.tmp 61), guard := none },
  { dst := some 69, op := SOp.ext (Operand.tmp 68) 1, guard := none },
  { dst := none, op := SOp.mst (Operand.tmp 60) (Operand.tmp 69) (Operand.const (Value.bool false)), guard := none },
  { dst := some 70, op := SOp.ment (KTy.ar 4 (IntKind.i64)) (Value.int (IntKind.i64) 0) (Operand.tmp 65) (Operand.tmp 66), guard := none },
  { dst := some 71, op := SOp.ext (Operand.tmp 70) 1, guard := none },
  { dst := none, op := SOp.mst (Operand.tmp 65) (Operand.tmp 71) (Operand.tmp 67), guard := none }]
def c55_r16 : List SIns := [
  { dst := some 4, op := SOp.mv (Operand.const (Value.bool false)), guard := none }]
def c55 : SCode := (.seq (.reg c55_r0 [0, 3]) (.seq (.seq (.draw c55_r1 [[], [0], [1, 0], [2, 1, 0], [], [3, 4, 2, 1, 0], [5, 3, 4, 2, 1, 0], [6, 5, 3, 4, 2, 1, 0], [6, 5, 3, 4, 2, 1, 0], [7, 0, 1, 2, 3, 4, 5, 6, 7, 6, 5, 3, 4, 2, 1, 0, 0, 1, 0, 2, 1, 0, 3, 4, 2, 1, 0, 5, 3, 4, 2, 1, 0, 6, 5, 3, 4, 2, 1, 0], [8, 9, 0, 1, 2, 3, 4, 5, 6, 7, 8, 9, 6, 5, 3, 4, 2, 1, 0, 7, 0, 1, 2, 3, 4, 5, 6, 7, 6, 5, 3, 4, 2, 1, 0, 0, 1, 0, 2, 1, 0, 3, 4, 2, 1, 0, 5, 3, 4, 2, 1, 0, 6, 5, 3, 4, 2, 1, 0, 0, 1, 0, 2, 1, 0, 3, 4, 2, 1, 0, 5, 3, 4, 2, 1, 0, 6, 5, 3, 4, 2, 1, 0, 6, 5, 3, 4, 2, 1, 0, 7, 0, 1, 2, 3, 4, 5, 6, 7, 6, 5, 3, 4, 2, 1, 0, 0, 1, 0, 2, 1, 0, 3, 4, 2, 1, 0, 5, 3, 4, 2, 1, 0, 6, 5, 3, 4, 2, 1, 0]] [0, 3, 5, 6]) (.seq (.reg c55_r2 [0, 3, 5, 20]) (.cond (Operand.tmp 20) (.seq (.reg c55_r3 [4]) .ret) .skip))) (.seq (.draw c55_r4 [[], [0], [1, 0], [2, 1, 0], [], [3, 4, 0, 1, 2, 3, 4, 2, 1, 0, 0, 1, 0, 2, 1, 0]] [0, 3]) (.seq (.reg c55_r5 [0, 3, 7]) (.seq (.seq (.reg c55_r6 [0, 3, 7, 31, 32]) (.block 0 (.loop c55_l0))) (.seq (.draw c55_r15 [[], [0], [1, 0], [2, 1, 0], [], [], [5], [6, 5], [7, 6, 5], [], [], [3, 4, 8, 2, 1, 0, 7, 6, 5], [11, 3, 4, 8, 2, 1, 0, 7, 6, 5], [3, 12, 11, 0, 1, 2, 3, 4, 8, 11, 2, 1, 0, 11, 3, 4, 8, 2, 1, 0, 7, 6, 5, 3, 4, 8, 2, 1, 0, 7, 6, 5, 0, 1, 0, 2, 1, 0, 7, 6, 5, 3, 4, 8, 2, 1, 0, 7, 6, 5], [8, 9, 13, 0, 1, 2, 3, 4, 8, 11, 12, 13, 7, 6, 5, 3, 12, 11, 0, 1, 2, 3, 4, 8, 11, 2, 1, 0, 11, 3, 4, 8, 2, 1, 0, 7, 6, 5, 3, 4, 8, 2, 1, 0, 7, 6, 5, 0, 1, 0, 2, 1, 0, 7, 6, 5, 3, 4, 8, 2, 1, 0, 7, 6, 5, 0, 1, 0, 2, 1, 0, 7, 6, 5, 3, 4, 8, 2, 1, 0, 7, 6, 5, 11, 3, 4, 8, 2, 1, 0, 7, 6, 5, 3, 12, 11, 0, 1, 2, 3, 4, 8, 11, 2, 1, 0, 11, 3, 4, 8, 2, 1, 0, 7, 6, 5, 3, 4, 8, 2, 1, 0, 7, 6, 5, 0, 1, 0, 2, 1, 0, 7, 6, 5, 3, 4, 8, 2, 1, 0, 7, 6, 5], [14, 8, 9, 13, 0, 1, 2, 3, 4, 8, 11, 12, 13, 7, 6, 5, 3, 12, 11, 0, 1, 2, 3, 4, 8, 11, 2, 1, 0, 11, 3, 4, 8, 2, 1, 0, 7, 6, 5, 3, 4, 8, 2, 1, 0, 7, 6, 5, 0, 1, 0, 2, 1, 0, 7, 6, 5, 3, 4, 8, 2, 1, 0, 7, 6, 5, 0, 1, 0, 2, 1, 0, 7, 6, 5, 3, 4, 8, 2, 1, 0, 7, 6, 5, 11, 3, 4, 8, 2, 1, 0, 7, 6, 5, 3, 12, 11, 0, 1, 2, 3, 4, 8, 11, 2, 1, 0, 11, 3, 4, 8, 2, 1, 0, 7, 6, 5, 3, 4, 8, 2, 1, 0, 7, 6, 5, 0, 1, 0, 2, 1, 0, 7, 6, 5, 3, 4, 8, 2, 1, 0, 7, 6, 5], [8, 15, 10, 14, 0, 1, 2, 3, 4, 5, 6, 7, 8, 9, 10, 11, 12, 13, 14, 7, 6, 5, 14, 8, 9, 13, 0, 1, 2, 3, 4, 8, 11, 12, 13, 7, 6, 5, 3, 12, 11, 0, 1, 2, 3, 4, 8, 11, 2, 1, 0, 11, 3, 4, 8, 2, 1, 0, 7, 6, 5, 3, 4, 8, 2, 1, 0, 7, 6, 5, 0, 1, 0, 2, 1, 0, 7, 6, 5, 3, 4, 8, 2, 1, 0, 7, 6, 5, 0, 1, 0, 2, 1, 0, 7, 6, 5, 3, 4, 8, 2, 1, 0, 7, 6, 5, 11, 3, 4, 8, 2, 1, 0, 7, 6, 5, 3, 12, 11, 0, 1, 2, 3, 4, 8, 11, 2, 1, 0, 11, 3, 4, 8, 2, 1, 0, 7, 6, 5, 3, 4, 8, 2, 1, 0, 7, 6, 5, 0, 1, 0, 2, 1, 0, 7, 6, 5, 3, 4, 8, 2, 1, 0, 7, 6, 5, 8, 9, 13, 0, 1, 2, 3, 4, 8, 11, 12, 13, 7, 6, 5, 3, 12, 11, 0, 1, 2, 3, 4, 8, 11, 2, 1, 0, 11, 3, 4, 8, 2, 1, 0, 7, 6, 5, 3, 4, 8, 2, 1, 0, 7, 6, 5, 0, 1, 0, 2, 1, 0, 7, 6, 5, 3, 4, 8, 2, 1, 0, 7, 6, 5, 0, 1, 0, 2, 1, 0, 7, 6, 5, 3, 4, 8, 2, 1, 0, 7, 6, 5, 11, 3, 4, 8, 2, 1, 0, 7, 6, 5, 3, 12, 11, 0, 1, 2, 3, 4, 8, 11, 2, 1, 0, 11, 3, 4, 8, 2, 1, 0, 7, 6, 5, 3, 4, 8, 2, 1, 0, 7, 6, 5, 0, 1, 0, 2, 1, 0, 7, 6, 5, 3, 4, 8, 2, 1, 0, 7, 6, 5, 0, 1, 0, 2, 1, 0, 5, 6, 5, 7, 6, 5, 3, 4, 8, 2, 1, 0, 7, 6, 5, 11, 3, 4, 8, 2, 1, 0, 7, 6, 5, 3, 12, 11, 0, 1, 2, 3, 4, 8, 11, 2, 1, 0, 11, 3, 4, 8, 2, 1, 0, 7, 6, 5, 3, 4, 8, 2, 1, 0, 7, 6, 5, 0, 1, 0, 2, 1, 0, 7, 6, 5, 3, 4, 8, 2, 1, 0, 7, 6, 5, 8, 9, 13, 0, 1, 2, 3, 4, 8, 11, 12, 13, 7, 6, 5, 3, 12, 11, 0, 1, 2, 3, 4, 8, 11, 2, 1, 0, 11, 3, 4, 8, 2, 1, 0, 7, 6, 5, 3, 4, 8, 2, 1, 0, 7, 6, 5, 0, 1, 0, 2, 1, 0, 7, 6, 5, 3, 4, 8, 2, 1, 0, 7, 6, 5, 0, 1, 0, 2, 1, 0, 7, 6, 5, 3, 4, 8, 2, 1, 0, 7, 6, 5, 11, 3, 4, 8, 2, 1, 0, 7, 6, 5, 3, 12, 11, 0, 1, 2, 3, 4, 8, 11, 2, 1, 0, 11, 3, 4, 8, 2, 1, 0, 7, 6, 5, 3, 4, 8, 2, 1, 0, 7, 6, 5, 0, 1, 0, 2, 1, 0, 7, 6, 5, 3, 4, 8, 2, 1, 0, 7, 6, 5]] []) (.seq (.reg c55_r16 [4]) .ret)))))))
theorem F55 : Fn Try.prog 55 c55 [SRes.tmp 4] 72 := ⟨Try.f55, Try.f55.body.getD .skip, [[0, 3], [0, 3, 5, 6], [0, 3, 5, 20], [4], [0, 3], [0, 3, 7], [0, 3, 7, 31, 32], [0, 3, 7, 31, 32, 33], [0, 3, 7, 8, 31, 32], [0, 3, 7, 9, 10, 31, 32], [0, 3, 7, 9, 31, 32, 43], [0, 3, 7, 9, 31, 32, 46], [4], [0, 3, 7, 31, 32], [0, 3, 7, 31, 32], [], [4]], Try.func55, by kernel_rfl, by kernel_rfl, by kernel_rfl, by kernel_rfl, by decide⟩

def c54_r0 : List SIns := [
  { dst := some 2, op := SOp.mv (Operand.const (Value.pointer none)), guard := none }]
def c54_r1 : List SIns := [
  { dst := some 4, op := SOp.mv (Operand.tmp 0), guard := none },
  { dst := some 5, op := SOp.mkmap, guard := none },
  { dst := some 6, op := SOp.mkmap, guard := none },
  { dst := some 7, op := SOp.build [Value.slice none 0 0, Value.int (IntKind.i64) 0, Value.int (IntKind.i64) 0, Value.int (IntKind.i64) 0, Value.int (IntKind.i64) 0, Value.map none, Value.map none] [(0, 1, Operand.tmp 4), (5, 1, Operand.tmp 5), (6, 1, Operand.tmp 6)], guard := none },
  { dst := some 8, op := SOp.box (Operand.tmp 7), guard := none },
  { dst := some 3, op := SOp.mv (Operand.tmp 8), guard := none }]
def c54_r2 : List SIns := [
  { dst := some 9, op := SOp.mv (Operand.tmp 3), guard := none },
  { dst := some 10, op := SOp.nilck (Operand.tmp 9), guard := none },
  { dst := some 11, op := SOp.off 1 (Operand.tmp 10), guard := none },
  { dst := some 12, op := SOp.slcA 4 1 (Operand.tmp 11) none none none, guard := none },
  { dst := some 13, op := SOp.mv (Operand.tmp 0), guard := none },
  { dst := some 14, op := SOp.copy 1 (Operand.tmp 12) (Operand.tmp 13), guard := none }]
def c54_r3 : List SIns := [
  { dst := some 15, op := SOp.mv (Operand.tmp 3), guard := none },
  { dst := some 2, op := SOp.mv (Operand.tmp 15), guard := none }]
def c54 : SCode := (.seq (.reg c54_r0 [0]) (.seq (.reg c54_r1 [0, 3]) (.seq (.reg c54_r2 [3]) (.seq (.reg c54_r3 [2]) .ret))))
theorem F54 : Fn Try.prog 54 c54 [SRes.tmp 2] 16 := ⟨Try.f54, Try.f54.body.getD .skip, [[0], [0, 3], [3], [2]], Try.func54, by kernel_rfl, by kernel_rfl, by kernel_rfl, by kernel_rfl, by decide⟩

def c19_r0 : List SIns := [
  { dst := some 2, op := SOp.mv (Operand.const (Value.bool false)), guard := none },
  { dst := some 3, op := SOp.mv (Operand.const (Value.int (IntKind.i64) 0)), guard := none }]
def c19_r1 : List SIns := [
  { dst := some 6, op := SOp.mv (Operand.tmp 0), guard := none },
  { dst := some 7, op := SOp.call 23 [Operand.tmp 6], guard := none },
  { dst := some 4, op := SOp.mv (Operand.tmp 7), guard := none }]
def c19_r2 : List SIns := [
  { dst := some 8, op := SOp.mv (Operand.tmp 4), guard := none },
  { dst := some 9, op := SOp.ib (BinOp.neq) (Operand.tmp 8) (Operand.const (Value.int (IntKind.i64) 0)), guard := none }]
def c19_r3 : List SIns := [
  { dst := some 10, op := SOp.mv (Operand.tmp 4), guard := none },
  { dst := some 2, op := SOp.mv (Operand.const (Value.bool false)), guard := none },
  { dst := some 3, op := SOp.mv (Operand.tmp 10), guard := none }]
def c19_r4 : List SIns := [
  { dst := some 11, op := SOp.mv (Operand.tmp 0), guard := none },
  { dst := some 12, op := SOp.call 54 [Operand.tmp 11], guard := none },
  { dst := some 5, op := SOp.mv (Operand.tmp 12), guard := none }]
def c19_r5 : List SIns := [
  { dst := some 13, op := SOp.mv (Operand.tmp 5), guard := none },
  { dst := some 14, op := SOp.mv (Operand.tmp 5), guard := none },
  { dst := some 15, op := SOp.nilck (Operand.tmp 14), guard := none },
  { dst := some 16, op := SOp.off 1 (Operand.tmp 15), guard := none },
  { dst := some 17, op := SOp.loadN 4 (Operand.tmp 16), guard := none },
  { dst := some 18, op := SOp.call 55 [Operand.tmp 13, Operand.tmp 17], guard := none },
  { dst := some 2, op := SOp.mv (Operand.tmp 18), guard := none },
  { dst := some 3, op := SOp.mv (Operand.const (Value.int (IntKind.i64) 0)), guard := none }]
def c19 : SCode := (.seq (.reg c19_r0 [0]) (.seq (.seq (.reg c19_r1 [0, 4]) (.seq (.reg c19_r2 [0, 4, 9]) (.cond (Operand.tmp 9) (.seq (.reg c19_r3 [2, 3]) .ret) .skip))) (.seq (.reg c19_r4 [5]) (.seq (.reg c19_r5 [2, 3]) .ret))))
theorem F19 : Fn Try.prog 19 c19 [SRes.tmp 2, SRes.tmp 3] 19 := ⟨Try.f19, Try.f19.body.getD .skip, [[0], [0, 4], [0, 4, 9], [2, 3], [5], [2, 3]], Try.func19, by kernel_rfl, by kernel_rfl, by kernel_rfl, by kernel_rfl, by decide⟩

def c21_r0 : List SIns := [
  { dst := some 2, op := SOp.mv (Operand.const (Value.int (IntKind.i64) 0)), guard := none },
  { dst := some 3, op := SOp.mv (Operand.const (Value.int (IntKind.i64) 0)), guard := none }]
def c21_r1 : List SIns := [
  { dst := some 6, op := SOp.mv (Operand.tmp 0), guard := none },
  { dst := some 7, op := SOp.call 23 [Operand.tmp 6], guard := none },
  { dst := some 4, op := SOp.mv (Operand.tmp 7), guard := none }]
def c21_r2 : List SIns := [
  { dst := some 8, op := SOp.mv (Operand.tmp 4), guard := none },
  { dst := some 9, op := SOp.ib (BinOp.neq) (Operand.tmp 8) (Operand.const (Value.int (IntKind.i64) 0)), guard := none }]
def c21_r3 : List SIns := [
  { dst := some 10, op := SOp.mv (Operand.tmp 4), guard := none },
  { dst := some 2, op := SOp.mv (Operand.const (Value.int (IntKind.i64) 0)), guard := none },
  { dst := some 3, op := SOp.mv (Operand.tmp 10), guard := none }]
def c21_r4 : List SIns := [
  { dst := some 11, op := SOp.mv (Operand.tmp 0), guard := none },
  { dst := some 12, op := SOp.call 54 [Operand.tmp 11], guard := none },
  { dst := some 5, op := SOp.mv (Operand.tmp 12), guard := none }]
def c21_r5 : List SIns := [
  { dst := some 13, op := SOp.mv (Operand.tmp 5), guard := none },
  { dst := some 14, op := SOp.mv (Operand.tmp 5), guard := none },
  { dst := some 15, op := SOp.nilck (Operand.tmp 14), guard := none },
  { dst := some 16, op := SOp.off 1 (Operand.tmp 15), guard := none },
  { dst := some 17, op := SOp.loadN 4 (Operand.tmp 16), guard := none },
  { dst := some 18, op := SOp.call 55 [Operand.tmp 13, Operand.tmp 17], guard := none }]
def c21_r6 : List SIns := [
  { dst := some 2, op := SOp.mv (Operand.const (Value.int (IntKind.i64) 0)), guard := none },
  { dst := some 3, op := SOp.mv (Operand.const (Value.int (IntKind.i64) 13)), guard := none }]
def c21_r7 : List SIns := [
  { dst := some 19, op := SOp.mv (Operand.tmp 5), guard := none },
  { dst := some 20, op := SOp.nilck (Operand.tmp 19), guard := none },
  { dst := some 21, op := SOp.off 6 (Operand.tmp 20), guard := none },
  { dst := some 22, op := SOp.load1 (Operand.tmp 21), guard := none },
  { dst := some 23, op := SOp.mv (Operand.tmp 5), guard := none },
  { dst := some 24, op := SOp.nilck (Operand.tmp 23), guard := none },
  { dst := some 25, op := SOp.off 1 (Operand.tmp 24), guard := none },
  { dst := some 26, op := SOp.loadN 4 (Operand.tmp 25), guard := none },
  { dst := some 27, op := SOp.look (KTy.ar 4 (IntKind.i64)) (Value.int (IntKind.i64) 0) false (Operand.tmp 22) (Operand.tmp 26), guard := none },
  { dst := some 2, op := SOp.mv (Operand.tmp 27), guard := none },
  { dst := some 3, op := SOp.mv (Operand.const (Value.int (IntKind.i64) 0)), guard := none }]
def c21 : SCode := (.seq (.reg c21_r0 [0]) (.seq (.seq (.reg c21_r1 [0, 4]) (.seq (.reg c21_r2 [0, 4, 9]) (.cond (Operand.tmp 9) (.seq (.reg c21_r3 [2, 3]) .ret) .skip))) (.seq (.reg c21_r4 [5]) (.seq (.seq (.reg c21_r5 [5, 18]) (.cond (Operand.tmp 18) (.seq (.reg c21_r6 [2, 3]) .ret) .skip)) (.seq (.draw c21_r7 [[], [0], [1, 0], [2, 1, 0], [], [4], [5, 4], [6, 5, 4], [3, 7, 2, 1, 0, 6, 5, 4], [8, 0, 1, 2, 3, 4, 5, 6, 7, 8, 3, 7, 2, 1, 0, 6, 5, 4, 0, 1, 0, 2, 1, 0, 4, 5, 4, 6, 5, 4, 3, 7, 2, 1, 0, 6, 5, 4], [9, 0, 1, 2, 3, 4, 5, 6, 7, 8, 9, 8, 0, 1, 2, 3, 4, 5, 6, 7, 8, 3, 7, 2, 1, 0, 6, 5, 4, 0, 1, 0, 2, 1, 0, 4, 5, 4, 6, 5, 4, 3, 7, 2, 1, 0, 6, 5, 4, 0, 1, 0, 2, 1, 0, 4, 5, 4, 6, 5, 4, 3, 7, 2, 1, 0, 6, 5, 4, 8, 0, 1, 2, 3, 4, 5, 6, 7, 8, 3, 7, 2, 1, 0, 6, 5, 4, 0, 1, 0, 2, 1, 0, 4, 5, 4, 6, 5, 4, 3, 7, 2, 1, 0, 6, 5, 4]] [2, 3]) .ret)))))
theorem F21 : Fn Try.prog 21 c21 [SRes.tmp 2, SRes.tmp 3] 28 := ⟨Try.f21, Try.f21.body.getD .skip, [[0], [0, 4], [0, 4, 9], [2, 3], [5], [5, 18], [2, 3], [2, 3]], Try.func21, by kernel_rfl, by kernel_rfl, by kernel_rfl, by kernel_rfl, by decide⟩

def c62_r0 : List SIns := [
  { dst := some 2, op := SOp.box (Operand.tmp 0), guard := none },
  { dst := some 4, op := SOp.mv (Operand.const (Value.pointer none)), guard := none },
  { dst := some 5, op := SOp.alloc [Value.int (IntKind.i64) 0, Value.int (IntKind.i64) 0, Value.int (IntKind.i64) 0, Value.int (IntKind.i64) 0], guard := none },
  { dst := some 6, op := SOp.mv (Operand.const (Value.int (IntKind.i64) 0)), guard := none }]
def c62_r1 : List SIns := [
  { dst := some 14, op := SOp.load1 (Operand.tmp 2), guard := none },
  { dst := some 15, op := SOp.call 23 [Operand.tmp 14], guard := none },
  { dst := some 7, op := SOp.mv (Operand.tmp 15), guard := none }]
def c62_r2 : List SIns := [
  { dst := some 17, op := SOp.mv (Operand.tmp 7), guard := none },
  { dst := some 18, op := SOp.ib (BinOp.neq) (Operand.tmp 17) (Operand.const (Value.int (IntKind.i64) 0)), guard := none },
  { dst := some 16, op := SOp.mv (Operand.tmp 18), guard := none }]
def c62_r3 : List SIns := [
  { dst := some 19, op := SOp.build [Value.int (IntKind.i64) 0, Value.int (IntKind.i64) 0, Value.int (IntKind.i64) 0, Value.int (IntKind.i64) 0] [], guard := none },
  { dst := some 20, op := SOp.mv (Operand.tmp 7), guard := none },
  { dst := some 4, op := SOp.mv (Operand.const (Value.pointer none)), guard := none },
  { dst := none, op := SOp.store 4 (Operand.tmp 5) (Operand.tmp 19), guard := none },
  { dst := some 6, op := SOp.mv (Operand.tmp 20), guard := none }]
def c62_r4 : List SIns := [
  { dst := some 22, op := SOp.mv (Operand.tmp 1), guard := none },
  { dst := some 23, op := SOp.lenSl (Operand.tmp 22), guard := none },
  { dst := some 24, op := SOp.ib (BinOp.gtr) (Operand.tmp 23) (Operand.const (Value.int (IntKind.i64) 60)), guard := none },
  { dst := some 21, op := SOp.mv (Operand.tmp 24), guard := none }]
def c62_r5 : List SIns := [
  { dst := some 25, op := SOp.build [Value.int (IntKind.i64) 0, Value.int (IntKind.i64) 0, Value.int (IntKind.i64) 0, Value.int (IntKind.i64) 0] [], guard := none },
  { dst := some 4, op := SOp.mv (Operand.const (Value.pointer none)), guard := none },
  { dst := none, op := SOp.store 4 (Operand.tmp 5) (Operand.tmp 25), guard := none },
  { dst := some 6, op := SOp.mv (Operand.const (Value.int (IntKind.i64) 19)), guard := none }]
def c62_r6 : List SIns := [
  { dst := some 27, op := SOp.mv (Operand.tmp 1), guard := none },
  { dst := some 28, op := SOp.mkfn (Fn.func 81) [] [Operand.tmp 2], guard := none },
  { dst := some 29, op := SOp.call 58 [Operand.tmp 27, Operand.tmp 28], guard := none },
  { dst := some 26, op := SOp.mv (Operand.tmp 29), guard := none }]
def c62_r7 : List SIns := [
  { dst := some 30, op := SOp.build [Value.int (IntKind.i64) 0, Value.int (IntKind.i64) 0, Value.int (IntKind.i64) 0, Value.int (IntKind.i64) 0] [], guard := none },
  { dst := some 4, op := SOp.mv (Operand.const (Value.pointer none)), guard := none },
  { dst := none, op := SOp.store 4 (Operand.tmp 5) (Operand.tmp 30), guard := none },
  { dst := some 6, op := SOp.mv (Operand.const (Value.int (IntKind.i64) 2)), guard := none }]
def c62_r8 : List SIns := [
  { dst := some 31, op := SOp.load1 (Operand.tmp 2), guard := none },
  { dst := some 32, op := SOp.call 54 [Operand.tmp 31], guard := none },
  { dst := some 8, op := SOp.mv (Operand.tmp 32), guard := none }]
def c62_r9 : List SIns := [
  { dst := some 33, op := SOp.mv (Operand.tmp 8), guard := none },
  { dst := some 34, op := SOp.nilck (Operand.tmp 33), guard := none },
  { dst := some 35, op := SOp.off 1 (Operand.tmp 34), guard := none },
  { dst := some 36, op := SOp.loadN 4 (Operand.tmp 35), guard := none },
  { dst := some 9, op := SOp.alloc [Value.int (IntKind.i64) 0, Value.int (IntKind.i64) 0, Value.int (IntKind.i64) 0, Value.int (IntKind.i64) 0], guard := none },
  { dst := none, op := SOp.store 4 (Operand.tmp 9) (Operand.tmp 36), guard := none }]
def c62_r10 : List SIns := [
  { dst := some 37, op := SOp.mv (Operand.tmp 1), guard := none },
  { dst := some 38, op := SOp.lenSl (Operand.tmp 37), guard := none },
  { dst := some 39, op := SOp.mv (Operand.const (Value.int (IntKind.i64) 0)), guard := none }]
def c62_r11 : List SIns := [
  { dst := some 40, op := SOp.ib (BinOp.lss) (Operand.tmp 39) (Operand.tmp 38), guard := none }]
def c62_r12 : List SIns := [
  { dst := some 41, op := SOp.idx 1 (Operand.tmp 37) (Operand.tmp 39), guard := none },
  { dst := some 42, op := SOp.load1 (Operand.tmp 41), guard := none },
  { dst := some 11, op := SOp.mv (Operand.tmp 42), guard := none }]
def c62_r13 : List SIns := [
  { dst := some 44, op := SOp.mv (Operand.tmp 8), guard := none },
  { dst := some 45, op := SOp.loadN 4 (Operand.tmp 9), guard := none },
  { dst := some 46, op := SOp.mv (Operand.tmp 11), guard := none },
  { dst := some 47, op := SOp.call 77 [Operand.tmp 44, Operand.tmp 45, Operand.tmp 46], guard := none },
  { dst := some 43, op := SOp.mv (Operand.tmp 47), guard := none },
  { dst := some 48, op := SOp.ext (Operand.tmp 43) 0, guard := none },
  { dst := some 49, op := SOp.ext (Operand.tmp 43) 1, guard := none },
  { dst := some 12, op := SOp.alloc [Value.int (IntKind.i64) 0, Value.int (IntKind.i64) 0, Value.int (IntKind.i64) 0, Value.int (IntKind.i64) 0], guard := none },
  { dst := none, op := SOp.store 4 (Operand.tmp 12) (Operand.tmp 48), guard := none },
  { dst := some 13, op := SOp.mv (Operand.tmp 49), guard := none }]
def c62_r14 : List SIns := [
  { dst := some 50, op := SOp.mv (Operand.tmp 13), guard := none },
  { dst := some 51, op := SOp.nt (Operand.tmp 50), guard := none }]
def c62_r15 : List SIns := [
  { dst := some 52, op := SOp.build [Value.int (IntKind.i64) 0, Value.int (IntKind.i64) 0, Value.int (IntKind.i64) 0, Value.int (IntKind.i64) 0] [], guard := none },
  { dst := some 4, op := SOp.mv (Operand.const (Value.pointer none)), guard := none },
  { dst := none, op := SOp.store 4 (Operand.tmp 5) (Operand.tmp 52), guard := none },
  { dst := some 6, op := SOp.mv (Operand.const (Value.int (IntKind.i64) 12)), guard := none }]
def c62_r16 : List SIns := [
  { dst := some 53, op := SOp.loadN 4 (Operand.tmp 12), guard := none },
  { dst := none, op := SOp.store 4 (Operand.tmp 9) (Operand.tmp 53), guard := none }]
def c62_r17 : List SIns := [
  { dst := some 54, op := SOp.ib (BinOp.add) (Operand.tmp 39) (Operand.const (Value.int (IntKind.i64) 1)), guard := none },
  { dst := some 39, op := SOp.mv (Operand.tmp 54), guard := none }]
def c62_l0 : SCode := (.seq (.reg c62_r11 [5, 8, 9, 37, 38, 39, 40]) (.seq (.cond (Operand.tmp 40) .skip (.exit 1)) (.seq (.block 2 (.seq (.reg c62_r12 [5, 8, 9, 11, 37, 38, 39]) (.seq (.reg c62_r13 [5, 8, 9, 12, 13, 37, 38, 39]) (.seq (.seq (.reg c62_r14 [5, 8, 9, 12, 37, 38, 39, 51]) (.cond (Operand.tmp 51) (.seq (.reg c62_r15 [4, 5, 6]) .ret) .skip)) (.reg c62_r16 [5, 8, 9, 37, 38, 39]))))) (.reg c62_r17 [5, 8, 9, 37, 38, 39]))))
def c62_r18 : List SIns := [
  { dst := some 55, op := SOp.mv (Operand.tmp 8), guard := none },
  { dst := some 56, op := SOp.loadN 4 (Operand.tmp 9), guard := none },
  { dst := some 4, op := SOp.mv (Operand.tmp 55), guard := none },
  { dst := none, op := SOp.store 4 (Operand.tmp 5) (Operand.tmp 56), guard := none },
  { dst := some 6, op := SOp.mv (Operand.const (Value.int (IntKind.i64) 0)), guard := none }]
def c62 : SCode := (.seq (.reg c62_r0 [1, 2, 5]) (.seq (.reg c62_r1 [1, 2, 5, 7]) (.seq (.block 0 (.seq (.reg c62_r2 [1, 2, 5, 7, 16]) (.cond (Operand.tmp 16) (.seq (.reg c62_r3 [4, 5, 6]) .ret) (.seq (.reg c62_r4 [1, 2, 5, 21]) (.cond (Operand.tmp 21) (.seq (.reg c62_r5 [4, 5, 6]) .ret) (.seq (.reg c62_r6 [1, 2, 5, 26]) (.cond (Operand.tmp 26) (.seq (.reg c62_r7 [4, 5, 6]) .ret) .skip))))))) (.seq (.reg c62_r8 [1, 5, 8]) (.seq (.reg c62_r9 [1, 5, 8, 9]) (.seq (.seq (.reg c62_r10 [5, 8, 9, 37, 38, 39]) (.block 1 (.loop c62_l0))) (.seq (.draw c62_r18 [[], [], [0, 0], [1, 2, 0, 1, 2, 0, 0, 0, 0], [3, 0, 1, 2, 3, 1, 2, 0, 1, 2, 0, 0, 0, 0, 0, 0, 1, 2, 0, 1, 2, 0, 0, 0, 0]] [4, 5, 6]) .ret)))))))
theorem F62 : Fn Try.prog 62 c62 [SRes.tmp 4, SRes.cell 5 (some 4), SRes.tmp 6] 57 := ⟨Try.f62, Try.f62.body.getD .skip, [[1, 2, 5], [1, 2, 5, 7], [1, 2, 5, 7, 16], [4, 5, 6], [1, 2, 5, 21], [4, 5, 6], [1, 2, 5, 26], [4, 5, 6], [1, 5, 8], [1, 5, 8, 9], [5, 8, 9, 37, 38, 39], [5, 8, 9, 37, 38, 39, 40], [5, 8, 9, 11, 37, 38, 39], [5, 8, 9, 12, 13, 37, 38, 39], [5, 8, 9, 12, 37, 38, 39, 51], [4, 5, 6], [5, 8, 9, 37, 38, 39], [5, 8, 9, 37, 38, 39], [4, 5, 6]], Try.func62, by kernel_rfl, by kernel_rfl, by kernel_rfl, by kernel_rfl, by decide⟩

def c81_r0 : List SIns := [
  { dst := some 3, op := SOp.mv (Operand.const (Value.bool false)), guard := none }]
def c81_r1 : List SIns := [
  { dst := some 4, op := SOp.mv (Operand.tmp 0), guard := none },
  { dst := some 5, op := SOp.load1 (Operand.tmp 1), guard := none },
  { dst := some 6, op := SOp.lenSl (Operand.tmp 5), guard := none },
  { dst := some 7, op := SOp.ib (BinOp.sub) (Operand.tmp 6) (Operand.const (Value.int (IntKind.i64) 1)), guard := none },
  { dst := some 8, op := SOp.call 60 [Operand.const (Value.int (IntKind.i64) 0), Operand.tmp 4, Operand.tmp 7], guard := none },
  { dst := some 9, op := SOp.nt (Operand.tmp 8), guard := none },
  { dst := some 3, op := SOp.mv (Operand.tmp 9), guard := none }]
def c81 : SCode := (.seq (.reg c81_r0 [0, 1]) (.seq (.reg c81_r1 [3]) .ret))
theorem F81 : Fn Try.prog 81 c81 [SRes.tmp 3] 10 := ⟨Try.f81, Try.f81.body.getD .skip, [[0, 1], [3]], Try.func81, by kernel_rfl, by kernel_rfl, by kernel_rfl, by kernel_rfl, by decide⟩

def c68_r0 : List SIns := [
  { dst := some 3, op := SOp.box (Operand.tmp 1), guard := none },
  { dst := some 4, op := SOp.mv (Operand.const (Value.int (IntKind.i64) 0)), guard := none },
  { dst := some 5, op := SOp.alloc [Value.int (IntKind.i64) 0, Value.int (IntKind.i64) 0, Value.int (IntKind.i64) 0, Value.int (IntKind.i64) 0], guard := none }]
def c68_r1 : List SIns := [
  { dst := some 9, op := SOp.mv (Operand.tmp 0), guard := none },
  { dst := some 10, op := SOp.nilck (Operand.tmp 9), guard := none },
  { dst := some 11, op := SOp.off 0 (Operand.tmp 10), guard := none },
  { dst := some 12, op := SOp.load1 (Operand.tmp 11), guard := none },
  { dst := some 13, op := SOp.lenSl (Operand.tmp 12), guard := none },
  { dst := some 14, op := SOp.mv (Operand.const (Value.int (IntKind.i64) 0)), guard := none }]
def c68_r2 : List SIns := [
  { dst := some 15, op := SOp.ib (BinOp.lss) (Operand.tmp 14) (Operand.tmp 13), guard := none }]
def c68_r3 : List SIns := [
  { dst := some 16, op := SOp.mv (Operand.tmp 14), guard := none },
  { dst := some 6, op := SOp.mv (Operand.tmp 16), guard := none }]
def c68_r4 : List SIns := [
  { dst := some 18, op := SOp.mv (Operand.tmp 0), guard := none },
  { dst := some 19, op := SOp.loadN 4 (Operand.tmp 3), guard := none },
  { dst := some 20, op := SOp.mv (Operand.tmp 6), guard := none },
  { dst := some 21, op := SOp.call 77 [Operand.tmp 18, Operand.tmp 19, Operand.tmp 20], guard := none },
  { dst := some 17, op := SOp.mv (Operand.tmp 21), guard := none },
  { dst := some 22, op := SOp.ext (Operand.tmp 17) 0, guard := none },
  { dst := some 23, op := SOp.ext (Operand.tmp 17) 1, guard := none },
  { dst := some 7, op := SOp.alloc [Value.int (IntKind.i64) 0, Value.int (IntKind.i64) 0, Value.int (IntKind.i64) 0, Value.int (IntKind.i64) 0], guard := none },
  { dst := none, op := SOp.store 4 (Operand.tmp 7) (Operand.tmp 22), guard := none },
  { dst := some 8, op := SOp.mv (Operand.tmp 23), guard := none }]
def c68_r5 : List SIns := [
  { dst := some 24, op := SOp.mv (Operand.tmp 8), guard := none },
  { dst := some 25, op := SOp.mv (Operand.tmp 24), guard := none },
  { dst := some 26, op := SOp.mv (Operand.tmp 0), guard := some (25, true) },
  { dst := some 27, op := SOp.loadN 4 (Operand.tmp 7), guard := some (25, true) },
  { dst := some 28, op := SOp.call 55 [Operand.tmp 26, Operand.tmp 27], guard := some (25, true) },
  { dst := some 29, op := SOp.pick (Operand.tmp 25) (Operand.tmp 28) (Operand.const (Value.bool false)), guard := none }]
def c68_r6 : List SIns := [
  { dst := some 30, op := SOp.mv (Operand.tmp 6), guard := none },
  { dst := some 31, op := SOp.loadN 4 (Operand.tmp 7), guard := none },
  { dst := some 4, op := SOp.mv (Operand.tmp 30), guard := none },
  { dst := none, op := SOp.store 4 (Operand.tmp 5) (Operand.tmp 31), guard := none }]
def c68_r7 : List SIns := [
  { dst := some 32, op := SOp.ib (BinOp.add) (Operand.tmp 14) (Operand.const (Value.int (IntKind.i64) 1)), guard := none },
  { dst := some 14, op := SOp.mv (Operand.tmp 32), guard := none }]
def c68_l0 : SCode := (.seq (.reg c68_r2 [0, 3, 5, 13, 14, 15]) (.seq (.cond (Operand.tmp 15) .skip (.exit 0)) (.seq (.block 1 (.seq (.reg c68_r3 [0, 3, 5, 6, 13, 14]) (.seq (.reg c68_r4 [0, 3, 5, 6, 7, 8, 13, 14]) (.seq (.reg c68_r5 [0, 3, 5, 6, 7, 13, 14, 29]) (.cond (Operand.tmp 29) (.seq (.draw c68_r6 [[], [], [0, 0], [1, 2, 0, 1, 2, 0, 0, 0, 0]] [4, 5]) .ret) .skip))))) (.reg c68_r7 [0, 3, 5, 13, 14]))))
def c68_r8 : List SIns := [
  { dst := some 33, op := SOp.loadN 4 (Operand.tmp 3), guard := none },
  { dst := some 4, op := SOp.mv (Operand.const (Value.int (IntKind.i64) (-1))), guard := none },
  { dst := none, op := SOp.store 4 (Operand.tmp 5) (Operand.tmp 33), guard := none }]
def c68 : SCode := (.seq (.reg c68_r0 [0, 3, 5]) (.seq (.seq (.reg c68_r1 [0, 3, 5, 13, 14]) (.block 0 (.loop c68_l0))) (.seq (.draw c68_r8 [[], [], [0, 1, 0, 1]] [4, 5]) .ret)))
theorem F68 : Fn Try.prog 68 c68 [SRes.tmp 4, SRes.cell 5 (some 4)] 34 := ⟨Try.f68, Try.f68.body.getD .skip, [[0, 3, 5], [0, 3, 5, 13, 14], [0, 3, 5, 13, 14, 15], [0, 3, 5, 6, 13, 14], [0, 3, 5, 6, 7, 8, 13, 14], [0, 3, 5, 6, 7, 13, 14, 29], [4, 5], [0, 3, 5, 13, 14], [4, 5]], Try.func68, by kernel_rfl, by kernel_rfl, by kernel_rfl, by kernel_rfl, by decide⟩

def c25_r0 : List SIns := [
  { dst := some 4, op := SOp.mv (Operand.const (Value.slice none 0 0)), guard := none },
  { dst := some 5, op := SOp.mv (Operand.const (Value.int (IntKind.i64) 0)), guard := none }]
def c25_r1 : List SIns := [
  { dst := some 10, op := SOp.mv (Operand.tmp 0), guard := none },
  { dst := some 11, op := SOp.mv (Operand.tmp 1), guard := none },
  { dst := some 12, op := SOp.call 62 [Operand.tmp 10, Operand.tmp 11], guard := none },
  { dst := some 9, op := SOp.mv (Operand.tmp 12), guard := none },
  { dst := some 13, op := SOp.ext (Operand.tmp 9) 0, guard := none },
  { dst := some 14, op := SOp.ext (Operand.tmp 9) 1, guard := none },
  { dst := some 15, op := SOp.ext (Operand.tmp 9) 2, guard := none },
  { dst := some 7, op := SOp.alloc [Value.int (IntKind.i64) 0, Value.int (IntKind.i64) 0, Value.int (IntKind.i64) 0, Value.int (IntKind.i64) 0], guard := none },
  { dst := some 6, op := SOp.mv (Operand.tmp 13), guard := none },
  { dst := none, op := SOp.store 4 (Operand.tmp 7) (Operand.tmp 14), guard := none },
  { dst := some 8, op := SOp.mv (Operand.tmp 15), guard := none }]
def c25_r2 : List SIns := [
  { dst := some 16, op := SOp.mv (Operand.tmp 8), guard := none },
  { dst := some 17, op := SOp.ib (BinOp.neq) (Operand.tmp 16) (Operand.const (Value.int (IntKind.i64) 0)), guard := none }]
def c25_r3 : List SIns := [
  { dst := some 18, op := SOp.mv (Operand.tmp 8), guard := none },
  { dst := some 4, op := SOp.mv (Operand.const (Value.slice none 0 0)), guard := none },
  { dst := some 5, op := SOp.mv (Operand.tmp 18), guard := none }]
def c25_r4 : List SIns := [
  { dst := some 19, op := SOp.mv (Operand.tmp 0), guard := none },
  { dst := some 20, op := SOp.lenSl (Operand.tmp 19), guard := none },
  { dst := some 21, op := SOp.mv (Operand.tmp 0), guard := none },
  { dst := some 22, op := SOp.lenSl (Operand.tmp 21), guard := none },
  { dst := some 23, op := SOp.slcA 4 1 (Operand.tmp 7) none (some (Operand.tmp 20)) (some (Operand.tmp 22)), guard := none },
  { dst := some 4, op := SOp.mv (Operand.tmp 23), guard := none },
  { dst := some 5, op := SOp.mv (Operand.const (Value.int (IntKind.i64) 0)), guard := none }]
def c25 : SCode := (.seq (.reg c25_r0 [0, 1]) (.seq (.reg c25_r1 [0, 7, 8]) (.seq (.seq (.reg c25_r2 [0, 7, 8, 17]) (.cond (Operand.tmp 17) (.seq (.reg c25_r3 [4, 5]) .ret) .skip)) (.seq (.reg c25_r4 [4, 5]) .ret))))
theorem F25 : Fn Try.prog 25 c25 [SRes.tmp 4, SRes.tmp 5] 24 := ⟨Try.f25, Try.f25.body.getD .skip, [[0, 1], [0, 7, 8], [0, 7, 8, 17], [4, 5], [4, 5]], Try.func25, by kernel_rfl, by kernel_rfl, by kernel_rfl, by kernel_rfl, by decide⟩

def c27_r0 : List SIns := [
  { dst := some 4, op := SOp.mv (Operand.const (Value.bool false)), guard := none },
  { dst := some 5, op := SOp.mv (Operand.const (Value.int (IntKind.i64) 0)), guard := none }]
def c27_r1 : List SIns := [
  { dst := some 10, op := SOp.mv (Operand.tmp 0), guard := none },
  { dst := some 11, op := SOp.mv (Operand.tmp 1), guard := none },
  { dst := some 12, op := SOp.call 62 [Operand.tmp 10, Operand.tmp 11], guard := none },
  { dst := some 9, op := SOp.mv (Operand.tmp 12), guard := none },
  { dst := some 13, op := SOp.ext (Operand.tmp 9) 0, guard := none },
  { dst := some 14, op := SOp.ext (Operand.tmp 9) 1, guard := none },
  { dst := some 15, op := SOp.ext (Operand.tmp 9) 2, guard := none },
  { dst := some 7, op := SOp.alloc [Value.int (IntKind.i64) 0, Value.int (IntKind.i64) 0, Value.int (IntKind.i64) 0, Value.int (IntKind.i64) 0], guard := none },
  { dst := some 6, op := SOp.mv (Operand.tmp 13), guard := none },
  { dst := none, op := SOp.store 4 (Operand.tmp 7) (Operand.tmp 14), guard := none },
  { dst := some 8, op := SOp.mv (Operand.tmp 15), guard := none }]
def c27_r2 : List SIns := [
  { dst := some 16, op := SOp.mv (Operand.tmp 8), guard := none },
  { dst := some 17, op := SOp.ib (BinOp.eql) (Operand.tmp 16) (Operand.const (Value.int (IntKind.i64) 0)), guard := none },
  { dst := some 18, op := SOp.mv (Operand.tmp 17), guard := none },
  { dst := some 19, op := SOp.mv (Operand.tmp 6), guard := some (18, true) },
  { dst := some 20, op := SOp.loadN 4 (Operand.tmp 7), guard := some (18, true) },
  { dst := some 21, op := SOp.call 55 [Operand.tmp 19, Operand.tmp 20], guard := some (18, true) },
  { dst := some 22, op := SOp.pick (Operand.tmp 18) (Operand.tmp 21) (Operand.const (Value.bool false)), guard := none },
  { dst := some 23, op := SOp.mv (Operand.tmp 8), guard := none },
  { dst := some 4, op := SOp.mv (Operand.tmp 22), guard := none },
  { dst := some 5, op := SOp.mv (Operand.tmp 23), guard := none }]
def c27 : SCode := (.seq (.reg c27_r0 [0, 1]) (.seq (.reg c27_r1 [6, 7, 8]) (.seq (.reg c27_r2 [4, 5]) .ret)))
theorem F27 : Fn Try.prog 27 c27 [SRes.tmp 4, SRes.tmp 5] 24 := ⟨Try.f27, Try.f27.body.getD .skip, [[0, 1], [6, 7, 8], [4, 5]], Try.func27, by kernel_rfl, by kernel_rfl, by kernel_rfl, by kernel_rfl, by decide⟩

end Go.Sx.Wk
set_option maxRecDepth 100000
namespace Go.Sx.Wk
open Go Go.Sx Go.Proofs

def c32_r0 : List SIns := [
  { dst := some 4, op := SOp.mv (Operand.const (Value.slice none 0 0)), guard := none },
  { dst := some 5, op := SOp.mv (Operand.const (Value.int (IntKind.i64) 0)), guard := none }]
def c32_r1 : List SIns := [
  { dst := some 12, op := SOp.mv (Operand.tmp 0), guard := none },
  { dst := some 13, op := SOp.call 23 [Operand.tmp 12], guard := none },
  { dst := some 6, op := SOp.mv (Operand.tmp 13), guard := none }]
def c32_r2 : List SIns := [
  { dst := some 15, op := SOp.mv (Operand.tmp 6), guard := none },
  { dst := some 16, op := SOp.ib (BinOp.neq) (Operand.tmp 15) (Operand.const (Value.int (IntKind.i64) 0)), guard := none },
  { dst := some 14, op := SOp.mv (Operand.tmp 16), guard := none }]
def c32_r3 : List SIns := [
  { dst := some 17, op := SOp.mv (Operand.tmp 6), guard := none },
  { dst := some 4, op := SOp.mv (Operand.const (Value.slice none 0 0)), guard := none },
  { dst := some 5, op := SOp.mv (Operand.tmp 17), guard := none }]
def c32_r4 : List SIns := [
  { dst := some 19, op := SOp.mv (Operand.tmp 1), guard := none },
  { dst := some 20, op := SOp.call 60 [Operand.const (Value.int (IntKind.i64) 0), Operand.tmp 19, Operand.const (Value.int (IntKind.i64) 60)], guard := none },
  { dst := some 21, op := SOp.nt (Operand.tmp 20), guard := none },
  { dst := some 18, op := SOp.mv (Operand.tmp 21), guard := none }]
def c32_r5 : List SIns := [
  { dst := some 4, op := SOp.mv (Operand.const (Value.slice none 0 0)), guard := none },
  { dst := some 5, op := SOp.mv (Operand.const (Value.int (IntKind.i64) 1)), guard := none }]
def c32_r6 : List SIns := [
  { dst := some 22, op := SOp.mv (Operand.tmp 0), guard := none },
  { dst := some 23, op := SOp.call 54 [Operand.tmp 22], guard := none },
  { dst := some 7, op := SOp.mv (Operand.tmp 23), guard := none }]
def c32_r7 : List SIns := [
  { dst := some 24, op := SOp.mv (Operand.tmp 7), guard := none },
  { dst := some 25, op := SOp.mv (Operand.tmp 7), guard := none },
  { dst := some 26, op := SOp.nilck (Operand.tmp 25), guard := none },
  { dst := some 27, op := SOp.off 1 (Operand.tmp 26), guard := none },
  { dst := some 28, op := SOp.loadN 4 (Operand.tmp 27), guard := none },
  { dst := some 29, op := SOp.call 55 [Operand.tmp 24, Operand.tmp 28], guard := none },
  { dst := some 30, op := SOp.nt (Operand.tmp 29), guard := none }]
def c32_r8 : List SIns := [
  { dst := some 4, op := SOp.mv (Operand.const (Value.slice none 0 0)), guard := none },
  { dst := some 5, op := SOp.mv (Operand.const (Value.int (IntKind.i64) 12)), guard := none }]
def c32_r9 : List SIns := [
  { dst := some 8, op := SOp.mv (Operand.const (Value.slice none 0 0)), guard := none }]
def c32_r10 : List SIns := [
  { dst := some 31, op := SOp.mv (Operand.tmp 7), guard := none },
  { dst := some 32, op := SOp.nilck (Operand.tmp 31), guard := none },
  { dst := some 33, op := SOp.off 1 (Operand.tmp 32), guard := none },
  { dst := some 34, op := SOp.loadN 4 (Operand.tmp 33), guard := none },
  { dst := some 9, op := SOp.alloc [Value.int (IntKind.i64) 0, Value.int (IntKind.i64) 0, Value.int (IntKind.i64) 0, Value.int (IntKind.i64) 0], guard := none },
  { dst := none, op := SOp.store 4 (Operand.tmp 9) (Operand.tmp 34), guard := none }]
def c32_r11 : List SIns := [
  { dst := some 35, op := SOp.mv (Operand.tmp 1), guard := none },
  { dst := some 36, op := SOp.mv (Operand.const (Value.int (IntKind.i64) 0)), guard := none }]
def c32_r12 : List SIns := [
  { dst := some 37, op := SOp.ib (BinOp.lss) (Operand.tmp 36) (Operand.tmp 35), guard := none }]
def c32_r13 : List SIns := [
  { dst := some 39, op := SOp.mv (Operand.tmp 7), guard := none },
  { dst := some 40, op := SOp.loadN 4 (Operand.tmp 9), guard := none },
  { dst := some 41, op := SOp.call 68 [Operand.tmp 39, Operand.tmp 40], guard := none },
  { dst := some 38, op := SOp.mv (Operand.tmp 41), guard := none },
  { dst := some 42, op := SOp.ext (Operand.tmp 38) 0, guard := none },
  { dst := some 43, op := SOp.ext (Operand.tmp 38) 1, guard := none },
  { dst := some 11, op := SOp.alloc [Value.int (IntKind.i64) 0, Value.int (IntKind.i64) 0, Value.int (IntKind.i64) 0, Value.int (IntKind.i64) 0], guard := none },
  { dst := some 10, op := SOp.mv (Operand.tmp 42), guard := none },
  { dst := none, op := SOp.store 4 (Operand.tmp 11) (Operand.tmp 43), guard := none }]
def c32_r14 : List SIns := [
  { dst := some 44, op := SOp.mv (Operand.tmp 8), guard := none },
  { dst := some 45, op := SOp.mv (Operand.tmp 10), guard := none },
  { dst := some 46, op := SOp.mks 1 1 [Value.int (IntKind.i64) 0] [(0, 1, Operand.tmp 45)], guard := none },
  { dst := some 47, op := SOp.app 1 8 (Operand.tmp 44) (Operand.tmp 46), guard := none },
  { dst := some 48, op := SOp.loadN 4 (Operand.tmp 11), guard := none },
  { dst := some 8, op := SOp.mv (Operand.tmp 47), guard := none },
  { dst := none, op := SOp.store 4 (Operand.tmp 9) (Operand.tmp 48), guard := none }]
def c32_r15 : List SIns := [
  { dst := some 49, op := SOp.ib (BinOp.add) (Operand.tmp 36) (Operand.const (Value.int (IntKind.i64) 1)), guard := none },
  { dst := some 36, op := SOp.mv (Operand.tmp 49), guard := none }]
def c32_l0 : SCode := (.seq (.reg c32_r12 [7, 8, 9, 35, 36, 37]) (.seq (.cond (Operand.tmp 37) .skip (.exit 1)) (.seq (.block 2 (.seq (.reg c32_r13 [7, 8, 9, 10, 11, 35, 36]) (.draw c32_r14 [[], [], [1], [0, 2, 1], [], [3, 3, 0, 1, 2, 3, 0, 2, 1, 0, 2, 1, 1, 0, 2, 1], [4, 5, 0, 1, 2, 3, 4, 5, 3, 3, 0, 1, 2, 3, 0, 2, 1, 0, 2, 1, 1, 0, 2, 1, 1, 0, 2, 1, 3, 3, 0, 1, 2, 3, 0, 2, 1, 0, 2, 1, 1, 0, 2, 1]] [7, 8, 9, 35, 36]))) (.reg c32_r15 [7, 8, 9, 35, 36]))))
def c32_r16 : List SIns := [
  { dst := some 50, op := SOp.mv (Operand.tmp 8), guard := none },
  { dst := some 4, op := SOp.mv (Operand.tmp 50), guard := none },
  { dst := some 5, op := SOp.mv (Operand.const (Value.int (IntKind.i64) 0)), guard := none }]
def c32 : SCode := (.seq (.reg c32_r0 [0, 1]) (.seq (.reg c32_r1 [0, 1, 6]) (.seq (.block 0 (.seq (.reg c32_r2 [0, 1, 6, 14]) (.cond (Operand.tmp 14) (.seq (.reg c32_r3 [4, 5]) .ret) (.seq (.reg c32_r4 [0, 1, 18]) (.cond (Operand.tmp 18) (.seq (.reg c32_r5 [4, 5]) .ret) .skip))))) (.seq (.reg c32_r6 [1, 7]) (.seq (.seq (.reg c32_r7 [1, 7, 30]) (.cond (Operand.tmp 30) (.seq (.reg c32_r8 [4, 5]) .ret) .skip)) (.seq (.reg c32_r9 [1, 7, 8]) (.seq (.reg c32_r10 [1, 7, 8, 9]) (.seq (.seq (.reg c32_r11 [7, 8, 9, 35, 36]) (.block 1 (.loop c32_l0))) (.seq (.reg c32_r16 [4, 5]) .ret)))))))))
theorem F32 : Fn Try.prog 32 c32 [SRes.tmp 4, SRes.tmp 5] 51 := ⟨Try.f32, Try.f32.body.getD .skip, [[0, 1], [0, 1, 6], [0, 1, 6, 14], [4, 5], [0, 1, 18], [4, 5], [1, 7], [1, 7, 30], [4, 5], [1, 7, 8], [1, 7, 8, 9], [7, 8, 9, 35, 36], [7, 8, 9, 35, 36, 37], [7, 8, 9, 10, 11, 35, 36], [7, 8, 9, 35, 36], [7, 8, 9, 35, 36], [4, 5]], Try.func32, by kernel_rfl, by kernel_rfl, by kernel_rfl, by kernel_rfl, by decide⟩

def c34_r0 : List SIns := [
  { dst := some 2, op := SOp.mv (Operand.const (Value.slice none 0 0)), guard := none },
  { dst := some 3, op := SOp.mv (Operand.const (Value.slice none 0 0)), guard := none },
  { dst := some 4, op := SOp.mv (Operand.const (Value.int (IntKind.i64) 0)), guard := none }]
def c34_r1 : List SIns := [
  { dst := some 14, op := SOp.mv (Operand.tmp 0), guard := none },
  { dst := some 15, op := SOp.call 23 [Operand.tmp 14], guard := none },
  { dst := some 5, op := SOp.mv (Operand.tmp 15), guard := none }]
def c34_r2 : List SIns := [
  { dst := some 16, op := SOp.mv (Operand.tmp 5), guard := none },
  { dst := some 17, op := SOp.ib (BinOp.neq) (Operand.tmp 16) (Operand.const (Value.int (IntKind.i64) 0)), guard := none }]
def c34_r3 : List SIns := [
  { dst := some 18, op := SOp.mv (Operand.tmp 5), guard := none },
  { dst := some 2, op := SOp.mv (Operand.const (Value.slice none 0 0)), guard := none },
  { dst := some 3, op := SOp.mv (Operand.const (Value.slice none 0 0)), guard := none },
  { dst := some 4, op := SOp.mv (Operand.tmp 18), guard := none }]
def c34_r4 : List SIns := [
  { dst := some 19, op := SOp.mv (Operand.tmp 0), guard := none },
  { dst := some 20, op := SOp.call 54 [Operand.tmp 19], guard := none },
  { dst := some 6, op := SOp.mv (Operand.tmp 20), guard := none }]
def c34_r5 : List SIns := [
  { dst := some 21, op := SOp.mv (Operand.tmp 6), guard := none },
  { dst := some 22, op := SOp.mv (Operand.tmp 6), guard := none },
  { dst := some 23, op := SOp.nilck (Operand.tmp 22), guard := none },
  { dst := some 24, op := SOp.off 1 (Operand.tmp 23), guard := none },
  { dst := some 25, op := SOp.loadN 4 (Operand.tmp 24), guard := none },
  { dst := some 26, op := SOp.call 55 [Operand.tmp 21, Operand.tmp 25], guard := none },
  { dst := some 27, op := SOp.nt (Operand.tmp 26), guard := none }]
def c34_r6 : List SIns := [
  { dst := some 2, op := SOp.mv (Operand.const (Value.slice none 0 0)), guard := none },
  { dst := some 3, op := SOp.mv (Operand.const (Value.slice none 0 0)), guard := none },
  { dst := some 4, op := SOp.mv (Operand.const (Value.int (IntKind.i64) 12)), guard := none }]
def c34_r7 : List SIns := [
  { dst := some 7, op := SOp.mv (Operand.const (Value.slice none 0 0)), guard := none }]
def c34_r8 : List SIns := [
  { dst := some 28, op := SOp.mv (Operand.tmp 6), guard := none },
  { dst := some 29, op := SOp.nilck (Operand.tmp 28), guard := none },
  { dst := some 30, op := SOp.off 1 (Operand.tmp 29), guard := none },
  { dst := some 31, op := SOp.loadN 4 (Operand.tmp 30), guard := none },
  { dst := some 8, op := SOp.alloc [Value.int (IntKind.i64) 0, Value.int (IntKind.i64) 0, Value.int (IntKind.i64) 0, Value.int (IntKind.i64) 0], guard := none },
  { dst := none, op := SOp.store 4 (Operand.tmp 8) (Operand.tmp 31), guard := none }]
def c34_r9 : List SIns := [
  { dst := some 32, op := SOp.loadN 4 (Operand.tmp 8), guard := none },
  { dst := some 33, op := SOp.mks 1 4 [Value.int (IntKind.i64) 0, Value.int (IntKind.i64) 0, Value.int (IntKind.i64) 0, Value.int (IntKind.i64) 0] [(0, 4, Operand.tmp 32)], guard := none },
  { dst := some 9, op := SOp.mv (Operand.tmp 33), guard := none }]
def c34_r10 : List SIns := [
  { dst := some 35, op := SOp.mv (Operand.tmp 6), guard := none },
  { dst := some 36, op := SOp.loadN 4 (Operand.tmp 8), guard := none },
  { dst := some 37, op := SOp.call 68 [Operand.tmp 35, Operand.tmp 36], guard := none },
  { dst := some 34, op := SOp.mv (Operand.tmp 37), guard := none },
  { dst := some 38, op := SOp.ext (Operand.tmp 34) 0, guard := none },
  { dst := some 39, op := SOp.ext (Operand.tmp 34) 1, guard := none },
  { dst := some 11, op := SOp.alloc [Value.int (IntKind.i64) 0, Value.int (IntKind.i64) 0, Value.int (IntKind.i64) 0, Value.int (IntKind.i64) 0], guard := none },
  { dst := some 10, op := SOp.mv (Operand.tmp 38), guard := none },
  { dst := none, op := SOp.store 4 (Operand.tmp 11) (Operand.tmp 39), guard := none }]
def c34_r11 : List SIns := [
  { dst := some 40, op := SOp.mv (Operand.tmp 7), guard := none },
  { dst := some 41, op := SOp.mv (Operand.tmp 10), guard := none },
  { dst := some 42, op := SOp.mks 1 1 [Value.int (IntKind.i64) 0] [(0, 1, Operand.tmp 41)], guard := none },
  { dst := some 43, op := SOp.app 1 8 (Operand.tmp 40) (Operand.tmp 42), guard := none },
  { dst := some 44, op := SOp.loadN 4 (Operand.tmp 11), guard := none },
  { dst := some 7, op := SOp.mv (Operand.tmp 43), guard := none },
  { dst := none, op := SOp.store 4 (Operand.tmp 8) (Operand.tmp 44), guard := none }]
def c34_r12 : List SIns := [
  { dst := some 45, op := SOp.mv (Operand.tmp 9), guard := none },
  { dst := some 46, op := SOp.lenSl (Operand.tmp 45), guard := none },
  { dst := some 47, op := SOp.mv (Operand.const (Value.int (IntKind.i64) 0)), guard := none }]
def c34_r13 : List SIns := [
  { dst := some 48, op := SOp.ib (BinOp.lss) (Operand.tmp 47) (Operand.tmp 46), guard := none }]
def c34_r14 : List SIns := [
  { dst := some 49, op := SOp.mv (Operand.tmp 47), guard := none },
  { dst := some 50, op := SOp.idx 4 (Operand.tmp 45) (Operand.tmp 47), guard := none },
  { dst := some 51, op := SOp.loadN 4 (Operand.tmp 50), guard := none },
  { dst := some 13, op := SOp.alloc [Value.int (IntKind.i64) 0, Value.int (IntKind.i64) 0, Value.int (IntKind.i64) 0, Value.int (IntKind.i64) 0], guard := none },
  { dst := some 12, op := SOp.mv (Operand.tmp 49), guard := none },
  { dst := none, op := SOp.store 4 (Operand.tmp 13) (Operand.tmp 51), guard := none }]
def c34_r15 : List SIns := [
  { dst := some 52, op := SOp.loadN 4 (Operand.tmp 13), guard := none },
  { dst := some 53, op := SOp.loadN 4 (Operand.tmp 8), guard := none },
  { dst := some 54, op := SOp.aeq false (KTy.ar 4 (IntKind.i64)) (Operand.tmp 52) (Operand.tmp 53), guard := none }]
def c34_r16 : List SIns := [
  { dst := some 55, op := SOp.mv (Operand.tmp 7), guard := none },
  { dst := some 56, op := SOp.mv (Operand.tmp 12), guard := none },
  { dst := some 57, op := SOp.mv (Operand.tmp 12), guard := none },
  { dst := some 58, op := SOp.slc 1 (Operand.tmp 55) none (some (Operand.tmp 56)) (some (Operand.tmp 57)), guard := none },
  { dst := some 59, op := SOp.mv (Operand.tmp 7), guard := none },
  { dst := some 60, op := SOp.mv (Operand.tmp 12), guard := none },
  { dst := some 61, op := SOp.slc 1 (Operand.tmp 59) (some (Operand.tmp 60)) none none, guard := none },
  { dst := some 2, op := SOp.mv (Operand.tmp 58), guard := none },
  { dst := some 3, op := SOp.mv (Operand.tmp 61), guard := none }]
def c34_r17 : List SIns := [
  { dst := some 62, op := SOp.ib (BinOp.add) (Operand.tmp 47) (Operand.const (Value.int (IntKind.i64) 1)), guard := none },
  { dst := some 47, op := SOp.mv (Operand.tmp 62), guard := none }]
def c34_l0 : SCode := (.seq (.reg c34_r13 [6, 7, 8, 9, 45, 46, 47, 48]) (.seq (.cond (Operand.tmp 48) .skip (.exit 2)) (.seq (.block 3 (.seq (.reg c34_r14 [6, 7, 8, 9, 12, 13, 45, 46, 47]) (.seq (.reg c34_r15 [6, 7, 8, 9, 12, 45, 46, 47, 54]) (.cond (Operand.tmp 54) (.seq (.draw c34_r16 [[], [], [], [0, 1, 2], [], [], [4, 5], [3, 0, 1, 2, 3, 0, 1, 2, 0, 1, 2], [6, 7, 0, 1, 2, 3, 4, 5, 6, 7, 4, 5, 3, 0, 1, 2, 3, 0, 1, 2, 0, 1, 2, 0, 1, 2, 4, 5, 3, 0, 1, 2, 3, 0, 1, 2, 0, 1, 2]] [2, 3]) (.exit 0)) .skip)))) (.reg c34_r17 [6, 7, 8, 9, 45, 46, 47]))))
def c34_r18 : List SIns := [
  { dst := some 63, op := SOp.mv (Operand.tmp 9), guard := none },
  { dst := some 64, op := SOp.loadN 4 (Operand.tmp 8), guard := none },
  { dst := some 65, op := SOp.mks 1 4 [Value.int (IntKind.i64) 0, Value.int (IntKind.i64) 0, Value.int (IntKind.i64) 0, Value.int (IntKind.i64) 0] [(0, 4, Operand.tmp 64)], guard := none },
  { dst := some 66, op := SOp.app 4 32 (Operand.tmp 63) (Operand.tmp 65), guard := none },
  { dst := some 9, op := SOp.mv (Operand.tmp 66), guard := none }]
def c34_l1 : SCode := (.block 1 (.seq (.reg c34_r10 [6, 7, 8, 9, 10, 11]) (.seq (.draw c34_r11 [[], [], [1], [0, 2, 1], [], [3, 3, 0, 1, 2, 3, 0, 2, 1, 0, 2, 1, 1, 0, 2, 1], [4, 5, 0, 1, 2, 3, 4, 5, 3, 3, 0, 1, 2, 3, 0, 2, 1, 0, 2, 1, 1, 0, 2, 1, 1, 0, 2, 1, 3, 3, 0, 1, 2, 3, 0, 2, 1, 0, 2, 1, 1, 0, 2, 1]] [6, 7, 8, 9]) (.seq (.seq (.reg c34_r12 [6, 7, 8, 9, 45, 46, 47]) (.block 2 (.loop c34_l0))) (.reg c34_r18 [6, 7, 8, 9])))))
def c34_r19 : List SIns := [
  { dst := some 67, op := SOp.mv (Operand.tmp 2), guard := none },
  { dst := some 68, op := SOp.mv (Operand.tmp 3), guard := none },
  { dst := some 2, op := SOp.mv (Operand.tmp 67), guard := none },
  { dst := some 3, op := SOp.mv (Operand.tmp 68), guard := none },
  { dst := some 4, op := SOp.mv (Operand.const (Value.int (IntKind.i64) 0)), guard := none }]
def c34 : SCode := (.seq (.reg c34_r0 [0]) (.scope (.seq (.seq (.reg c34_r1 [0, 5]) (.seq (.reg c34_r2 [0, 5, 17]) (.cond (Operand.tmp 17) (.seq (.reg c34_r3 [2, 3, 4]) .ret) .skip))) (.seq (.reg c34_r4 [6]) (.seq (.seq (.reg c34_r5 [6, 27]) (.cond (Operand.tmp 27) (.seq (.reg c34_r6 [2, 3, 4]) .ret) .skip)) (.seq (.reg c34_r7 [6, 7]) (.seq (.reg c34_r8 [6, 7, 8]) (.seq (.reg c34_r9 [6, 7, 8, 9]) (.seq .skip (.seq (.block 0 (.loop c34_l1)) (.seq (.reg c34_r19 [2, 3, 4]) .ret)))))))))))
theorem F34 : Fn Try.prog 34 c34 [SRes.tmp 2, SRes.tmp 3, SRes.tmp 4] 69 := ⟨Try.f34, Try.f34.body.getD .skip, [[0], [0, 5], [0, 5, 17], [2, 3, 4], [6], [6, 27], [2, 3, 4], [6, 7], [6, 7, 8], [6, 7, 8, 9], [6, 7, 8, 9, 10, 11], [6, 7, 8, 9], [6, 7, 8, 9, 45, 46, 47], [6, 7, 8, 9, 45, 46, 47, 48], [6, 7, 8, 9, 12, 13, 45, 46, 47], [6, 7, 8, 9, 12, 45, 46, 47, 54], [2, 3], [6, 7, 8, 9, 45, 46, 47], [6, 7, 8, 9], [2, 3, 4]], Try.func34, by kernel_rfl, by kernel_rfl, by kernel_rfl, by kernel_rfl, by decide⟩

def c36_r0 : List SIns := [
  { dst := some 1, op := SOp.box (Operand.tmp 0), guard := none },
  { dst := some 2, op := SOp.mv (Operand.const (Value.slice none 0 0)), guard := none },
  { dst := some 3, op := SOp.mv (Operand.const (Value.int (IntKind.i64) 0)), guard := none }]
def c36_r1 : List SIns := [
  { dst := some 8, op := SOp.load1 (Operand.tmp 1), guard := none },
  { dst := some 9, op := SOp.call 23 [Operand.tmp 8], guard := none },
  { dst := some 4, op := SOp.mv (Operand.tmp 9), guard := none }]
def c36_r2 : List SIns := [
  { dst := some 10, op := SOp.mv (Operand.tmp 4), guard := none },
  { dst := some 11, op := SOp.ib (BinOp.neq) (Operand.tmp 10) (Operand.const (Value.int (IntKind.i64) 0)), guard := none }]
def c36_r3 : List SIns := [
  { dst := some 12, op := SOp.mv (Operand.tmp 4), guard := none },
  { dst := some 2, op := SOp.mv (Operand.const (Value.slice none 0 0)), guard := none },
  { dst := some 3, op := SOp.mv (Operand.tmp 12), guard := none }]
def c36_r4 : List SIns := [
  { dst := some 5, op := SOp.alloc [Value.slice none 0 0], guard := none }]
def c36_r5 : List SIns := [
  { dst := some 6, op := SOp.alloc [Value.nilFunc], guard := none }]
def c36_r6 : List SIns := [
  { dst := some 13, op := SOp.mkfn (Fn.func 70) [] [Operand.tmp 1, Operand.tmp 5, Operand.tmp 6], guard := none },
  { dst := none, op := SOp.store 1 (Operand.tmp 6) (Operand.tmp 13), guard := none }]
def c36_r7 : List SIns := [
  { dst := some 7, op := SOp.mv (Operand.const (Value.int (IntKind.i64) 1)), guard := none }]
def c36_r8 : List SIns := [
  { dst := some 14, op := SOp.load1 (Operand.tmp 6), guard := none },
  { dst := some 15, op := SOp.mv (Operand.tmp 7), guard := none },
  { dst := some 16, op := SOp.callv (Operand.tmp 14) [Operand.const (Value.slice none 0 0), Operand.tmp 15], guard := none },
  { dst := some 17, op := SOp.nt (Operand.tmp 16), guard := none }]
def c36_r9 : List SIns := [
  { dst := some 18, op := SOp.mv (Operand.tmp 7), guard := none },
  { dst := some 19, op := SOp.ib (BinOp.add) (Operand.tmp 18) (Operand.const (Value.int (IntKind.i64) 1)), guard := none },
  { dst := some 7, op := SOp.mv (Operand.tmp 19), guard := none }]
def c36_l0 : SCode := (.seq (.seq (.reg c36_r8 [5, 6, 7, 17]) (.cond (Operand.tmp 17) .skip (.exit 0))) (.seq (.block 1 .skip) (.reg c36_r9 [5, 6, 7])))
def c36_r10 : List SIns := [
  { dst := some 20, op := SOp.load1 (Operand.tmp 5), guard := none },
  { dst := some 2, op := SOp.mv (Operand.tmp 20), guard := none },
  { dst := some 3, op := SOp.mv (Operand.const (Value.int (IntKind.i64) 0)), guard := none }]
def c36 : SCode := (.seq (.reg c36_r0 [1]) (.seq (.seq (.reg c36_r1 [1, 4]) (.seq (.reg c36_r2 [1, 4, 11]) (.cond (Operand.tmp 11) (.seq (.reg c36_r3 [2, 3]) .ret) .skip))) (.seq (.reg c36_r4 [1, 5]) (.seq (.reg c36_r5 [1, 5, 6]) (.seq (.reg c36_r6 [5, 6]) (.seq (.seq (.reg c36_r7 [5, 6, 7]) (.block 0 (.loop c36_l0))) (.seq (.reg c36_r10 [2, 3]) .ret)))))))
theorem F36 : Fn Try.prog 36 c36 [SRes.tmp 2, SRes.tmp 3] 21 := ⟨Try.f36, Try.f36.body.getD .skip, [[1], [1, 4], [1, 4, 11], [2, 3], [1, 5], [1, 5, 6], [5, 6], [5, 6, 7], [5, 6, 7, 17], [5, 6, 7], [2, 3]], Try.func36, by kernel_rfl, by kernel_rfl, by kernel_rfl, by kernel_rfl, by decide⟩

def c70_r0 : List SIns := [
  { dst := some 7, op := SOp.mv (Operand.const (Value.bool false)), guard := none }]
def c70_r1 : List SIns := [
  { dst := some 14, op := SOp.mv (Operand.tmp 0), guard := none },
  { dst := some 15, op := SOp.lenSl (Operand.tmp 14), guard := none },
  { dst := some 16, op := SOp.load1 (Operand.tmp 2), guard := none },
  { dst := some 17, op := SOp.lenSl (Operand.tmp 16), guard := none },
  { dst := some 18, op := SOp.ib (BinOp.eql) (Operand.tmp 15) (Operand.tmp 17), guard := none }]
def c70_r2 : List SIns := [
  { dst := some 19, op := SOp.mv (Operand.tmp 0), guard := none },
  { dst := none, op := SOp.store 1 (Operand.tmp 3) (Operand.tmp 19), guard := none }]
def c70_r3 : List SIns := [
  { dst := some 7, op := SOp.mv (Operand.const (Value.bool true)), guard := none }]
def c70_r4 : List SIns := [
  { dst := some 8, op := SOp.mv (Operand.const (Value.int (IntKind.i64) 0)), guard := none }]
def c70_r5 : List SIns := [
  { dst := some 20, op := SOp.mv (Operand.tmp 0), guard := none },
  { dst := some 21, op := SOp.lenSl (Operand.tmp 20), guard := none },
  { dst := some 22, op := SOp.ib (BinOp.gtr) (Operand.tmp 21) (Operand.const (Value.int (IntKind.i64) 0)), guard := none }]
def c70_r6 : List SIns := [
  { dst := some 23, op := SOp.mv (Operand.tmp 0), guard := none },
  { dst := some 24, op := SOp.call 49 [Operand.tmp 23], guard := none },
  { dst := some 25, op := SOp.ib (BinOp.add) (Operand.tmp 24) (Operand.const (Value.int (IntKind.i64) 1)), guard := none },
  { dst := some 8, op := SOp.mv (Operand.tmp 25), guard := none }]
def c70_r7 : List SIns := [
  { dst := some 26, op := SOp.mv (Operand.tmp 8), guard := none },
  { dst := some 27, op := SOp.ib (BinOp.add) (Operand.tmp 26) (Operand.const (Value.int (IntKind.i64) 1)), guard := none },
  { dst := some 28, op := SOp.mv (Operand.tmp 1), guard := none },
  { dst := some 29, op := SOp.big false [Operand.tmp 27, Operand.tmp 28], guard := none },
  { dst := some 30, op := SOp.mv (Operand.const (Value.int (IntKind.i64) 0)), guard := none }]
def c70_r8 : List SIns := [
  { dst := some 31, op := SOp.ib (BinOp.lss) (Operand.tmp 30) (Operand.tmp 29), guard := none }]
def c70_r9 : List SIns := [
  { dst := some 32, op := SOp.mv (Operand.tmp 30), guard := none },
  { dst := some 9, op := SOp.mv (Operand.tmp 32), guard := none }]
def c70_r10 : List SIns := [
  { dst := some 10, op := SOp.mv (Operand.const (Value.slice none 0 0)), guard := none }]
def c70_r11 : List SIns := [
  { dst := some 33, op := SOp.mv (Operand.tmp 0), guard := none },
  { dst := some 34, op := SOp.call 48 [Operand.tmp 33], guard := none },
  { dst := some 35, op := SOp.mv (Operand.tmp 9), guard := none },
  { dst := some 36, op := SOp.mks 1 1 [Value.int (IntKind.i64) 0] [(0, 1, Operand.tmp 35)], guard := none },
  { dst := some 37, op := SOp.app 1 8 (Operand.tmp 34) (Operand.tmp 36), guard := none },
  { dst := some 38, op := SOp.lenSl (Operand.tmp 37), guard := none },
  { dst := some 39, op := SOp.mv (Operand.const (Value.int (IntKind.i64) 0)), guard := none }]
def c70_r12 : List SIns := [
  { dst := some 40, op := SOp.ib (BinOp.lss) (Operand.tmp 39) (Operand.tmp 38), guard := none }]
def c70_r13 : List SIns := [
  { dst := some 41, op := SOp.mv (Operand.tmp 39), guard := none },
  { dst := some 42, op := SOp.idx 1 (Operand.tmp 37) (Operand.tmp 39), guard := none },
  { dst := some 43, op := SOp.load1 (Operand.tmp 42), guard := none },
  { dst := some 11, op := SOp.mv (Operand.tmp 41), guard := none },
  { dst := some 12, op := SOp.mv (Operand.tmp 43), guard := none }]
def c70_r14 : List SIns := [
  { dst := some 44, op := SOp.mv (Operand.tmp 12), guard := none },
  { dst := some 45, op := SOp.mv (Operand.tmp 9), guard := none },
  { dst := some 46, op := SOp.ib (BinOp.eql) (Operand.tmp 44) (Operand.tmp 45), guard := none }]
def c70_r15 : List SIns := [
  { dst := some 47, op := SOp.mv (Operand.tmp 10), guard := none },
  { dst := some 48, op := SOp.load1 (Operand.tmp 2), guard := none },
  { dst := some 49, op := SOp.mv (Operand.tmp 11), guard := none },
  { dst := some 50, op := SOp.idx 1 (Operand.tmp 48) (Operand.tmp 49), guard := none },
  { dst := some 51, op := SOp.load1 (Operand.tmp 50), guard := none },
  { dst := some 52, op := SOp.mks 1 1 [Value.int (IntKind.i64) 0] [(0, 1, Operand.tmp 51)], guard := none },
  { dst := some 53, op := SOp.app 1 8 (Operand.tmp 47) (Operand.tmp 52), guard := none },
  { dst := some 10, op := SOp.mv (Operand.tmp 53), guard := none }]
def c70_r16 : List SIns := [
  { dst := some 54, op := SOp.ib (BinOp.add) (Operand.tmp 39) (Operand.const (Value.int (IntKind.i64) 1)), guard := none },
  { dst := some 39, op := SOp.mv (Operand.tmp 54), guard := none }]
def c70_l0 : SCode := (.seq (.reg c70_r12 [0, 1, 2, 4, 9, 10, 29, 30, 37, 38, 39, 40]) (.seq (.cond (Operand.tmp 40) .skip (.exit 2)) (.seq (.block 3 (.seq (.reg c70_r13 [0, 1, 2, 4, 9, 10, 11, 12, 29, 30, 37, 38, 39]) (.seq (.reg c70_r14 [0, 1, 2, 4, 9, 10, 11, 29, 30, 37, 38, 39, 46]) (.cond (Operand.tmp 46) (.reg c70_r15 [0, 1, 2, 4, 9, 10, 29, 30, 37, 38, 39]) .skip)))) (.reg c70_r16 [0, 1, 2, 4, 9, 10, 29, 30, 37, 38, 39]))))
def c70_r17 : List SIns := [
  { dst := some 55, op := SOp.mv (Operand.tmp 10), guard := none },
  { dst := some 56, op := SOp.call 54 [Operand.tmp 55], guard := none },
  { dst := some 13, op := SOp.mv (Operand.tmp 56), guard := none }]
def c70_r18 : List SIns := [
  { dst := some 57, op := SOp.mv (Operand.tmp 13), guard := none },
  { dst := some 58, op := SOp.mv (Operand.tmp 13), guard := none },
  { dst := some 59, op := SOp.nilck (Operand.tmp 58), guard := none },
  { dst := some 60, op := SOp.off 1 (Operand.tmp 59), guard := none },
  { dst := some 61, op := SOp.loadN 4 (Operand.tmp 60), guard := none },
  { dst := some 62, op := SOp.call 55 [Operand.tmp 57, Operand.tmp 61], guard := none },
  { dst := some 63, op := SOp.mv (Operand.tmp 62), guard := none },
  { dst := some 64, op := SOp.load1 (Operand.tmp 4), guard := some (63, true) },
  { dst := some 65, op := SOp.mv (Operand.tmp 0), guard := some (63, true) },
  { dst := some 66, op := SOp.call 48 [Operand.tmp 65], guard := some (63, true) },
  { dst := some 67, op := SOp.mv (Operand.tmp 9), guard := some (63, true) },
  { dst := some 68, op := SOp.mks 1 1 [Value.int (IntKind.i64) 0] [(0, 1, Operand.tmp 67)], guard := some (63, true) },
  { dst := some 69, op := SOp.app 1 8 (Operand.tmp 66) (Operand.tmp 68), guard := some (63, true) },
  { dst := some 70, op := SOp.mv (Operand.tmp 1), guard := some (63, true) },
  { dst := some 71, op := SOp.callv (Operand.tmp 64) [Operand.tmp 69, Operand.tmp 70], guard := some (63, true) },
  { dst := some 72, op := SOp.pick (Operand.tmp 63) (Operand.tmp 71) (Operand.const (Value.bool false)), guard := none }]
def c70_r19 : List SIns := [
  { dst := some 7, op := SOp.mv (Operand.const (Value.bool true)), guard := none }]
def c70_r20 : List SIns := [
  { dst := some 73, op := SOp.ib (BinOp.add) (Operand.tmp 30) (Operand.const (Value.int (IntKind.i64) 1)), guard := none },
  { dst := some 30, op := SOp.mv (Operand.tmp 73), guard := none }]
def c70_l1 : SCode := (.seq (.reg c70_r8 [0, 1, 2, 4, 29, 30, 31]) (.seq (.cond (Operand.tmp 31) .skip (.exit 0)) (.seq (.block 1 (.seq (.reg c70_r9 [0, 1, 2, 4, 9, 29, 30]) (.seq (.reg c70_r10 [0, 1, 2, 4, 9, 10, 29, 30]) (.seq (.seq (.reg c70_r11 [0, 1, 2, 4, 9, 10, 29, 30, 37, 38, 39]) (.block 2 (.loop c70_l0))) (.seq (.reg c70_r17 [0, 1, 2, 4, 9, 13, 29, 30]) (.seq (.draw c70_r18 [[], [], [1], [2, 1], [3, 2, 1], [0, 4, 3, 2, 1], [5, 5, 0, 4, 3, 2, 1, 0, 4, 3, 2, 1], [6, 5, 5, 0, 4, 3, 2, 1, 0, 4, 3, 2, 1], [6, 5, 5, 0, 4, 3, 2, 1, 0, 4, 3, 2, 1], [8, 6, 6, 6, 5, 5, 0, 4, 3, 2, 1, 0, 4, 3, 2, 1, 5, 5, 0, 4, 3, 2, 1, 0, 4, 3, 2, 1, 5, 5, 0, 4, 3, 2, 1, 0, 4, 3, 2, 1], [6, 5, 5, 0, 4, 3, 2, 1, 0, 4, 3, 2, 1], [10, 6, 6, 5, 5, 0, 4, 3, 2, 1, 0, 4, 3, 2, 1, 5, 5, 0, 4, 3, 2, 1, 0, 4, 3, 2, 1], [9, 11, 9, 6, 8, 6, 6, 6, 5, 5, 0, 4, 3, 2, 1, 0, 4, 3, 2, 1, 5, 5, 0, 4, 3, 2, 1, 0, 4, 3, 2, 1, 5, 5, 0, 4, 3, 2, 1, 0, 4, 3, 2, 1, 10, 6, 6, 5, 5, 0, 4, 3, 2, 1, 0, 4, 3, 2, 1, 5, 5, 0, 4, 3, 2, 1, 0, 4, 3, 2, 1, 8, 6, 6, 6, 5, 5, 0, 4, 3, 2, 1, 0, 4, 3, 2, 1, 5, 5, 0, 4, 3, 2, 1, 0, 4, 3, 2, 1, 5, 5, 0, 4, 3, 2, 1, 0, 4, 3, 2, 1, 5, 5, 0, 4, 3, 2, 1, 0, 4, 3, 2, 1], [6, 5, 5, 0, 4, 3, 2, 1, 0, 4, 3, 2, 1], [7, 12, 13, 12, 6, 6, 5, 5, 0, 4, 3, 2, 1, 0, 4, 3, 2, 1, 9, 11, 9, 6, 8, 6, 6, 6, 5, 5, 0, 4, 3, 2, 1, 0, 4, 3, 2, 1, 5, 5, 0, 4, 3, 2, 1, 0, 4, 3, 2, 1, 5, 5, 0, 4, 3, 2, 1, 0, 4, 3, 2, 1, 10, 6, 6, 5, 5, 0, 4, 3, 2, 1, 0, 4, 3, 2, 1, 5, 5, 0, 4, 3, 2, 1, 0, 4, 3, 2, 1, 8, 6, 6, 6, 5, 5, 0, 4, 3, 2, 1, 0, 4, 3, 2, 1, 5, 5, 0, 4, 3, 2, 1, 0, 4, 3, 2, 1, 5, 5, 0, 4, 3, 2, 1, 0, 4, 3, 2, 1, 5, 5, 0, 4, 3, 2, 1, 0, 4, 3, 2, 1, 6, 5, 5, 0, 4, 3, 2, 1, 0, 4, 3, 2, 1, 9, 11, 9, 6, 8, 6, 6, 6, 5, 5, 0, 4, 3, 2, 1, 0, 4, 3, 2, 1, 5, 5, 0, 4, 3, 2, 1, 0, 4, 3, 2, 1, 5, 5, 0, 4, 3, 2, 1, 0, 4, 3, 2, 1, 10, 6, 6, 5, 5, 0, 4, 3, 2, 1, 0, 4, 3, 2, 1, 5, 5, 0, 4, 3, 2, 1, 0, 4, 3, 2, 1, 8, 6, 6, 6, 5, 5, 0, 4, 3, 2, 1, 0, 4, 3, 2, 1, 5, 5, 0, 4, 3, 2, 1, 0, 4, 3, 2, 1, 5, 5, 0, 4, 3, 2, 1, 0, 4, 3, 2, 1, 5, 5, 0, 4, 3, 2, 1, 0, 4, 3, 2, 1, 5, 5, 0, 4, 3, 2, 1, 0, 4, 3, 2, 1], [6, 14, 5, 5, 0, 4, 3, 2, 1, 0, 4, 3, 2, 1, 7, 12, 13, 12, 6, 6, 5, 5, 0, 4, 3, 2, 1, 0, 4, 3, 2, 1, 9, 11, 9, 6, 8, 6, 6, 6, 5, 5, 0, 4, 3, 2, 1, 0, 4, 3, 2, 1, 5, 5, 0, 4, 3, 2, 1, 0, 4, 3, 2, 1, 5, 5, 0, 4, 3, 2, 1, 0, 4, 3, 2, 1, 10, 6, 6, 5, 5, 0, 4, 3, 2, 1, 0, 4, 3, 2, 1, 5, 5, 0, 4, 3, 2, 1, 0, 4, 3, 2, 1, 8, 6, 6, 6, 5, 5, 0, 4, 3, 2, 1, 0, 4, 3, 2, 1, 5, 5, 0, 4, 3, 2, 1, 0, 4, 3, 2, 1, 5, 5, 0, 4, 3, 2, 1, 0, 4, 3, 2, 1, 5, 5, 0, 4, 3, 2, 1, 0, 4, 3, 2, 1, 6, 5, 5, 0, 4, 3, 2, 1, 0, 4, 3, 2, 1, 9, 11, 9, 6, 8, 6, 6, 6, 5, 5, 0, 4, 3, 2, 1, 0, 4, 3, 2, 1, 5, 5, 0, 4, 3, 2, 1, 0, 4, 3, 2, 1, 5, 5, 0, 4, 3, 2, 1, 0, 4, 3, 2, 1, 10, 6, 6, 5, 5, 0, 4, 3, 2, 1, 0, 4, 3, 2, 1, 5, 5, 0, 4, 3, 2, 1, 0, 4, 3, 2, 1, 8, 6, 6, 6, 5, 5, 0, 4, 3, 2, 1, 0, 4, 3, 2, 1, 5, 5, 0, 4, 3, 2, 1, 0, 4, 3, 2, 1, 5, 5, 0, 4, 3, 2, 1, 0, 4, 3, 2, 1, 5, 5, 0, 4, 3, 2, 1, 0, 4, 3, 2, 1, 5, 5, 0, 4, 3, 2, 1, 0, 4, 3, 2, 1]] [0, 1, 2, 4, 29, 30, 72]) (.cond (Operand.tmp 72) (.seq (.reg c70_r19 [7]) .ret) .skip))))))) (.reg c70_r20 [0, 1, 2, 4, 29, 30]))))
def c70_r21 : List SIns := [
  { dst := some 7, op := SOp.mv (Operand.const (Value.bool false)), guard := none }]
def c70 : SCode := (.seq (.reg c70_r0 [0, 1, 2, 3, 4]) (.seq (.seq (.reg c70_r1 [0, 1, 2, 3, 4, 18]) (.cond (Operand.tmp 18) (.seq (.reg c70_r2 []) (.seq (.reg c70_r3 [7]) .ret)) .skip)) (.seq (.reg c70_r4 [0, 1, 2, 4, 8]) (.seq (.seq (.reg c70_r5 [0, 1, 2, 4, 8, 22]) (.cond (Operand.tmp 22) (.reg c70_r6 [0, 1, 2, 4, 8]) .skip)) (.seq (.seq (.reg c70_r7 [0, 1, 2, 4, 29, 30]) (.block 0 (.loop c70_l1))) (.seq (.reg c70_r21 [7]) .ret))))))
theorem F70 : Fn Try.prog 70 c70 [SRes.tmp 7] 74 := ⟨Try.f70, Try.f70.body.getD .skip, [[0, 1, 2, 3, 4], [0, 1, 2, 3, 4, 18], [], [7], [0, 1, 2, 4, 8], [0, 1, 2, 4, 8, 22], [0, 1, 2, 4, 8], [0, 1, 2, 4, 29, 30], [0, 1, 2, 4, 29, 30, 31], [0, 1, 2, 4, 9, 29, 30], [0, 1, 2, 4, 9, 10, 29, 30], [0, 1, 2, 4, 9, 10, 29, 30, 37, 38, 39], [0, 1, 2, 4, 9, 10, 29, 30, 37, 38, 39, 40], [0, 1, 2, 4, 9, 10, 11, 12, 29, 30, 37, 38, 39], [0, 1, 2, 4, 9, 10, 11, 29, 30, 37, 38, 39, 46], [0, 1, 2, 4, 9, 10, 29, 30, 37, 38, 39], [0, 1, 2, 4, 9, 10, 29, 30, 37, 38, 39], [0, 1, 2, 4, 9, 13, 29, 30], [0, 1, 2, 4, 29, 30, 72], [7], [0, 1, 2, 4, 29, 30], [7]], Try.func70, by kernel_rfl, by kernel_rfl, by kernel_rfl, by kernel_rfl, by decide⟩

def c48_r0 : List SIns := [
  { dst := some 2, op := SOp.mv (Operand.const (Value.slice none 0 0)), guard := none }]
def c48_r1 : List SIns := [
  { dst := some 3, op := SOp.mv (Operand.tmp 0), guard := none },
  { dst := some 4, op := SOp.mv (Operand.tmp 0), guard := none },
  { dst := some 5, op := SOp.lenSl (Operand.tmp 4), guard := none },
  { dst := some 6, op := SOp.mv (Operand.tmp 0), guard := none },
  { dst := some 7, op := SOp.lenSl (Operand.tmp 6), guard := none },
  { dst := some 8, op := SOp.slc 1 (Operand.tmp 3) none (some (Operand.tmp 5)) (some (Operand.tmp 7)), guard := none },
  { dst := some 2, op := SOp.mv (Operand.tmp 8), guard := none }]
def c48 : SCode := (.seq (.reg c48_r0 [0]) (.seq (.reg c48_r1 [2]) .ret))
theorem F48 : Fn Try.prog 48 c48 [SRes.tmp 2] 9 := ⟨Try.f48, Try.f48.body.getD .skip, [[0], [2]], Try.func48, by kernel_rfl, by kernel_rfl, by kernel_rfl, by kernel_rfl, by decide⟩

def c49_r0 : List SIns := [
  { dst := some 2, op := SOp.mv (Operand.const (Value.int (IntKind.i64) 0)), guard := none }]
def c49_r1 : List SIns := [
  { dst := some 5, op := SOp.mv (Operand.tmp 0), guard := none },
  { dst := some 6, op := SOp.lenSl (Operand.tmp 5), guard := none },
  { dst := some 7, op := SOp.ib (BinOp.lss) (Operand.tmp 6) (Operand.const (Value.int (IntKind.i64) 1)), guard := none }]
def c49_r2 : List SIns := [
  { dst := some 8, op := SOp.mkifc 9 (Operand.const (Value.string (⟨#[115, 108, 105, 99, 101, 115, 46, 77, 97, 120, 58, 32, 101, 109, 112, 116, 121, 32, 108, 105, 115, 116]⟩ : ByteArray))), guard := none },
  { dst := none, op := SOp.fail, guard := none }]
def c49_r3 : List SIns := [
  { dst := some 9, op := SOp.mv (Operand.tmp 0), guard := none },
  { dst := some 10, op := SOp.idx 1 (Operand.tmp 9) (Operand.const (Value.int (IntKind.i64) 0)), guard := none },
  { dst := some 11, op := SOp.load1 (Operand.tmp 10), guard := none },
  { dst := some 3, op := SOp.mv (Operand.tmp 11), guard := none }]
def c49_r4 : List SIns := [
  { dst := some 4, op := SOp.mv (Operand.const (Value.int (IntKind.i64) 1)), guard := none }]
def c49_r5 : List SIns := [
  { dst := some 12, op := SOp.mv (Operand.tmp 4), guard := none },
  { dst := some 13, op := SOp.mv (Operand.tmp 0), guard := none },
  { dst := some 14, op := SOp.lenSl (Operand.tmp 13), guard := none },
  { dst := some 15, op := SOp.ib (BinOp.lss) (Operand.tmp 12) (Operand.tmp 14), guard := none }]
def c49_r6 : List SIns := [
  { dst := some 18, op := SOp.mv (Operand.tmp 3), guard := none },
  { dst := some 19, op := SOp.mv (Operand.tmp 0), guard := none },
  { dst := some 20, op := SOp.mv (Operand.tmp 4), guard := none },
  { dst := some 21, op := SOp.idx 1 (Operand.tmp 19) (Operand.tmp 20), guard := none },
  { dst := some 22, op := SOp.load1 (Operand.tmp 21), guard := none },
  { dst := some 23, op := SOp.big true [Operand.tmp 18, Operand.tmp 22], guard := none },
  { dst := some 3, op := SOp.mv (Operand.tmp 23), guard := none }]
def c49_r7 : List SIns := [
  { dst := some 16, op := SOp.mv (Operand.tmp 4), guard := none },
  { dst := some 17, op := SOp.ib (BinOp.add) (Operand.tmp 16) (Operand.const (Value.int (IntKind.i64) 1)), guard := none },
  { dst := some 4, op := SOp.mv (Operand.tmp 17), guard := none }]
def c49_l0 : SCode := (.seq (.seq (.reg c49_r5 [0, 3, 4, 15]) (.cond (Operand.tmp 15) .skip (.exit 0))) (.seq (.block 1 (.reg c49_r6 [0, 3, 4])) (.reg c49_r7 [0, 3, 4])))
def c49_r8 : List SIns := [
  { dst := some 24, op := SOp.mv (Operand.tmp 3), guard := none },
  { dst := some 2, op := SOp.mv (Operand.tmp 24), guard := none }]
def c49 : SCode := (.seq (.reg c49_r0 [0]) (.seq (.seq (.reg c49_r1 [0, 7]) (.cond (Operand.tmp 7) (.reg c49_r2 [0]) .skip)) (.seq (.reg c49_r3 [0, 3]) (.seq (.seq (.reg c49_r4 [0, 3, 4]) (.block 0 (.loop c49_l0))) (.seq (.reg c49_r8 [2]) .ret)))))
theorem F49 : Fn Try.prog 49 c49 [SRes.tmp 2] 25 := ⟨Try.f49, Try.f49.body.getD .skip, [[0], [0, 7], [0], [0, 3], [0, 3, 4], [0, 3, 4, 15], [0, 3, 4], [0, 3, 4], [2]], Try.func49, by kernel_rfl, by kernel_rfl, by kernel_rfl, by kernel_rfl, by decide⟩

def c30_r0 : List SIns := [
  { dst := some 2, op := SOp.box (Operand.tmp 0), guard := none },
  { dst := some 4, op := SOp.mv (Operand.const (Value.int (IntKind.i64) 0)), guard := none }]
def c30_r1 : List SIns := [
  { dst := some 11, op := SOp.load1 (Operand.tmp 2), guard := none },
  { dst := some 12, op := SOp.call 23 [Operand.tmp 11], guard := none },
  { dst := some 5, op := SOp.mv (Operand.tmp 12), guard := none }]
def c30_r2 : List SIns := [
  { dst := some 14, op := SOp.mv (Operand.tmp 5), guard := none },
  { dst := some 15, op := SOp.ib (BinOp.neq) (Operand.tmp 14) (Operand.const (Value.int (IntKind.i64) 0)), guard := none },
  { dst := some 13, op := SOp.mv (Operand.tmp 15), guard := none }]
def c30_r3 : List SIns := [
  { dst := some 16, op := SOp.mv (Operand.tmp 5), guard := none },
  { dst := some 4, op := SOp.mv (Operand.tmp 16), guard := none }]
def c30_r4 : List SIns := [
  { dst := some 18, op := SOp.mv (Operand.tmp 1), guard := none },
  { dst := some 19, op := SOp.lenSl (Operand.tmp 18), guard := none },
  { dst := some 20, op := SOp.ib (BinOp.eql) (Operand.tmp 19) (Operand.const (Value.int (IntKind.i64) 0)), guard := none },
  { dst := some 17, op := SOp.mv (Operand.tmp 20), guard := none }]
def c30_r5 : List SIns := [
  { dst := some 4, op := SOp.mv (Operand.const (Value.int (IntKind.i64) 4)), guard := none }]
def c30_r6 : List SIns := [
  { dst := some 22, op := SOp.mv (Operand.tmp 1), guard := none },
  { dst := some 23, op := SOp.lenSl (Operand.tmp 22), guard := none },
  { dst := some 24, op := SOp.ib (BinOp.gtr) (Operand.tmp 23) (Operand.const (Value.int (IntKind.i64) 60)), guard := none },
  { dst := some 21, op := SOp.mv (Operand.tmp 24), guard := none }]
def c30_r7 : List SIns := [
  { dst := some 4, op := SOp.mv (Operand.const (Value.int (IntKind.i64) 19)), guard := none }]
def c30_r8 : List SIns := [
  { dst := some 26, op := SOp.mv (Operand.tmp 1), guard := none },
  { dst := some 27, op := SOp.mkfn (Fn.func 66) [] [Operand.tmp 2], guard := none },
  { dst := some 28, op := SOp.call 58 [Operand.tmp 26, Operand.tmp 27], guard := none },
  { dst := some 25, op := SOp.mv (Operand.tmp 28), guard := none }]
def c30_r9 : List SIns := [
  { dst := some 4, op := SOp.mv (Operand.const (Value.int (IntKind.i64) 2)), guard := none }]
def c30_r10 : List SIns := [
  { dst := some 29, op := SOp.load1 (Operand.tmp 2), guard := none },
  { dst := some 30, op := SOp.lenSl (Operand.tmp 29), guard := none },
  { dst := some 31, op := SOp.mv (Operand.const (Value.int (IntKind.i64) 0)), guard := none }]
def c30_r11 : List SIns := [
  { dst := some 32, op := SOp.ib (BinOp.lss) (Operand.tmp 31) (Operand.tmp 30), guard := none }]
def c30_r12 : List SIns := [
  { dst := some 33, op := SOp.mv (Operand.tmp 31), guard := none },
  { dst := some 34, op := SOp.idx 1 (Operand.tmp 29) (Operand.tmp 31), guard := none },
  { dst := some 35, op := SOp.load1 (Operand.tmp 34), guard := none },
  { dst := some 6, op := SOp.mv (Operand.tmp 33), guard := none },
  { dst := some 7, op := SOp.mv (Operand.tmp 35), guard := none }]
def c30_r13 : List SIns := [
  { dst := some 36, op := SOp.mv (Operand.tmp 1), guard := none },
  { dst := some 37, op := SOp.mv (Operand.tmp 6), guard := none },
  { dst := some 38, op := SOp.call 67 [Operand.tmp 36, Operand.tmp 37], guard := none },
  { dst := some 8, op := SOp.mv (Operand.tmp 38), guard := none }]
def c30_r14 : List SIns := [
  { dst := some 39, op := SOp.mv (Operand.tmp 8), guard := none },
  { dst := some 40, op := SOp.ib (BinOp.lss) (Operand.tmp 39) (Operand.const (Value.int (IntKind.i64) 0)), guard := none }]
def c30_r15 : List SIns := [
  { dst := some 4, op := SOp.mv (Operand.const (Value.int (IntKind.i64) 14)), guard := none }]
def c30_r16 : List SIns := [
  { dst := some 41, op := SOp.mv (Operand.tmp 8), guard := none },
  { dst := some 9, op := SOp.mv (Operand.tmp 41), guard := none }]
def c30_r17 : List SIns := [
  { dst := some 42, op := SOp.mv (Operand.tmp 8), guard := none },
  { dst := some 43, op := SOp.ib (BinOp.add) (Operand.tmp 42) (Operand.const (Value.int (IntKind.i64) 1)), guard := none },
  { dst := some 10, op := SOp.mv (Operand.tmp 43), guard := none }]
def c30_r18 : List SIns := [
  { dst := some 44, op := SOp.mv (Operand.tmp 10), guard := none },
  { dst := some 45, op := SOp.mv (Operand.tmp 8), guard := none },
  { dst := some 46, op := SOp.mv (Operand.tmp 1), guard := none },
  { dst := some 47, op := SOp.lenSl (Operand.tmp 46), guard := none },
  { dst := some 48, op := SOp.ib (BinOp.add) (Operand.tmp 45) (Operand.tmp 47), guard := none },
  { dst := some 49, op := SOp.ib (BinOp.leq) (Operand.tmp 44) (Operand.tmp 48), guard := none }]
def c30_r19 : List SIns := [
  { dst := some 52, op := SOp.mv (Operand.tmp 1), guard := none },
  { dst := some 53, op := SOp.mv (Operand.tmp 10), guard := none },
  { dst := some 54, op := SOp.mv (Operand.tmp 1), guard := none },
  { dst := some 55, op := SOp.lenSl (Operand.tmp 54), guard := none },
  { dst := some 56, op := SOp.ib (BinOp.rem) (Operand.tmp 53) (Operand.tmp 55), guard := none },
  { dst := some 57, op := SOp.idx 1 (Operand.tmp 52) (Operand.tmp 56), guard := none },
  { dst := some 58, op := SOp.load1 (Operand.tmp 57), guard := none },
  { dst := some 59, op := SOp.mv (Operand.tmp 6), guard := none },
  { dst := some 60, op := SOp.ib (BinOp.eql) (Operand.tmp 58) (Operand.tmp 59), guard := none }]
def c30_r20 : List SIns := [
  { dst := some 61, op := SOp.mv (Operand.tmp 10), guard := none },
  { dst := some 62, op := SOp.mv (Operand.tmp 9), guard := none },
  { dst := some 63, op := SOp.ib (BinOp.sub) (Operand.tmp 61) (Operand.tmp 62), guard := none },
  { dst := some 64, op := SOp.mv (Operand.tmp 7), guard := none },
  { dst := some 65, op := SOp.ib (BinOp.gtr) (Operand.tmp 63) (Operand.tmp 64), guard := none }]
def c30_r21 : List SIns := [
  { dst := some 4, op := SOp.mv (Operand.const (Value.int (IntKind.i64) 14)), guard := none }]
def c30_r22 : List SIns := [
  { dst := some 66, op := SOp.mv (Operand.tmp 10), guard := none },
  { dst := some 9, op := SOp.mv (Operand.tmp 66), guard := none }]
def c30_r23 : List SIns := [
  { dst := some 50, op := SOp.mv (Operand.tmp 10), guard := none },
  { dst := some 51, op := SOp.ib (BinOp.add) (Operand.tmp 50) (Operand.const (Value.int (IntKind.i64) 1)), guard := none },
  { dst := some 10, op := SOp.mv (Operand.tmp 51), guard := none }]
def c30_l0 : SCode := (.seq (.seq (.reg c30_r18 [1, 6, 7, 8, 9, 10, 29, 30, 31, 49]) (.cond (Operand.tmp 49) .skip (.exit 3))) (.seq (.block 4 (.seq (.reg c30_r19 [1, 6, 7, 8, 9, 10, 29, 30, 31, 60]) (.cond (Operand.tmp 60) (.seq (.seq (.reg c30_r20 [1, 6, 7, 8, 10, 29, 30, 31, 65]) (.cond (Operand.tmp 65) (.seq (.reg c30_r21 [4]) .ret) .skip)) (.reg c30_r22 [1, 6, 7, 8, 9, 10, 29, 30, 31])) .skip))) (.reg c30_r23 [1, 6, 7, 8, 9, 10, 29, 30, 31])))
def c30_r24 : List SIns := [
  { dst := some 67, op := SOp.ib (BinOp.add) (Operand.tmp 31) (Operand.const (Value.int (IntKind.i64) 1)), guard := none },
  { dst := some 31, op := SOp.mv (Operand.tmp 67), guard := none }]
def c30_l1 : SCode := (.seq (.reg c30_r11 [1, 29, 30, 31, 32]) (.seq (.cond (Operand.tmp 32) .skip (.exit 1)) (.seq (.block 2 (.seq (.reg c30_r12 [1, 6, 7, 29, 30, 31]) (.seq (.reg c30_r13 [1, 6, 7, 8, 29, 30, 31]) (.seq (.seq (.reg c30_r14 [1, 6, 7, 8, 29, 30, 31, 40]) (.cond (Operand.tmp 40) (.seq (.reg c30_r15 [4]) .ret) .skip)) (.seq (.reg c30_r16 [1, 6, 7, 8, 9, 29, 30, 31]) (.seq (.reg c30_r17 [1, 6, 7, 8, 9, 10, 29, 30, 31]) (.block 3 (.loop c30_l0)))))))) (.reg c30_r24 [1, 29, 30, 31]))))
def c30_r25 : List SIns := [
  { dst := some 4, op := SOp.mv (Operand.const (Value.int (IntKind.i64) 0)), guard := none }]
def c30 : SCode := (.seq (.reg c30_r0 [1, 2]) (.seq (.reg c30_r1 [1, 2, 5]) (.seq (.block 0 (.seq (.reg c30_r2 [1, 2, 5, 13]) (.cond (Operand.tmp 13) (.seq (.reg c30_r3 [4]) .ret) (.seq (.reg c30_r4 [1, 2, 17]) (.cond (Operand.tmp 17) (.seq (.reg c30_r5 [4]) .ret) (.seq (.reg c30_r6 [1, 2, 21]) (.cond (Operand.tmp 21) (.seq (.reg c30_r7 [4]) .ret) (.seq (.reg c30_r8 [1, 2, 25]) (.cond (Operand.tmp 25) (.seq (.reg c30_r9 [4]) .ret) .skip))))))))) (.seq (.seq (.reg c30_r10 [1, 29, 30, 31]) (.block 1 (.loop c30_l1))) (.seq (.reg c30_r25 [4]) .ret)))))
theorem F30 : Fn Try.prog 30 c30 [SRes.tmp 4] 68 := ⟨Try.f30, Try.f30.body.getD .skip, [[1, 2], [1, 2, 5], [1, 2, 5, 13], [4], [1, 2, 17], [4], [1, 2, 21], [4], [1, 2, 25], [4], [1, 29, 30, 31], [1, 29, 30, 31, 32], [1, 6, 7, 29, 30, 31], [1, 6, 7, 8, 29, 30, 31], [1, 6, 7, 8, 29, 30, 31, 40], [4], [1, 6, 7, 8, 9, 29, 30, 31], [1, 6, 7, 8, 9, 10, 29, 30, 31], [1, 6, 7, 8, 9, 10, 29, 30, 31, 49], [1, 6, 7, 8, 9, 10, 29, 30, 31, 60], [1, 6, 7, 8, 10, 29, 30, 31, 65], [4], [1, 6, 7, 8, 9, 10, 29, 30, 31], [1, 6, 7, 8, 9, 10, 29, 30, 31], [1, 29, 30, 31], [4]], Try.func30, by kernel_rfl, by kernel_rfl, by kernel_rfl, by kernel_rfl, by decide⟩

def c66_r0 : List SIns := [
  { dst := some 3, op := SOp.mv (Operand.const (Value.bool false)), guard := none }]
def c66_r1 : List SIns := [
  { dst := some 4, op := SOp.mv (Operand.tmp 0), guard := none },
  { dst := some 5, op := SOp.load1 (Operand.tmp 1), guard := none },
  { dst := some 6, op := SOp.lenSl (Operand.tmp 5), guard := none },
  { dst := some 7, op := SOp.ib (BinOp.sub) (Operand.tmp 6) (Operand.const (Value.int (IntKind.i64) 1)), guard := none },
  { dst := some 8, op := SOp.call 60 [Operand.const (Value.int (IntKind.i64) 0), Operand.tmp 4, Operand.tmp 7], guard := none },
  { dst := some 9, op := SOp.nt (Operand.tmp 8), guard := none },
  { dst := some 3, op := SOp.mv (Operand.tmp 9), guard := none }]
def c66 : SCode := (.seq (.reg c66_r0 [0, 1]) (.seq (.reg c66_r1 [3]) .ret))
theorem F66 : Fn Try.prog 66 c66 [SRes.tmp 3] 10 := ⟨Try.f66, Try.f66.body.getD .skip, [[0, 1], [3]], Try.func66, by kernel_rfl, by kernel_rfl, by kernel_rfl, by kernel_rfl, by decide⟩

def c67_r0 : List SIns := [
  { dst := some 4, op := SOp.mv (Operand.const (Value.int (IntKind.i64) 0)), guard := none }]
def c67_r1 : List SIns := [
  { dst := some 6, op := SOp.mv (Operand.tmp 0), guard := none },
  { dst := some 7, op := SOp.lenSl (Operand.tmp 6), guard := none },
  { dst := some 8, op := SOp.mv (Operand.const (Value.int (IntKind.i64) 0)), guard := none }]
def c67_r2 : List SIns := [
  { dst := some 9, op := SOp.ib (BinOp.lss) (Operand.tmp 8) (Operand.tmp 7), guard := none }]
def c67_r3 : List SIns := [
  { dst := some 10, op := SOp.mv (Operand.tmp 8), guard := none },
  { dst := some 5, op := SOp.mv (Operand.tmp 10), guard := none }]
def c67_r4 : List SIns := [
  { dst := some 11, op := SOp.mv (Operand.tmp 1), guard := none },
  { dst := some 12, op := SOp.mv (Operand.tmp 0), guard := none },
  { dst := some 13, op := SOp.mv (Operand.tmp 5), guard := none },
  { dst := some 14, op := SOp.idx 1 (Operand.tmp 12) (Operand.tmp 13), guard := none },
  { dst := some 15, op := SOp.load1 (Operand.tmp 14), guard := none },
  { dst := some 16, op := SOp.ib (BinOp.eql) (Operand.tmp 11) (Operand.tmp 15), guard := none }]
def c67_r5 : List SIns := [
  { dst := some 17, op := SOp.mv (Operand.tmp 5), guard := none },
  { dst := some 4, op := SOp.mv (Operand.tmp 17), guard := none }]
def c67_r6 : List SIns := [
  { dst := some 18, op := SOp.ib (BinOp.add) (Operand.tmp 8) (Operand.const (Value.int (IntKind.i64) 1)), guard := none },
  { dst := some 8, op := SOp.mv (Operand.tmp 18), guard := none }]
def c67_l0 : SCode := (.seq (.reg c67_r2 [0, 1, 7, 8, 9]) (.seq (.cond (Operand.tmp 9) .skip (.exit 0)) (.seq (.block 1 (.seq (.reg c67_r3 [0, 1, 5, 7, 8]) (.seq (.reg c67_r4 [0, 1, 5, 7, 8, 16]) (.cond (Operand.tmp 16) (.seq (.reg c67_r5 [4]) .ret) .skip)))) (.reg c67_r6 [0, 1, 7, 8]))))
def c67_r7 : List SIns := [
  { dst := some 4, op := SOp.mv (Operand.const (Value.int (IntKind.i64) (-1))), guard := none }]
def c67 : SCode := (.seq (.reg c67_r0 [0, 1]) (.seq (.seq (.reg c67_r1 [0, 1, 7, 8]) (.block 0 (.loop c67_l0))) (.seq (.reg c67_r7 [4]) .ret)))
theorem F67 : Fn Try.prog 67 c67 [SRes.tmp 4] 19 := ⟨Try.f67, Try.f67.body.getD .skip, [[0, 1], [0, 1, 7, 8], [0, 1, 7, 8, 9], [0, 1, 5, 7, 8], [0, 1, 5, 7, 8, 16], [4], [0, 1, 7, 8], [4]], Try.func67, by kernel_rfl, by kernel_rfl, by kernel_rfl, by kernel_rfl, by decide⟩

def c39_r0 : List SIns := [
  { dst := some 0, op := SOp.mv (Operand.const (Value.slice none 0 0)), guard := none }]
def c39_r1 : List SIns := [
  { dst := some 1, op := SOp.mks 3 1 [Value.int (IntKind.i64) 0, Value.int (IntKind.i64) 0, Value.int (IntKind.i64) 0] [(0, 1, Operand.const (Value.int (IntKind.i64) 2)), (1, 1, Operand.const (Value.int (IntKind.i64) 3)), (2, 1, Operand.const (Value.int (IntKind.i64) 6))], guard := none },
  { dst := some 2, op := SOp.call 40 [Operand.tmp 1], guard := none },
  { dst := some 0, op := SOp.mv (Operand.tmp 2), guard := none }]
def c39 : SCode := (.seq (.reg c39_r0 []) (.seq (.reg c39_r1 [0]) .ret))
theorem F39 : Fn Try.prog 39 c39 [SRes.tmp 0] 3 := ⟨Try.f39, Try.f39.body.getD .skip, [[], [0]], Try.func39, by kernel_rfl, by kernel_rfl, by kernel_rfl, by kernel_rfl, by decide⟩

def c40_r0 : List SIns := [
  { dst := some 2, op := SOp.mv (Operand.const (Value.slice none 0 0)), guard := none }]
def c40_r1 : List SIns := [
  { dst := some 3, op := SOp.mv (Operand.tmp 0), guard := none },
  { dst := some 2, op := SOp.mv (Operand.tmp 3), guard := none }]
def c40 : SCode := (.seq (.reg c40_r0 [0]) (.seq (.reg c40_r1 [2]) .ret))
theorem F40 : Fn Try.prog 40 c40 [SRes.tmp 2] 4 := ⟨Try.f40, Try.f40.body.getD .skip, [[0], [2]], Try.func40, by kernel_rfl, by kernel_rfl, by kernel_rfl, by kernel_rfl, by decide⟩

def c41_r0 : List SIns := [
  { dst := some 0, op := SOp.mv (Operand.const (Value.slice none 0 0)), guard := none }]
def c41_r1 : List SIns := [
  { dst := some 1, op := SOp.mks 2 1 [Value.int (IntKind.i64) 0, Value.int (IntKind.i64) 0] [(0, 1, Operand.const (Value.int (IntKind.i64) 2)), (1, 1, Operand.const (Value.int (IntKind.i64) 3))], guard := none },
  { dst := some 2, op := SOp.call 40 [Operand.tmp 1], guard := none },
  { dst := some 0, op := SOp.mv (Operand.tmp 2), guard := none }]
def c41 : SCode := (.seq (.reg c41_r0 []) (.seq (.reg c41_r1 [0]) .ret))
theorem F41 : Fn Try.prog 41 c41 [SRes.tmp 0] 3 := ⟨Try.f41, Try.f41.body.getD .skip, [[], [0]], Try.func41, by kernel_rfl, by kernel_rfl, by kernel_rfl, by kernel_rfl, by decide⟩

def c16_r0 : List SIns := [
  { dst := some 0, op := SOp.mv (Operand.const (Value.bool false)), guard := none }]
def c16_r1 : List SIns := [
  { dst := some 19, op := SOp.call 41 [], guard := none },
  { dst := some 20, op := SOp.call 17 [Operand.tmp 19], guard := none },
  { dst := some 18, op := SOp.mv (Operand.tmp 20), guard := none },
  { dst := some 21, op := SOp.ext (Operand.tmp 18) 0, guard := none },
  { dst := some 22, op := SOp.ext (Operand.tmp 18) 1, guard := none },
  { dst := some 23, op := SOp.ext (Operand.tmp 18) 2, guard := none },
  { dst := some 1, op := SOp.mv (Operand.tmp 21), guard := none },
  { dst := some 2, op := SOp.mv (Operand.tmp 22), guard := none },
  { dst := some 3, op := SOp.mv (Operand.tmp 23), guard := none }]
def c16_r2 : List SIns := [
  { dst := some 25, op := SOp.call 41 [], guard := none },
  { dst := some 26, op := SOp.call 19 [Operand.tmp 25], guard := none },
  { dst := some 24, op := SOp.mv (Operand.tmp 26), guard := none },
  { dst := some 27, op := SOp.ext (Operand.tmp 24) 0, guard := none },
  { dst := some 28, op := SOp.ext (Operand.tmp 24) 1, guard := none },
  { dst := some 4, op := SOp.mv (Operand.tmp 27), guard := none },
  { dst := some 5, op := SOp.mv (Operand.tmp 28), guard := none }]
def c16_r3 : List SIns := [
  { dst := some 30, op := SOp.call 39 [], guard := none },
  { dst := some 31, op := SOp.call 19 [Operand.tmp 30], guard := none },
  { dst := some 29, op := SOp.mv (Operand.tmp 31), guard := none },
  { dst := some 32, op := SOp.ext (Operand.tmp 29) 0, guard := none },
  { dst := some 33, op := SOp.ext (Operand.tmp 29) 1, guard := none },
  { dst := some 6, op := SOp.mv (Operand.tmp 32), guard := none },
  { dst := some 7, op := SOp.mv (Operand.tmp 33), guard := none }]
def c16_r4 : List SIns := [
  { dst := some 35, op := SOp.call 39 [], guard := none },
  { dst := some 36, op := SOp.call 21 [Operand.tmp 35], guard := none },
  { dst := some 34, op := SOp.mv (Operand.tmp 36), guard := none },
  { dst := some 37, op := SOp.ext (Operand.tmp 34) 0, guard := none },
  { dst := some 38, op := SOp.ext (Operand.tmp 34) 1, guard := none },
  { dst := some 8, op := SOp.mv (Operand.tmp 37), guard := none },
  { dst := some 9, op := SOp.mv (Operand.tmp 38), guard := none }]
def c16_r5 : List SIns := [
  { dst := some 40, op := SOp.call 41 [], guard := none },
  { dst := some 41, op := SOp.mks 2 1 [Value.int (IntKind.i64) 0, Value.int (IntKind.i64) 0] [(0, 1, Operand.const (Value.int (IntKind.i64) 0)), (1, 1, Operand.const (Value.int (IntKind.i64) 0))], guard := none },
  { dst := some 42, op := SOp.call 40 [Operand.tmp 41], guard := none },
  { dst := some 43, op := SOp.call 25 [Operand.tmp 40, Operand.tmp 42], guard := none },
  { dst := some 39, op := SOp.mv (Operand.tmp 43), guard := none },
  { dst := some 44, op := SOp.ext (Operand.tmp 39) 0, guard := none },
  { dst := some 45, op := SOp.ext (Operand.tmp 39) 1, guard := none },
  { dst := some 10, op := SOp.mv (Operand.tmp 44), guard := none },
  { dst := some 11, op := SOp.mv (Operand.tmp 45), guard := none }]
def c16_r6 : List SIns := [
  { dst := some 47, op := SOp.call 41 [], guard := none },
  { dst := some 48, op := SOp.mks 2 1 [Value.int (IntKind.i64) 0, Value.int (IntKind.i64) 0] [(0, 1, Operand.const (Value.int (IntKind.i64) 0)), (1, 1, Operand.const (Value.int (IntKind.i64) 0))], guard := none },
  { dst := some 49, op := SOp.call 40 [Operand.tmp 48], guard := none },
  { dst := some 50, op := SOp.call 27 [Operand.tmp 47, Operand.tmp 49], guard := none },
  { dst := some 46, op := SOp.mv (Operand.tmp 50), guard := none },
  { dst := some 51, op := SOp.ext (Operand.tmp 46) 0, guard := none },
  { dst := some 52, op := SOp.ext (Operand.tmp 46) 1, guard := none },
  { dst := some 12, op := SOp.mv (Operand.tmp 51), guard := none },
  { dst := some 13, op := SOp.mv (Operand.tmp 52), guard := none }]
def c16_r7 : List SIns := [
  { dst := some 53, op := SOp.mv (Operand.tmp 3), guard := none },
  { dst := some 54, op := SOp.ib (BinOp.neq) (Operand.tmp 53) (Operand.const (Value.int (IntKind.i64) 0)), guard := none },
  { dst := some 55, op := SOp.mv (Operand.tmp 54), guard := none },
  { dst := some 56, op := SOp.mv (Operand.tmp 5), guard := some (55, false) },
  { dst := some 57, op := SOp.ib (BinOp.neq) (Operand.tmp 56) (Operand.const (Value.int (IntKind.i64) 0)), guard := some (55, false) },
  { dst := some 58, op := SOp.pick (Operand.tmp 55) (Operand.const (Value.bool true)) (Operand.tmp 57), guard := none },
  { dst := some 59, op := SOp.mv (Operand.tmp 58), guard := none },
  { dst := some 60, op := SOp.mv (Operand.tmp 7), guard := some (59, false) },
  { dst := some 61, op := SOp.ib (BinOp.neq) (Operand.tmp 60) (Operand.const (Value.int (IntKind.i64) 0)), guard := some (59, false) },
  { dst := some 62, op := SOp.pick (Operand.tmp 59) (Operand.const (Value.bool true)) (Operand.tmp 61), guard := none },
  { dst := some 63, op := SOp.mv (Operand.tmp 62), guard := none },
  { dst := some 64, op := SOp.mv (Operand.tmp 9), guard := some (63, false) },
  { dst := some 65, op := SOp.ib (BinOp.neq) (Operand.tmp 64) (Operand.const (Value.int (IntKind.i64) 0)), guard := some (63, false) },
  { dst := some 66, op := SOp.pick (Operand.tmp 63) (Operand.const (Value.bool true)) (Operand.tmp 65), guard := none },
  { dst := some 67, op := SOp.mv (Operand.tmp 66), guard := none },
  { dst := some 68, op := SOp.mv (Operand.tmp 11), guard := some (67, false) },
  { dst := some 69, op := SOp.ib (BinOp.neq) (Operand.tmp 68) (Operand.const (Value.int (IntKind.i64) 0)), guard := some (67, false) },
  { dst := some 70, op := SOp.pick (Operand.tmp 67) (Operand.const (Value.bool true)) (Operand.tmp 69), guard := none },
  { dst := some 71, op := SOp.mv (Operand.tmp 70), guard := none },
  { dst := some 72, op := SOp.mv (Operand.tmp 13), guard := some (71, false) },
  { dst := some 73, op := SOp.ib (BinOp.neq) (Operand.tmp 72) (Operand.const (Value.int (IntKind.i64) 0)), guard := some (71, false) },
  { dst := some 74, op := SOp.pick (Operand.tmp 71) (Operand.const (Value.bool true)) (Operand.tmp 73), guard := none }]
def c16_r8 : List SIns := [
  { dst := some 0, op := SOp.mv (Operand.const (Value.bool false)), guard := none }]
def c16_r9 : List SIns := [
  { dst := some 76, op := SOp.call 41 [], guard := none },
  { dst := some 77, op := SOp.call 32 [Operand.tmp 76, Operand.const (Value.int (IntKind.i64) 6)], guard := none },
  { dst := some 75, op := SOp.mv (Operand.tmp 77), guard := none },
  { dst := some 78, op := SOp.ext (Operand.tmp 75) 0, guard := none },
  { dst := some 79, op := SOp.ext (Operand.tmp 75) 1, guard := none },
  { dst := some 14, op := SOp.mv (Operand.tmp 78), guard := none },
  { dst := some 3, op := SOp.mv (Operand.tmp 79), guard := none }]
def c16_r10 : List SIns := [
  { dst := some 81, op := SOp.call 41 [], guard := none },
  { dst := some 82, op := SOp.call 34 [Operand.tmp 81], guard := none },
  { dst := some 80, op := SOp.mv (Operand.tmp 82), guard := none },
  { dst := some 83, op := SOp.ext (Operand.tmp 80) 0, guard := none },
  { dst := some 84, op := SOp.ext (Operand.tmp 80) 1, guard := none },
  { dst := some 85, op := SOp.ext (Operand.tmp 80) 2, guard := none },
  { dst := some 15, op := SOp.mv (Operand.tmp 83), guard := none },
  { dst := some 16, op := SOp.mv (Operand.tmp 84), guard := none },
  { dst := some 5, op := SOp.mv (Operand.tmp 85), guard := none }]
def c16_r11 : List SIns := [
  { dst := some 87, op := SOp.call 39 [], guard := none },
  { dst := some 88, op := SOp.call 36 [Operand.tmp 87], guard := none },
  { dst := some 86, op := SOp.mv (Operand.tmp 88), guard := none },
  { dst := some 89, op := SOp.ext (Operand.tmp 86) 0, guard := none },
  { dst := some 90, op := SOp.ext (Operand.tmp 86) 1, guard := none },
  { dst := some 17, op := SOp.mv (Operand.tmp 89), guard := none },
  { dst := some 7, op := SOp.mv (Operand.tmp 90), guard := none }]
def c16_r12 : List SIns := [
  { dst := some 92, op := SOp.call 41 [], guard := none },
  { dst := some 93, op := SOp.call 21 [Operand.tmp 92], guard := none },
  { dst := some 91, op := SOp.mv (Operand.tmp 93), guard := none },
  { dst := some 94, op := SOp.ext (Operand.tmp 91) 0, guard := none },
  { dst := some 95, op := SOp.ext (Operand.tmp 91) 1, guard := none },
  { dst := some 9, op := SOp.mv (Operand.tmp 95), guard := none }]
def c16_r13 : List SIns := [
  { dst := some 97, op := SOp.call 39 [], guard := none },
  { dst := some 98, op := SOp.call 32 [Operand.tmp 97, Operand.const (Value.int (IntKind.i64) 1)], guard := none },
  { dst := some 96, op := SOp.mv (Operand.tmp 98), guard := none },
  { dst := some 99, op := SOp.ext (Operand.tmp 96) 0, guard := none },
  { dst := some 100, op := SOp.ext (Operand.tmp 96) 1, guard := none },
  { dst := some 11, op := SOp.mv (Operand.tmp 100), guard := none }]
def c16_r14 : List SIns := [
  { dst := some 102, op := SOp.call 41 [], guard := none },
  { dst := some 103, op := SOp.mks 2 1 [Value.int (IntKind.i64) 0, Value.int (IntKind.i64) 0] [(0, 1, Operand.const (Value.int (IntKind.i64) 1)), (1, 1, Operand.const (Value.int (IntKind.i64) 1))], guard := none },
  { dst := some 104, op := SOp.call 40 [Operand.tmp 103], guard := none },
  { dst := some 105, op := SOp.call 25 [Operand.tmp 102, Operand.tmp 104], guard := none },
  { dst := some 101, op := SOp.mv (Operand.tmp 105), guard := none },
  { dst := some 106, op := SOp.ext (Operand.tmp 101) 0, guard := none },
  { dst := some 107, op := SOp.ext (Operand.tmp 101) 1, guard := none },
  { dst := some 13, op := SOp.mv (Operand.tmp 107), guard := none }]
def c16_r15 : List SIns := [
  { dst := some 108, op := SOp.mv (Operand.tmp 3), guard := none },
  { dst := some 109, op := SOp.ib (BinOp.eql) (Operand.tmp 108) (Operand.const (Value.int (IntKind.i64) 0)), guard := none },
  { dst := some 110, op := SOp.mv (Operand.tmp 109), guard := none },
  { dst := some 111, op := SOp.mv (Operand.tmp 5), guard := some (110, true) },
  { dst := some 112, op := SOp.ib (BinOp.eql) (Operand.tmp 111) (Operand.const (Value.int (IntKind.i64) 0)), guard := some (110, true) },
  { dst := some 113, op := SOp.pick (Operand.tmp 110) (Operand.tmp 112) (Operand.const (Value.bool false)), guard := none },
  { dst := some 114, op := SOp.mv (Operand.tmp 113), guard := none },
  { dst := some 115, op := SOp.mv (Operand.tmp 7), guard := some (114, true) },
  { dst := some 116, op := SOp.ib (BinOp.eql) (Operand.tmp 115) (Operand.const (Value.int (IntKind.i64) 0)), guard := some (114, true) },
  { dst := some 117, op := SOp.pick (Operand.tmp 114) (Operand.tmp 116) (Operand.const (Value.bool false)), guard := none },
  { dst := some 118, op := SOp.mv (Operand.tmp 117), guard := none },
  { dst := some 119, op := SOp.mv (Operand.tmp 9), guard := some (118, true) },
  { dst := some 120, op := SOp.ib (BinOp.eql) (Operand.tmp 119) (Operand.const (Value.int (IntKind.i64) 13)), guard := some (118, true) },
  { dst := some 121, op := SOp.pick (Operand.tmp 118) (Operand.tmp 120) (Operand.const (Value.bool false)), guard := none },
  { dst := some 122, op := SOp.mv (Operand.tmp 121), guard := none },
  { dst := some 123, op := SOp.mv (Operand.tmp 11), guard := some (122, true) },
  { dst := some 124, op := SOp.ib (BinOp.eql) (Operand.tmp 123) (Operand.const (Value.int (IntKind.i64) 12)), guard := some (122, true) },
  { dst := some 125, op := SOp.pick (Operand.tmp 122) (Operand.tmp 124) (Operand.const (Value.bool false)), guard := none },
  { dst := some 126, op := SOp.mv (Operand.tmp 125), guard := none },
  { dst := some 127, op := SOp.mv (Operand.tmp 13), guard := some (126, true) },
  { dst := some 128, op := SOp.ib (BinOp.eql) (Operand.tmp 127) (Operand.const (Value.int (IntKind.i64) 12)), guard := some (126, true) },
  { dst := some 129, op := SOp.pick (Operand.tmp 126) (Operand.tmp 128) (Operand.const (Value.bool false)), guard := none },
  { dst := some 130, op := SOp.mv (Operand.tmp 129), guard := none },
  { dst := some 131, op := SOp.mv (Operand.tmp 1), guard := some (130, true) },
  { dst := some 132, op := SOp.ib (BinOp.eql) (Operand.tmp 131) (Operand.const (Value.int (IntKind.i64) 5)), guard := some (130, true) },
  { dst := some 133, op := SOp.pick (Operand.tmp 130) (Operand.tmp 132) (Operand.const (Value.bool false)), guard := none },
  { dst := some 134, op := SOp.mv (Operand.tmp 133), guard := none },
  { dst := some 135, op := SOp.mv (Operand.tmp 2), guard := some (134, true) },
  { dst := some 136, op := SOp.ib (BinOp.eql) (Operand.tmp 135) (Operand.const (Value.int (IntKind.i64) 6)), guard := some (134, true) },
  { dst := some 137, op := SOp.pick (Operand.tmp 134) (Operand.tmp 136) (Operand.const (Value.bool false)), guard := none },
  { dst := some 138, op := SOp.mv (Operand.tmp 137), guard := none },
  { dst := some 139, op := SOp.mv (Operand.tmp 4), guard := some (138, true) },
  { dst := some 140, op := SOp.pick (Operand.tmp 138) (Operand.tmp 139) (Operand.const (Value.bool false)), guard := none },
  { dst := some 141, op := SOp.mv (Operand.tmp 140), guard := none },
  { dst := some 142, op := SOp.mv (Operand.tmp 6), guard := some (141, true) },
  { dst := some 143, op := SOp.nt (Operand.tmp 142), guard := some (141, true) },
  { dst := some 144, op := SOp.pick (Operand.tmp 141) (Operand.tmp 143) (Operand.const (Value.bool false)), guard := none },
  { dst := some 145, op := SOp.mv (Operand.tmp 144), guard := none },
  { dst := some 146, op := SOp.mv (Operand.tmp 8), guard := some (145, true) },
  { dst := some 147, op := SOp.ib (BinOp.eql) (Operand.tmp 146) (Operand.const (Value.int (IntKind.i64) 7)), guard := some (145, true) },
  { dst := some 148, op := SOp.pick (Operand.tmp 145) (Operand.tmp 147) (Operand.const (Value.bool false)), guard := none },
  { dst := some 149, op := SOp.mv (Operand.tmp 148), guard := none },
  { dst := some 150, op := SOp.mv (Operand.tmp 10), guard := some (149, true) },
  { dst := some 151, op := SOp.mks 2 1 [Value.int (IntKind.i64) 0, Value.int (IntKind.i64) 0] [(0, 1, Operand.const (Value.int (IntKind.i64) 2)), (1, 1, Operand.const (Value.int (IntKind.i64) 1))], guard := some (149, true) },
  { dst := some 152, op := SOp.call 40 [Operand.tmp 151], guard := some (149, true) },
  { dst := some 153, op := SOp.call 29 [Operand.tmp 150, Operand.tmp 152], guard := some (149, true) },
  { dst := some 154, op := SOp.pick (Operand.tmp 149) (Operand.tmp 153) (Operand.const (Value.bool false)), guard := none },
  { dst := some 155, op := SOp.mv (Operand.tmp 154), guard := none },
  { dst := some 156, op := SOp.mv (Operand.tmp 12), guard := some (155, true) },
  { dst := some 157, op := SOp.pick (Operand.tmp 155) (Operand.tmp 156) (Operand.const (Value.bool false)), guard := none },
  { dst := some 158, op := SOp.mv (Operand.tmp 157), guard := none },
  { dst := some 159, op := SOp.mv (Operand.tmp 14), guard := some (158, true) },
  { dst := some 160, op := SOp.mks 6 1 [Value.int (IntKind.i64) 0, Value.int (IntKind.i64) 0, Value.int (IntKind.i64) 0, Value.int (IntKind.i64) 0, Value.int (IntKind.i64) 0, Value.int (IntKind.i64) 0] [(0, 1, Operand.const (Value.int (IntKind.i64) 0)), (1, 1, Operand.const (Value.int (IntKind.i64) 0)), (2, 1, Operand.const (Value.int (IntKind.i64) 1)), (3, 1, Operand.const (Value.int (IntKind.i64) 0)), (4, 1, Operand.const (Value.int (IntKind.i64) 0)), (5, 1, Operand.const (Value.int (IntKind.i64) 1))], guard := some (158, true) },
  { dst := some 161, op := SOp.call 40 [Operand.tmp 160], guard := some (158, true) },
  { dst := some 162, op := SOp.call 29 [Operand.tmp 159, Operand.tmp 161], guard := some (158, true) },
  { dst := some 163, op := SOp.pick (Operand.tmp 158) (Operand.tmp 162) (Operand.const (Value.bool false)), guard := none },
  { dst := some 164, op := SOp.mv (Operand.tmp 163), guard := none },
  { dst := some 165, op := SOp.mv (Operand.tmp 15), guard := some (164, true) },
  { dst := some 166, op := SOp.mks 1 1 [Value.int (IntKind.i64) 0] [(0, 1, Operand.const (Value.int (IntKind.i64) 0))], guard := some (164, true) },
  { dst := some 167, op := SOp.call 40 [Operand.tmp 166], guard := some (164, true) },
  { dst := some 168, op := SOp.call 29 [Operand.tmp 165, Operand.tmp 167], guard := some (164, true) },
  { dst := some 169, op := SOp.pick (Operand.tmp 164) (Operand.tmp 168) (Operand.const (Value.bool false)), guard := none },
  { dst := some 170, op := SOp.mv (Operand.tmp 169), guard := none },
  { dst := some 171, op := SOp.mv (Operand.tmp 16), guard := some (170, true) },
  { dst := some 172, op := SOp.mks 3 1 [Value.int (IntKind.i64) 0, Value.int (IntKind.i64) 0, Value.int (IntKind.i64) 0] [(0, 1, Operand.const (Value.int (IntKind.i64) 0)), (1, 1, Operand.const (Value.int (IntKind.i64) 1)), (2, 1, Operand.const (Value.int (IntKind.i64) 0))], guard := some (170, true) },
  { dst := some 173, op := SOp.call 40 [Operand.tmp 172], guard := some (170, true) },
  { dst := some 174, op := SOp.call 29 [Operand.tmp 171, Operand.tmp 173], guard := some (170, true) },
  { dst := some 175, op := SOp.pick (Operand.tmp 170) (Operand.tmp 174) (Operand.const (Value.bool false)), guard := none },
  { dst := some 176, op := SOp.mv (Operand.tmp 175), guard := none },
  { dst := some 177, op := SOp.mv (Operand.tmp 17), guard := some (176, true) },
  { dst := some 178, op := SOp.mks 3 1 [Value.int (IntKind.i64) 0, Value.int (IntKind.i64) 0, Value.int (IntKind.i64) 0] [(0, 1, Operand.const (Value.int (IntKind.i64) 0)), (1, 1, Operand.const (Value.int (IntKind.i64) 0)), (2, 1, Operand.const (Value.int (IntKind.i64) 1))], guard := some (176, true) },
  { dst := some 179, op := SOp.call 40 [Operand.tmp 178], guard := some (176, true) },
  { dst := some 180, op := SOp.call 29 [Operand.tmp 177, Operand.tmp 179], guard := some (176, true) },
  { dst := some 181, op := SOp.pick (Operand.tmp 176) (Operand.tmp 180) (Operand.const (Value.bool false)), guard := none },
  { dst := some 182, op := SOp.mv (Operand.tmp 181), guard := none },
  { dst := some 183, op := SOp.call 41 [], guard := some (182, true) },
  { dst := some 184, op := SOp.mks 3 1 [Value.int (IntKind.i64) 0, Value.int (IntKind.i64) 0, Value.int (IntKind.i64) 0] [(0, 1, Operand.const (Value.int (IntKind.i64) 0)), (1, 1, Operand.const (Value.int (IntKind.i64) 0)), (2, 1, Operand.const (Value.int (IntKind.i64) 1))], guard := some (182, true) },
  { dst := some 185, op := SOp.call 40 [Operand.tmp 184], guard := some (182, true) },
  { dst := some 186, op := SOp.call 30 [Operand.tmp 183, Operand.tmp 185], guard := some (182, true) },
  { dst := some 187, op := SOp.ib (BinOp.eql) (Operand.tmp 186) (Operand.const (Value.int (IntKind.i64) 0)), guard := some (182, true) },
  { dst := some 188, op := SOp.pick (Operand.tmp 182) (Operand.tmp 187) (Operand.const (Value.bool false)), guard := none },
  { dst := some 189, op := SOp.mv (Operand.tmp 188), guard := none },
  { dst := some 190, op := SOp.call 41 [], guard := some (189, true) },
  { dst := some 191, op := SOp.mks 4 1 [Value.int (IntKind.i64) 0, Value.int (IntKind.i64) 0, Value.int (IntKind.i64) 0, Value.int (IntKind.i64) 0] [(0, 1, Operand.const (Value.int (IntKind.i64) 0)), (1, 1, Operand.const (Value.int (IntKind.i64) 0)), (2, 1, Operand.const (Value.int (IntKind.i64) 0)), (3, 1, Operand.const (Value.int (IntKind.i64) 1))], guard := some (189, true) },
  { dst := some 192, op := SOp.call 40 [Operand.tmp 191], guard := some (189, true) },
  { dst := some 193, op := SOp.call 30 [Operand.tmp 190, Operand.tmp 192], guard := some (189, true) },
  { dst := some 194, op := SOp.ib (BinOp.eql) (Operand.tmp 193) (Operand.const (Value.int (IntKind.i64) 14)), guard := some (189, true) },
  { dst := some 195, op := SOp.pick (Operand.tmp 189) (Operand.tmp 194) (Operand.const (Value.bool false)), guard := none },
  { dst := some 0, op := SOp.mv (Operand.tmp 195), guard := none }]
def c16 : SCode := (.seq (.reg c16_r0 []) (.seq (.reg c16_r1 [1, 2, 3]) (.seq (.reg c16_r2 [1, 2, 3, 4, 5]) (.seq (.reg c16_r3 [1, 2, 3, 4, 5, 6, 7]) (.seq (.reg c16_r4 [1, 2, 3, 4, 5, 6, 7, 8, 9]) (.seq (.reg c16_r5 [1, 2, 3, 4, 5, 6, 7, 8, 9, 10, 11]) (.seq (.reg c16_r6 [1, 2, 3, 4, 5, 6, 7, 8, 9, 10, 11, 12, 13]) (.seq (.seq (.reg c16_r7 [1, 2, 4, 6, 8, 10, 12, 74]) (.cond (Operand.tmp 74) (.seq (.reg c16_r8 [0]) .ret) .skip)) (.seq (.reg c16_r9 [1, 2, 3, 4, 6, 8, 10, 12, 14]) (.seq (.reg c16_r10 [1, 2, 3, 4, 5, 6, 8, 10, 12, 14, 15, 16]) (.seq (.reg c16_r11 [1, 2, 3, 4, 5, 6, 7, 8, 10, 12, 14, 15, 16, 17]) (.seq (.reg c16_r12 [1, 2, 3, 4, 5, 6, 7, 8, 9, 10, 12, 14, 15, 16, 17]) (.seq (.reg c16_r13 [1, 2, 3, 4, 5, 6, 7, 8, 9, 10, 11, 12, 14, 15, 16, 17]) (.seq (.reg c16_r14 [1, 2, 3, 4, 5, 6, 7, 8, 9, 10, 11, 12, 13, 14, 15, 16, 17]) (.seq (.reg c16_r15 [0]) .ret)))))))))))))))
theorem F16 : Fn Try.prog 16 c16 [SRes.tmp 0] 196 := ⟨Try.f16, Try.f16.body.getD .skip, [[], [1, 2, 3], [1, 2, 3, 4, 5], [1, 2, 3, 4, 5, 6, 7], [1, 2, 3, 4, 5, 6, 7, 8, 9], [1, 2, 3, 4, 5, 6, 7, 8, 9, 10, 11], [1, 2, 3, 4, 5, 6, 7, 8, 9, 10, 11, 12, 13], [1, 2, 4, 6, 8, 10, 12, 74], [0], [1, 2, 3, 4, 6, 8, 10, 12, 14], [1, 2, 3, 4, 5, 6, 8, 10, 12, 14, 15, 16], [1, 2, 3, 4, 5, 6, 7, 8, 10, 12, 14, 15, 16, 17], [1, 2, 3, 4, 5, 6, 7, 8, 9, 10, 12, 14, 15, 16, 17], [1, 2, 3, 4, 5, 6, 7, 8, 9, 10, 11, 12, 14, 15, 16, 17], [1, 2, 3, 4, 5, 6, 7, 8, 9, 10, 11, 12, 13, 14, 15, 16, 17], [0]], Try.func16, by kernel_rfl, by kernel_rfl, by kernel_rfl, by kernel_rfl, by decide⟩

def c20_r0 : List SIns := [
  { dst := some 2, op := SOp.mv (Operand.const (Value.bool false)), guard := none },
  { dst := some 3, op := SOp.mv (Operand.const (Value.int (IntKind.i64) 0)), guard := none }]
def c20_r1 : List SIns := [
  { dst := some 5, op := SOp.mv (Operand.tmp 0), guard := none },
  { dst := some 6, op := SOp.call 24 [Operand.tmp 5], guard := none },
  { dst := some 4, op := SOp.mv (Operand.tmp 6), guard := none }]
def c20_r2 : List SIns := [
  { dst := some 7, op := SOp.mv (Operand.tmp 4), guard := none },
  { dst := some 8, op := SOp.ib (BinOp.neq) (Operand.tmp 7) (Operand.const (Value.int (IntKind.i64) 0)), guard := none }]
def c20_r3 : List SIns := [
  { dst := some 9, op := SOp.mv (Operand.tmp 4), guard := none },
  { dst := some 2, op := SOp.mv (Operand.const (Value.bool false)), guard := none },
  { dst := some 3, op := SOp.mv (Operand.tmp 9), guard := none }]
def c20_r4 : List SIns := [
  { dst := some 10, op := SOp.mv (Operand.tmp 0), guard := none },
  { dst := some 11, op := SOp.call 56 [Operand.tmp 10], guard := none },
  { dst := some 2, op := SOp.mv (Operand.tmp 11), guard := none },
  { dst := some 3, op := SOp.mv (Operand.const (Value.int (IntKind.i64) 0)), guard := none }]
def c20 : SCode := (.seq (.reg c20_r0 [0]) (.seq (.reg c20_r1 [0, 4]) (.seq (.seq (.reg c20_r2 [0, 4, 8]) (.cond (Operand.tmp 8) (.seq (.reg c20_r3 [2, 3]) .ret) .skip)) (.seq (.reg c20_r4 [2, 3]) .ret))))
theorem F20 : Fn Try.prog 20 c20 [SRes.tmp 2, SRes.tmp 3] 12 := ⟨Try.f20, Try.f20.body.getD .skip, [[0], [0, 4], [0, 4, 8], [2, 3], [2, 3]], Try.func20, by kernel_rfl, by kernel_rfl, by kernel_rfl, by kernel_rfl, by decide⟩

def c22_r0 : List SIns := [
  { dst := some 2, op := SOp.mv (Operand.const (Value.int (IntKind.i64) 0)), guard := none },
  { dst := some 3, op := SOp.mv (Operand.const (Value.int (IntKind.i64) 0)), guard := none }]
def c22_r1 : List SIns := [
  { dst := some 7, op := SOp.mv (Operand.tmp 0), guard := none },
  { dst := some 8, op := SOp.call 24 [Operand.tmp 7], guard := none },
  { dst := some 4, op := SOp.mv (Operand.tmp 8), guard := none }]
def c22_r2 : List SIns := [
  { dst := some 9, op := SOp.mv (Operand.tmp 4), guard := none },
  { dst := some 10, op := SOp.ib (BinOp.neq) (Operand.tmp 9) (Operand.const (Value.int (IntKind.i64) 0)), guard := none }]
def c22_r3 : List SIns := [
  { dst := some 11, op := SOp.mv (Operand.tmp 4), guard := none },
  { dst := some 2, op := SOp.mv (Operand.const (Value.int (IntKind.i64) 0)), guard := none },
  { dst := some 3, op := SOp.mv (Operand.tmp 11), guard := none }]
def c22_r4 : List SIns := [
  { dst := some 13, op := SOp.mv (Operand.tmp 0), guard := none },
  { dst := some 14, op := SOp.call 57 [Operand.tmp 13], guard := none },
  { dst := some 12, op := SOp.mv (Operand.tmp 14), guard := none },
  { dst := some 15, op := SOp.ext (Operand.tmp 12) 0, guard := none },
  { dst := some 16, op := SOp.ext (Operand.tmp 12) 1, guard := none },
  { dst := some 5, op := SOp.mv (Operand.tmp 15), guard := none },
  { dst := some 6, op := SOp.mv (Operand.tmp 16), guard := none }]
def c22_r5 : List SIns := [
  { dst := some 17, op := SOp.mv (Operand.tmp 6), guard := none },
  { dst := some 18, op := SOp.ib (BinOp.lss) (Operand.tmp 17) (Operand.const (Value.int (IntKind.i64) 0)), guard := none }]
def c22_r6 : List SIns := [
  { dst := some 2, op := SOp.mv (Operand.const (Value.int (IntKind.i64) 0)), guard := none },
  { dst := some 3, op := SOp.mv (Operand.const (Value.int (IntKind.i64) 13)), guard := none }]
def c22_r7 : List SIns := [
  { dst := some 19, op := SOp.mv (Operand.tmp 6), guard := none },
  { dst := some 2, op := SOp.mv (Operand.tmp 19), guard := none },
  { dst := some 3, op := SOp.mv (Operand.const (Value.int (IntKind.i64) 0)), guard := none }]
def c22 : SCode := (.seq (.reg c22_r0 [0]) (.seq (.reg c22_r1 [0, 4]) (.seq (.seq (.reg c22_r2 [0, 4, 10]) (.cond (Operand.tmp 10) (.seq (.reg c22_r3 [2, 3]) .ret) .skip)) (.seq (.reg c22_r4 [6]) (.seq (.seq (.reg c22_r5 [6, 18]) (.cond (Operand.tmp 18) (.seq (.reg c22_r6 [2, 3]) .ret) .skip)) (.seq (.reg c22_r7 [2, 3]) .ret))))))
theorem F22 : Fn Try.prog 22 c22 [SRes.tmp 2, SRes.tmp 3] 20 := ⟨Try.f22, Try.f22.body.getD .skip, [[0], [0, 4], [0, 4, 10], [2, 3], [6], [6, 18], [2, 3], [2, 3]], Try.func22, by kernel_rfl, by kernel_rfl, by kernel_rfl, by kernel_rfl, by decide⟩

def c56_r0 : List SIns := [
  { dst := some 2, op := SOp.mv (Operand.const (Value.bool false)), guard := none }]
def c56_r1 : List SIns := [
  { dst := some 6, op := SOp.mv (Operand.tmp 0), guard := none },
  { dst := some 7, op := SOp.call 57 [Operand.tmp 6], guard := none },
  { dst := some 5, op := SOp.mv (Operand.tmp 7), guard := none },
  { dst := some 8, op := SOp.ext (Operand.tmp 5) 0, guard := none },
  { dst := some 9, op := SOp.ext (Operand.tmp 5) 1, guard := none },
  { dst := some 3, op := SOp.mv (Operand.tmp 8), guard := none },
  { dst := some 4, op := SOp.mv (Operand.tmp 9), guard := none }]
def c56_r2 : List SIns := [
  { dst := some 10, op := SOp.mv (Operand.tmp 4), guard := none },
  { dst := some 11, op := SOp.ib (BinOp.lss) (Operand.tmp 10) (Operand.const (Value.int (IntKind.i64) 0)), guard := none },
  { dst := some 2, op := SOp.mv (Operand.tmp 11), guard := none }]
def c56 : SCode := (.seq (.reg c56_r0 [0]) (.seq (.reg c56_r1 [4]) (.seq (.reg c56_r2 [2]) .ret)))
theorem F56 : Fn Try.prog 56 c56 [SRes.tmp 2] 12 := ⟨Try.f56, Try.f56.body.getD .skip, [[0], [4], [2]], Try.func56, by kernel_rfl, by kernel_rfl, by kernel_rfl, by kernel_rfl, by decide⟩

def c57_r0 : List SIns := [
  { dst := some 2, op := SOp.mv (Operand.const (Value.slice none 0 0)), guard := none },
  { dst := some 3, op := SOp.mv (Operand.const (Value.int (IntKind.i64) 0)), guard := none }]
def c57_r1 : List SIns := [
  { dst := some 14, op := SOp.mv (Operand.tmp 0), guard := none },
  { dst := some 15, op := SOp.call 78 [Operand.tmp 14], guard := none },
  { dst := some 4, op := SOp.mv (Operand.tmp 15), guard := none }]
def c57_r2 : List SIns := [
  { dst := some 16, op := SOp.mv (Operand.tmp 4), guard := none },
  { dst := some 17, op := SOp.lenSl (Operand.tmp 16), guard := none },
  { dst := some 18, op := SOp.mk 1 (Value.bool false) (Operand.tmp 17) (Operand.tmp 17), guard := none },
  { dst := some 5, op := SOp.mv (Operand.tmp 18), guard := none }]
def c57_r3 : List SIns := [
  { dst := some 6, op := SOp.mv (Operand.const (Value.int (IntKind.i64) 0)), guard := none }]
def c57_r4 : List SIns := [
  { dst := some 19, op := SOp.mv (Operand.tmp 6), guard := none },
  { dst := some 20, op := SOp.mv (Operand.tmp 4), guard := none },
  { dst := some 21, op := SOp.lenSl (Operand.tmp 20), guard := none },
  { dst := some 22, op := SOp.ib (BinOp.lss) (Operand.tmp 19) (Operand.tmp 21), guard := none }]
def c57_r5 : List SIns := [
  { dst := some 25, op := SOp.mv (Operand.tmp 5), guard := none },
  { dst := some 26, op := SOp.mv (Operand.tmp 6), guard := none },
  { dst := some 27, op := SOp.idx 1 (Operand.tmp 25) (Operand.tmp 26), guard := none },
  { dst := none, op := SOp.store 1 (Operand.tmp 27) (Operand.const (Value.bool true)), guard := none }]
def c57_r6 : List SIns := [
  { dst := some 23, op := SOp.mv (Operand.tmp 6), guard := none },
  { dst := some 24, op := SOp.ib (BinOp.add) (Operand.tmp 23) (Operand.const (Value.int (IntKind.i64) 1)), guard := none },
  { dst := some 6, op := SOp.mv (Operand.tmp 24), guard := none }]
def c57_l0 : SCode := (.seq (.seq (.reg c57_r4 [0, 4, 5, 6, 22]) (.cond (Operand.tmp 22) .skip (.exit 0))) (.seq (.block 1 (.reg c57_r5 [0, 4, 5, 6])) (.reg c57_r6 [0, 4, 5, 6])))
def c57_r7 : List SIns := [
  { dst := some 7, op := SOp.mv (Operand.const (Value.int (IntKind.i64) 0)), guard := none }]
def c57_r8 : List SIns := [
  { dst := some 30, op := SOp.mv (Operand.tmp 5), guard := none },
  { dst := some 31, op := SOp.mv (Operand.tmp 0), guard := none },
  { dst := some 32, op := SOp.mv (Operand.tmp 0), guard := none },
  { dst := some 33, op := SOp.call 65 [Operand.tmp 31, Operand.tmp 32], guard := none },
  { dst := some 34, op := SOp.idx 1 (Operand.tmp 30) (Operand.tmp 33), guard := none },
  { dst := some 35, op := SOp.load1 (Operand.tmp 34), guard := none },
  { dst := some 36, op := SOp.nt (Operand.tmp 35), guard := none }]
def c57_r9 : List SIns := [
  { dst := some 37, op := SOp.mv (Operand.tmp 5), guard := none },
  { dst := some 38, op := SOp.mv (Operand.tmp 7), guard := none },
  { dst := some 39, op := SOp.ib (BinOp.sub) (Operand.tmp 38) (Operand.const (Value.int (IntKind.i64) 1)), guard := none },
  { dst := some 2, op := SOp.mv (Operand.tmp 37), guard := none },
  { dst := some 3, op := SOp.mv (Operand.tmp 39), guard := none }]
def c57_r10 : List SIns := [
  { dst := some 40, op := SOp.mv (Operand.tmp 4), guard := none },
  { dst := some 41, op := SOp.lenSl (Operand.tmp 40), guard := none },
  { dst := some 42, op := SOp.mk 1 (Value.bool false) (Operand.tmp 41) (Operand.tmp 41), guard := none },
  { dst := some 8, op := SOp.mv (Operand.tmp 42), guard := none }]
def c57_r11 : List SIns := [
  { dst := some 9, op := SOp.mv (Operand.const (Value.bool true)), guard := none }]
def c57_r12 : List SIns := [
  { dst := some 10, op := SOp.mv (Operand.const (Value.int (IntKind.i64) 0)), guard := none }]
def c57_r13 : List SIns := [
  { dst := some 43, op := SOp.mv (Operand.tmp 10), guard := none },
  { dst := some 44, op := SOp.mv (Operand.tmp 4), guard := none },
  { dst := some 45, op := SOp.lenSl (Operand.tmp 44), guard := none },
  { dst := some 46, op := SOp.ib (BinOp.lss) (Operand.tmp 43) (Operand.tmp 45), guard := none }]
def c57_r14 : List SIns := [
  { dst := some 11, op := SOp.mv (Operand.const (Value.int (IntKind.i64) 0)), guard := none }]
def c57_r15 : List SIns := [
  { dst := some 49, op := SOp.mv (Operand.tmp 11), guard := none },
  { dst := some 50, op := SOp.mv (Operand.tmp 0), guard := none },
  { dst := some 51, op := SOp.lenSl (Operand.tmp 50), guard := none },
  { dst := some 52, op := SOp.ib (BinOp.lss) (Operand.tmp 49) (Operand.tmp 51), guard := none }]
def c57_r16 : List SIns := [
  { dst := some 56, op := SOp.mv (Operand.tmp 0), guard := none },
  { dst := some 57, op := SOp.mv (Operand.tmp 4), guard := none },
  { dst := some 58, op := SOp.mv (Operand.tmp 10), guard := none },
  { dst := some 59, op := SOp.idx 1 (Operand.tmp 57) (Operand.tmp 58), guard := none },
  { dst := some 60, op := SOp.load1 (Operand.tmp 59), guard := none },
  { dst := some 61, op := SOp.mv (Operand.tmp 11), guard := none },
  { dst := some 62, op := SOp.call 79 [Operand.tmp 56, Operand.tmp 60, Operand.tmp 61], guard := none },
  { dst := some 55, op := SOp.mv (Operand.tmp 62), guard := none },
  { dst := some 63, op := SOp.ext (Operand.tmp 55) 0, guard := none },
  { dst := some 64, op := SOp.ext (Operand.tmp 55) 1, guard := none },
  { dst := some 12, op := SOp.mv (Operand.tmp 63), guard := none },
  { dst := some 13, op := SOp.mv (Operand.tmp 64), guard := none }]
def c57_r17 : List SIns := [
  { dst := some 65, op := SOp.mv (Operand.tmp 8), guard := none },
  { dst := some 66, op := SOp.mv (Operand.tmp 10), guard := none },
  { dst := some 67, op := SOp.mv (Operand.tmp 8), guard := none },
  { dst := some 68, op := SOp.mv (Operand.tmp 10), guard := none },
  { dst := some 69, op := SOp.idx 1 (Operand.tmp 67) (Operand.tmp 68), guard := none },
  { dst := some 70, op := SOp.load1 (Operand.tmp 69), guard := none },
  { dst := some 71, op := SOp.mv (Operand.tmp 70), guard := none },
  { dst := some 72, op := SOp.mv (Operand.tmp 13), guard := some (71, false) },
  { dst := some 73, op := SOp.mv (Operand.tmp 72), guard := some (71, false) },
  { dst := some 74, op := SOp.mv (Operand.tmp 5), guard := some (73, true) },
  { dst := some 75, op := SOp.mv (Operand.tmp 0), guard := some (73, true) },
  { dst := some 76, op := SOp.mv (Operand.tmp 12), guard := some (73, true) },
  { dst := some 77, op := SOp.call 65 [Operand.tmp 75, Operand.tmp 76], guard := some (73, true) },
  { dst := some 78, op := SOp.idx 1 (Operand.tmp 74) (Operand.tmp 77), guard := some (73, true) },
  { dst := some 79, op := SOp.load1 (Operand.tmp 78), guard := some (73, true) },
  { dst := some 80, op := SOp.pick (Operand.tmp 73) (Operand.tmp 79) (Operand.const (Value.bool false)), guard := some (71, false) },
  { dst := some 81, op := SOp.pick (Operand.tmp 71) (Operand.const (Value.bool true)) (Operand.tmp 80), guard := none },
  { dst := some 82, op := SOp.idx 1 (Operand.tmp 65) (Operand.tmp 66), guard := none },
  { dst := none, op := SOp.store 1 (Operand.tmp 82) (Operand.tmp 81), guard := none }]
def c57_r18 : List SIns := [
  { dst := some 53, op := SOp.mv (Operand.tmp 11), guard := none },
  { dst := some 54, op := SOp.ib (BinOp.add) (Operand.tmp 53) (Operand.const (Value.int (IntKind.i64) 1)), guard := none },
  { dst := some 11, op := SOp.mv (Operand.tmp 54), guard := none }]
def c57_l1 : SCode := (.seq (.seq (.reg c57_r15 [0, 4, 5, 7, 8, 9, 10, 11, 52]) (.cond (Operand.tmp 52) .skip (.exit 6))) (.seq (.block 7 (.seq (.reg c57_r16 [0, 4, 5, 7, 8, 9, 10, 11, 12, 13]) (.reg c57_r17 [0, 4, 5, 7, 8, 9, 10, 11]))) (.reg c57_r18 [0, 4, 5, 7, 8, 9, 10, 11])))
def c57_r19 : List SIns := [
  { dst := some 83, op := SOp.mv (Operand.tmp 9), guard := none },
  { dst := some 84, op := SOp.mv (Operand.tmp 83), guard := none },
  { dst := some 85, op := SOp.mv (Operand.tmp 8), guard := some (84, true) },
  { dst := some 86, op := SOp.mv (Operand.tmp 10), guard := some (84, true) },
  { dst := some 87, op := SOp.idx 1 (Operand.tmp 85) (Operand.tmp 86), guard := some (84, true) },
  { dst := some 88, op := SOp.load1 (Operand.tmp 87), guard := some (84, true) },
  { dst := some 89, op := SOp.mv (Operand.tmp 5), guard := some (84, true) },
  { dst := some 90, op := SOp.mv (Operand.tmp 10), guard := some (84, true) },
  { dst := some 91, op := SOp.idx 1 (Operand.tmp 89) (Operand.tmp 90), guard := some (84, true) },
  { dst := some 92, op := SOp.load1 (Operand.tmp 91), guard := some (84, true) },
  { dst := some 93, op := SOp.bb false (Operand.tmp 88) (Operand.tmp 92), guard := some (84, true) },
  { dst := some 94, op := SOp.pick (Operand.tmp 84) (Operand.tmp 93) (Operand.const (Value.bool false)), guard := none },
  { dst := some 9, op := SOp.mv (Operand.tmp 94), guard := none }]
def c57_r20 : List SIns := [
  { dst := some 47, op := SOp.mv (Operand.tmp 10), guard := none },
  { dst := some 48, op := SOp.ib (BinOp.add) (Operand.tmp 47) (Operand.const (Value.int (IntKind.i64) 1)), guard := none },
  { dst := some 10, op := SOp.mv (Operand.tmp 48), guard := none }]
def c57_l2 : SCode := (.seq (.seq (.reg c57_r13 [0, 4, 5, 7, 8, 9, 10, 46]) (.cond (Operand.tmp 46) .skip (.exit 4))) (.seq (.block 5 (.seq (.seq (.reg c57_r14 [0, 4, 5, 7, 8, 9, 10, 11]) (.block 6 (.loop c57_l1))) (.draw c57_r19 [[], [0], [1, 0], [1, 0], [2, 3, 1, 1, 0, 1, 0, 0], [4, 1, 2, 3, 1, 1, 0, 1, 0, 0, 0], [1, 0], [1, 0], [6, 7, 1, 1, 0, 1, 0, 0], [8, 1, 6, 7, 1, 1, 0, 1, 0, 0, 0], [5, 9, 1, 4, 1, 2, 3, 1, 1, 0, 1, 0, 0, 0, 8, 1, 6, 7, 1, 1, 0, 1, 0, 0, 0, 0], [1, 10, 0, 5, 9, 1, 4, 1, 2, 3, 1, 1, 0, 1, 0, 0, 0, 8, 1, 6, 7, 1, 1, 0, 1, 0, 0, 0, 0], [11, 1, 0, 1, 2, 3, 4, 5, 6, 7, 8, 9, 10, 11, 1, 10, 0, 5, 9, 1, 4, 1, 2, 3, 1, 1, 0, 1, 0, 0, 0, 8, 1, 6, 7, 1, 1, 0, 1, 0, 0, 0, 0, 0, 0, 1, 0, 1, 0, 2, 3, 1, 1, 0, 1, 0, 0, 4, 1, 2, 3, 1, 1, 0, 1, 0, 0, 0, 1, 0, 1, 0, 6, 7, 1, 1, 0, 1, 0, 0, 8, 1, 6, 7, 1, 1, 0, 1, 0, 0, 0, 5, 9, 1, 4, 1, 2, 3, 1, 1, 0, 1, 0, 0, 0, 8, 1, 6, 7, 1, 1, 0, 1, 0, 0, 0, 0, 1, 10, 0, 5, 9, 1, 4, 1, 2, 3, 1, 1, 0, 1, 0, 0, 0, 8, 1, 6, 7, 1, 1, 0, 1, 0, 0, 0, 0]] [0, 4, 5, 7, 8, 9, 10]))) (.reg c57_r20 [0, 4, 5, 7, 8, 9, 10])))
def c57_r21 : List SIns := [
  { dst := some 95, op := SOp.mv (Operand.tmp 9), guard := none }]
def c57_r22 : List SIns := [
  { dst := some 96, op := SOp.mv (Operand.tmp 5), guard := none },
  { dst := some 2, op := SOp.mv (Operand.tmp 96), guard := none },
  { dst := some 3, op := SOp.mv (Operand.const (Value.int (IntKind.i64) (-1))), guard := none }]
def c57_r23 : List SIns := [
  { dst := some 97, op := SOp.mv (Operand.tmp 8), guard := none },
  { dst := some 5, op := SOp.mv (Operand.tmp 97), guard := none }]
def c57_r24 : List SIns := [
  { dst := some 28, op := SOp.mv (Operand.tmp 7), guard := none },
  { dst := some 29, op := SOp.ib (BinOp.add) (Operand.tmp 28) (Operand.const (Value.int (IntKind.i64) 1)), guard := none },
  { dst := some 7, op := SOp.mv (Operand.tmp 29), guard := none }]
def c57_l3 : SCode := (.seq (.block 3 (.seq (.seq (.reg c57_r8 [0, 4, 5, 7, 36]) (.cond (Operand.tmp 36) (.seq (.reg c57_r9 [2, 3]) .ret) .skip)) (.seq (.reg c57_r10 [0, 4, 5, 7, 8]) (.seq (.reg c57_r11 [0, 4, 5, 7, 8, 9]) (.seq (.seq (.reg c57_r12 [0, 4, 5, 7, 8, 9, 10]) (.block 4 (.loop c57_l2))) (.seq (.seq (.reg c57_r21 [0, 4, 5, 7, 8, 95]) (.cond (Operand.tmp 95) (.seq (.reg c57_r22 [2, 3]) .ret) .skip)) (.reg c57_r23 [0, 4, 5, 7]))))))) (.reg c57_r24 [0, 4, 5, 7]))
def c57 : SCode := (.seq (.reg c57_r0 [0]) (.seq (.reg c57_r1 [0, 4]) (.seq (.reg c57_r2 [0, 4, 5]) (.seq (.seq (.reg c57_r3 [0, 4, 5, 6]) (.block 0 (.loop c57_l0))) (.seq (.reg c57_r7 [0, 4, 5, 7]) (.block 2 (.loop c57_l3)))))))
theorem F57 : Fn Try.prog 57 c57 [SRes.tmp 2, SRes.tmp 3] 98 := ⟨Try.f57, Try.f57.body.getD .skip, [[0], [0, 4], [0, 4, 5], [0, 4, 5, 6], [0, 4, 5, 6, 22], [0, 4, 5, 6], [0, 4, 5, 6], [0, 4, 5, 7], [0, 4, 5, 7, 36], [2, 3], [0, 4, 5, 7, 8], [0, 4, 5, 7, 8, 9], [0, 4, 5, 7, 8, 9, 10], [0, 4, 5, 7, 8, 9, 10, 46], [0, 4, 5, 7, 8, 9, 10, 11], [0, 4, 5, 7, 8, 9, 10, 11, 52], [0, 4, 5, 7, 8, 9, 10, 11, 12, 13], [0, 4, 5, 7, 8, 9, 10, 11], [0, 4, 5, 7, 8, 9, 10, 11], [0, 4, 5, 7, 8, 9, 10], [0, 4, 5, 7, 8, 9, 10], [0, 4, 5, 7, 8, 95], [2, 3], [0, 4, 5, 7], [0, 4, 5, 7]], Try.func57, by kernel_rfl, by kernel_rfl, by kernel_rfl, by kernel_rfl, by decide⟩

def c78_r0 : List SIns := [
  { dst := some 2, op := SOp.mv (Operand.const (Value.slice none 0 0)), guard := none }]
def c78_r1 : List SIns := [
  { dst := some 7, op := SOp.mv (Operand.tmp 0), guard := none },
  { dst := some 8, op := SOp.lenSl (Operand.tmp 7), guard := none },
  { dst := some 9, op := SOp.ib (BinOp.eql) (Operand.tmp 8) (Operand.const (Value.int (IntKind.i64) 0)), guard := none }]
def c78_r2 : List SIns := [
  { dst := some 10, op := SOp.mks 1 1 [Value.slice none 0 0] [(0, 1, Operand.const (Value.slice none 0 0))], guard := none },
  { dst := some 2, op := SOp.mv (Operand.tmp 10), guard := none }]
def c78_r3 : List SIns := [
  { dst := some 3, op := SOp.mv (Operand.const (Value.slice none 0 0)), guard := none }]
def c78_r4 : List SIns := [
  { dst := some 11, op := SOp.mv (Operand.tmp 0), guard := none },
  { dst := some 12, op := SOp.mv (Operand.tmp 0), guard := none },
  { dst := some 13, op := SOp.lenSl (Operand.tmp 12), guard := none },
  { dst := some 14, op := SOp.ib (BinOp.sub) (Operand.tmp 13) (Operand.const (Value.int (IntKind.i64) 1)), guard := none },
  { dst := some 15, op := SOp.slc 1 (Operand.tmp 11) none (some (Operand.tmp 14)) none, guard := none },
  { dst := some 16, op := SOp.call 78 [Operand.tmp 15], guard := none },
  { dst := some 4, op := SOp.mv (Operand.tmp 16), guard := none }]
def c78_r5 : List SIns := [
  { dst := some 5, op := SOp.mv (Operand.const (Value.int (IntKind.i64) 0)), guard := none }]
def c78_r6 : List SIns := [
  { dst := some 17, op := SOp.mv (Operand.tmp 5), guard := none },
  { dst := some 18, op := SOp.mv (Operand.tmp 4), guard := none },
  { dst := some 19, op := SOp.lenSl (Operand.tmp 18), guard := none },
  { dst := some 20, op := SOp.ib (BinOp.lss) (Operand.tmp 17) (Operand.tmp 19), guard := none }]
def c78_r7 : List SIns := [
  { dst := some 6, op := SOp.mv (Operand.const (Value.int (IntKind.i64) 1)), guard := none }]
def c78_r8 : List SIns := [
  { dst := some 23, op := SOp.mv (Operand.tmp 6), guard := none },
  { dst := some 24, op := SOp.mv (Operand.tmp 0), guard := none },
  { dst := some 25, op := SOp.mv (Operand.tmp 0), guard := none },
  { dst := some 26, op := SOp.lenSl (Operand.tmp 25), guard := none },
  { dst := some 27, op := SOp.ib (BinOp.sub) (Operand.tmp 26) (Operand.const (Value.int (IntKind.i64) 1)), guard := none },
  { dst := some 28, op := SOp.idx 1 (Operand.tmp 24) (Operand.tmp 27), guard := none },
  { dst := some 29, op := SOp.load1 (Operand.tmp 28), guard := none },
  { dst := some 30, op := SOp.ib (BinOp.leq) (Operand.tmp 23) (Operand.tmp 29), guard := none }]
def c78_r9 : List SIns := [
  { dst := some 33, op := SOp.mv (Operand.tmp 3), guard := none },
  { dst := some 34, op := SOp.mks0 1, guard := none },
  { dst := some 35, op := SOp.mv (Operand.tmp 4), guard := none },
  { dst := some 36, op := SOp.mv (Operand.tmp 5), guard := none },
  { dst := some 37, op := SOp.idx 1 (Operand.tmp 35) (Operand.tmp 36), guard := none },
  { dst := some 38, op := SOp.load1 (Operand.tmp 37), guard := none },
  { dst := some 39, op := SOp.app 1 8 (Operand.tmp 34) (Operand.tmp 38), guard := none },
  { dst := some 40, op := SOp.mv (Operand.tmp 6), guard := none },
  { dst := some 41, op := SOp.mks 1 1 [Value.int (IntKind.i64) 0] [(0, 1, Operand.tmp 40)], guard := none },
  { dst := some 42, op := SOp.app 1 8 (Operand.tmp 39) (Operand.tmp 41), guard := none },
  { dst := some 43, op := SOp.mks 1 1 [Value.slice none 0 0] [(0, 1, Operand.tmp 42)], guard := none },
  { dst := some 44, op := SOp.app 1 24 (Operand.tmp 33) (Operand.tmp 43), guard := none },
  { dst := some 3, op := SOp.mv (Operand.tmp 44), guard := none }]
def c78_r10 : List SIns := [
  { dst := some 31, op := SOp.mv (Operand.tmp 6), guard := none },
  { dst := some 32, op := SOp.ib (BinOp.add) (Operand.tmp 31) (Operand.const (Value.int (IntKind.i64) 1)), guard := none },
  { dst := some 6, op := SOp.mv (Operand.tmp 32), guard := none }]
def c78_l0 : SCode := (.seq (.seq (.reg c78_r8 [0, 3, 4, 5, 6, 30]) (.cond (Operand.tmp 30) .skip (.exit 2))) (.seq (.block 3 (.reg c78_r9 [0, 3, 4, 5, 6])) (.reg c78_r10 [0, 3, 4, 5, 6])))
def c78_r11 : List SIns := [
  { dst := some 21, op := SOp.mv (Operand.tmp 5), guard := none },
  { dst := some 22, op := SOp.ib (BinOp.add) (Operand.tmp 21) (Operand.const (Value.int (IntKind.i64) 1)), guard := none },
  { dst := some 5, op := SOp.mv (Operand.tmp 22), guard := none }]
def c78_l1 : SCode := (.seq (.seq (.reg c78_r6 [0, 3, 4, 5, 20]) (.cond (Operand.tmp 20) .skip (.exit 0))) (.seq (.block 1 (.seq (.reg c78_r7 [0, 3, 4, 5, 6]) (.block 2 (.loop c78_l0)))) (.reg c78_r11 [0, 3, 4, 5])))
def c78_r12 : List SIns := [
  { dst := some 45, op := SOp.mv (Operand.tmp 3), guard := none },
  { dst := some 2, op := SOp.mv (Operand.tmp 45), guard := none }]
def c78 : SCode := (.seq (.reg c78_r0 [0]) (.seq (.seq (.reg c78_r1 [0, 9]) (.cond (Operand.tmp 9) (.seq (.reg c78_r2 [2]) .ret) .skip)) (.seq (.reg c78_r3 [0, 3]) (.seq (.reg c78_r4 [0, 3, 4]) (.seq (.seq (.reg c78_r5 [0, 3, 4, 5]) (.block 0 (.loop c78_l1))) (.seq (.reg c78_r12 [2]) .ret))))))
theorem F78 : Fn Try.prog 78 c78 [SRes.tmp 2] 46 := ⟨Try.f78, Try.f78.body.getD .skip, [[0], [0, 9], [2], [0, 3], [0, 3, 4], [0, 3, 4, 5], [0, 3, 4, 5, 20], [0, 3, 4, 5, 6], [0, 3, 4, 5, 6, 30], [0, 3, 4, 5, 6], [0, 3, 4, 5, 6], [0, 3, 4, 5], [2]], Try.func78, by kernel_rfl, by kernel_rfl, by kernel_rfl, by kernel_rfl, by decide⟩

def c65_r0 : List SIns := [
  { dst := some 4, op := SOp.mv (Operand.const (Value.int (IntKind.i64) 0)), guard := none }]
def c65_r1 : List SIns := [
  { dst := some 5, op := SOp.mv (Operand.const (Value.int (IntKind.i64) 0)), guard := none }]
def c65_r2 : List SIns := [
  { dst := some 6, op := SOp.mv (Operand.const (Value.int (IntKind.i64) 0)), guard := none }]
def c65_r3 : List SIns := [
  { dst := some 7, op := SOp.mv (Operand.tmp 6), guard := none },
  { dst := some 8, op := SOp.mv (Operand.tmp 0), guard := none },
  { dst := some 9, op := SOp.lenSl (Operand.tmp 8), guard := none },
  { dst := some 10, op := SOp.ib (BinOp.lss) (Operand.tmp 7) (Operand.tmp 9), guard := none }]
def c65_r4 : List SIns := [
  { dst := some 13, op := SOp.mv (Operand.tmp 5), guard := none },
  { dst := some 14, op := SOp.mv (Operand.tmp 0), guard := none },
  { dst := some 15, op := SOp.mv (Operand.tmp 6), guard := none },
  { dst := some 16, op := SOp.idx 1 (Operand.tmp 14) (Operand.tmp 15), guard := none },
  { dst := some 17, op := SOp.load1 (Operand.tmp 16), guard := none },
  { dst := some 18, op := SOp.ib (BinOp.mul) (Operand.tmp 13) (Operand.tmp 17), guard := none },
  { dst := some 19, op := SOp.mv (Operand.tmp 1), guard := none },
  { dst := some 20, op := SOp.mv (Operand.tmp 6), guard := none },
  { dst := some 21, op := SOp.idx 1 (Operand.tmp 19) (Operand.tmp 20), guard := none },
  { dst := some 22, op := SOp.load1 (Operand.tmp 21), guard := none },
  { dst := some 23, op := SOp.ib (BinOp.add) (Operand.tmp 18) (Operand.tmp 22), guard := none },
  { dst := some 24, op := SOp.ib (BinOp.sub) (Operand.tmp 23) (Operand.const (Value.int (IntKind.i64) 1)), guard := none },
  { dst := some 5, op := SOp.mv (Operand.tmp 24), guard := none }]
def c65_r5 : List SIns := [
  { dst := some 11, op := SOp.mv (Operand.tmp 6), guard := none },
  { dst := some 12, op := SOp.ib (BinOp.add) (Operand.tmp 11) (Operand.const (Value.int (IntKind.i64) 1)), guard := none },
  { dst := some 6, op := SOp.mv (Operand.tmp 12), guard := none }]
def c65_l0 : SCode := (.seq (.seq (.reg c65_r3 [0, 1, 5, 6, 10]) (.cond (Operand.tmp 10) .skip (.exit 0))) (.seq (.block 1 (.draw c65_r4 [[], [], [], [1, 2], [3, 1, 2], [0, 4, 3, 1, 2], [], [], [6, 7], [8, 6, 7], [5, 9, 0, 4, 3, 1, 2, 8, 6, 7], [10, 5, 9, 0, 4, 3, 1, 2, 8, 6, 7], [11, 0, 1, 2, 3, 4, 5, 6, 7, 8, 9, 10, 11, 10, 5, 9, 0, 4, 3, 1, 2, 8, 6, 7, 1, 2, 3, 1, 2, 0, 4, 3, 1, 2, 6, 7, 8, 6, 7, 5, 9, 0, 4, 3, 1, 2, 8, 6, 7, 10, 5, 9, 0, 4, 3, 1, 2, 8, 6, 7]] [0, 1, 5, 6])) (.reg c65_r5 [0, 1, 5, 6])))
def c65_r6 : List SIns := [
  { dst := some 25, op := SOp.mv (Operand.tmp 5), guard := none },
  { dst := some 4, op := SOp.mv (Operand.tmp 25), guard := none }]
def c65 : SCode := (.seq (.reg c65_r0 [0, 1]) (.seq (.reg c65_r1 [0, 1, 5]) (.seq (.seq (.reg c65_r2 [0, 1, 5, 6]) (.block 0 (.loop c65_l0))) (.seq (.reg c65_r6 [4]) .ret))))
theorem F65 : Fn Try.prog 65 c65 [SRes.tmp 4] 26 := ⟨Try.f65, Try.f65.body.getD .skip, [[0, 1], [0, 1, 5], [0, 1, 5, 6], [0, 1, 5, 6, 10], [0, 1, 5, 6], [0, 1, 5, 6], [4]], Try.func65, by kernel_rfl, by kernel_rfl, by kernel_rfl, by kernel_rfl, by decide⟩

def c79_r0 : List SIns := [
  { dst := some 6, op := SOp.mv (Operand.const (Value.slice none 0 0)), guard := none },
  { dst := some 7, op := SOp.mv (Operand.const (Value.bool false)), guard := none }]
def c79_r1 : List SIns := [
  { dst := some 8, op := SOp.mv (Operand.const (Value.slice none 0 0)), guard := none }]
def c79_r2 : List SIns := [
  { dst := some 9, op := SOp.mv (Operand.const (Value.int (IntKind.i64) 0)), guard := none }]
def c79_r3 : List SIns := [
  { dst := some 10, op := SOp.mv (Operand.tmp 9), guard := none },
  { dst := some 11, op := SOp.mv (Operand.tmp 0), guard := none },
  { dst := some 12, op := SOp.lenSl (Operand.tmp 11), guard := none },
  { dst := some 13, op := SOp.ib (BinOp.lss) (Operand.tmp 10) (Operand.tmp 12), guard := none }]
def c79_r4 : List SIns := [
  { dst := some 16, op := SOp.mv (Operand.tmp 9), guard := none },
  { dst := some 17, op := SOp.mv (Operand.tmp 2), guard := none },
  { dst := some 18, op := SOp.ib (BinOp.eql) (Operand.tmp 16) (Operand.tmp 17), guard := none }]
def c79_r5 : List SIns := [
  { dst := some 19, op := SOp.mv (Operand.tmp 8), guard := none },
  { dst := some 20, op := SOp.mv (Operand.tmp 0), guard := none },
  { dst := some 21, op := SOp.mv (Operand.tmp 9), guard := none },
  { dst := some 22, op := SOp.idx 1 (Operand.tmp 20) (Operand.tmp 21), guard := none },
  { dst := some 23, op := SOp.load1 (Operand.tmp 22), guard := none },
  { dst := some 24, op := SOp.mks 1 1 [Value.int (IntKind.i64) 0] [(0, 1, Operand.tmp 23)], guard := none },
  { dst := some 25, op := SOp.app 1 8 (Operand.tmp 19) (Operand.tmp 24), guard := none },
  { dst := some 8, op := SOp.mv (Operand.tmp 25), guard := none }]
def c79_r6 : List SIns := [
  { dst := some 26, op := SOp.mv (Operand.tmp 1), guard := none },
  { dst := some 27, op := SOp.mv (Operand.tmp 9), guard := none },
  { dst := some 28, op := SOp.idx 1 (Operand.tmp 26) (Operand.tmp 27), guard := none },
  { dst := some 29, op := SOp.load1 (Operand.tmp 28), guard := none },
  { dst := some 30, op := SOp.ib (BinOp.eql) (Operand.tmp 29) (Operand.const (Value.int (IntKind.i64) 1)), guard := none }]
def c79_r7 : List SIns := [
  { dst := some 6, op := SOp.mv (Operand.const (Value.slice none 0 0)), guard := none },
  { dst := some 7, op := SOp.mv (Operand.const (Value.bool false)), guard := none }]
def c79_r8 : List SIns := [
  { dst := some 31, op := SOp.mv (Operand.tmp 8), guard := none },
  { dst := some 32, op := SOp.mv (Operand.tmp 1), guard := none },
  { dst := some 33, op := SOp.mv (Operand.tmp 9), guard := none },
  { dst := some 34, op := SOp.idx 1 (Operand.tmp 32) (Operand.tmp 33), guard := none },
  { dst := some 35, op := SOp.load1 (Operand.tmp 34), guard := none },
  { dst := some 36, op := SOp.ib (BinOp.sub) (Operand.tmp 35) (Operand.const (Value.int (IntKind.i64) 1)), guard := none },
  { dst := some 37, op := SOp.mks 1 1 [Value.int (IntKind.i64) 0] [(0, 1, Operand.tmp 36)], guard := none },
  { dst := some 38, op := SOp.app 1 8 (Operand.tmp 31) (Operand.tmp 37), guard := none },
  { dst := some 8, op := SOp.mv (Operand.tmp 38), guard := none }]
def c79_r9 : List SIns := [
  { dst := some 14, op := SOp.mv (Operand.tmp 9), guard := none },
  { dst := some 15, op := SOp.ib (BinOp.add) (Operand.tmp 14) (Operand.const (Value.int (IntKind.i64) 1)), guard := none },
  { dst := some 9, op := SOp.mv (Operand.tmp 15), guard := none }]
def c79_l0 : SCode := (.seq (.seq (.reg c79_r3 [0, 1, 2, 8, 9, 13]) (.cond (Operand.tmp 13) .skip (.exit 0))) (.seq (.block 1 (.seq (.seq (.reg c79_r4 [0, 1, 2, 8, 9, 18]) (.cond (Operand.tmp 18) (.seq (.reg c79_r5 [0, 1, 2, 8, 9]) (.exit 1)) .skip)) (.seq (.seq (.reg c79_r6 [0, 1, 2, 8, 9, 30]) (.cond (Operand.tmp 30) (.seq (.reg c79_r7 [6, 7]) .ret) .skip)) (.reg c79_r8 [0, 1, 2, 8, 9])))) (.reg c79_r9 [0, 1, 2, 8, 9])))
def c79_r10 : List SIns := [
  { dst := some 39, op := SOp.mv (Operand.tmp 8), guard := none },
  { dst := some 6, op := SOp.mv (Operand.tmp 39), guard := none },
  { dst := some 7, op := SOp.mv (Operand.const (Value.bool true)), guard := none }]
def c79 : SCode := (.seq (.reg c79_r0 [0, 1, 2]) (.seq (.reg c79_r1 [0, 1, 2, 8]) (.seq (.seq (.reg c79_r2 [0, 1, 2, 8, 9]) (.block 0 (.loop c79_l0))) (.seq (.reg c79_r10 [6, 7]) .ret))))
theorem F79 : Fn Try.prog 79 c79 [SRes.tmp 6, SRes.tmp 7] 40 := ⟨Try.f79, Try.f79.body.getD .skip, [[0, 1, 2], [0, 1, 2, 8], [0, 1, 2, 8, 9], [0, 1, 2, 8, 9, 13], [0, 1, 2, 8, 9, 18], [0, 1, 2, 8, 9], [0, 1, 2, 8, 9, 30], [6, 7], [0, 1, 2, 8, 9], [0, 1, 2, 8, 9], [6, 7]], Try.func79, by kernel_rfl, by kernel_rfl, by kernel_rfl, by kernel_rfl, by decide⟩

def c3_r0 : List SIns := [
  { dst := some 2, op := SOp.mv (Operand.const (Value.bool false)), guard := none }]
def c3_r1 : List SIns := [
  { dst := some 17, op := SOp.mv (Operand.tmp 0), guard := none },
  { dst := some 18, op := SOp.lenSl (Operand.tmp 17), guard := none },
  { dst := some 19, op := SOp.ib (BinOp.gtr) (Operand.tmp 18) (Operand.const (Value.int (IntKind.i64) 60)), guard := none }]
def c3_r2 : List SIns := [
  { dst := some 20, op := SOp.call 16 [], guard := none },
  { dst := some 2, op := SOp.mv (Operand.tmp 20), guard := none }]
def c3_r3 : List SIns := [
  { dst := some 22, op := SOp.mv (Operand.tmp 0), guard := none },
  { dst := some 23, op := SOp.call 17 [Operand.tmp 22], guard := none },
  { dst := some 21, op := SOp.mv (Operand.tmp 23), guard := none },
  { dst := some 24, op := SOp.ext (Operand.tmp 21) 0, guard := none },
  { dst := some 25, op := SOp.ext (Operand.tmp 21) 1, guard := none },
  { dst := some 26, op := SOp.ext (Operand.tmp 21) 2, guard := none },
  { dst := some 3, op := SOp.mv (Operand.tmp 24), guard := none },
  { dst := some 4, op := SOp.mv (Operand.tmp 25), guard := none },
  { dst := some 5, op := SOp.mv (Operand.tmp 26), guard := none }]
def c3_r4 : List SIns := [
  { dst := some 28, op := SOp.mv (Operand.tmp 0), guard := none },
  { dst := some 29, op := SOp.call 18 [Operand.tmp 28], guard := none },
  { dst := some 27, op := SOp.mv (Operand.tmp 29), guard := none },
  { dst := some 30, op := SOp.ext (Operand.tmp 27) 0, guard := none },
  { dst := some 31, op := SOp.ext (Operand.tmp 27) 1, guard := none },
  { dst := some 32, op := SOp.ext (Operand.tmp 27) 2, guard := none },
  { dst := some 6, op := SOp.mv (Operand.tmp 30), guard := none },
  { dst := some 7, op := SOp.mv (Operand.tmp 31), guard := none },
  { dst := some 8, op := SOp.mv (Operand.tmp 32), guard := none }]
def c3_r5 : List SIns := [
  { dst := some 34, op := SOp.mv (Operand.tmp 0), guard := none },
  { dst := some 35, op := SOp.call 19 [Operand.tmp 34], guard := none },
  { dst := some 33, op := SOp.mv (Operand.tmp 35), guard := none },
  { dst := some 36, op := SOp.ext (Operand.tmp 33) 0, guard := none },
  { dst := some 37, op := SOp.ext (Operand.tmp 33) 1, guard := none },
  { dst := some 9, op := SOp.mv (Operand.tmp 36), guard := none },
  { dst := some 10, op := SOp.mv (Operand.tmp 37), guard := none }]
def c3_r6 : List SIns := [
  { dst := some 39, op := SOp.mv (Operand.tmp 0), guard := none },
  { dst := some 40, op := SOp.call 20 [Operand.tmp 39], guard := none },
  { dst := some 38, op := SOp.mv (Operand.tmp 40), guard := none },
  { dst := some 41, op := SOp.ext (Operand.tmp 38) 0, guard := none },
  { dst := some 42, op := SOp.ext (Operand.tmp 38) 1, guard := none },
  { dst := some 11, op := SOp.mv (Operand.tmp 41), guard := none },
  { dst := some 12, op := SOp.mv (Operand.tmp 42), guard := none }]
def c3_r7 : List SIns := [
  { dst := some 44, op := SOp.mv (Operand.tmp 0), guard := none },
  { dst := some 45, op := SOp.call 21 [Operand.tmp 44], guard := none },
  { dst := some 43, op := SOp.mv (Operand.tmp 45), guard := none },
  { dst := some 46, op := SOp.ext (Operand.tmp 43) 0, guard := none },
  { dst := some 47, op := SOp.ext (Operand.tmp 43) 1, guard := none },
  { dst := some 13, op := SOp.mv (Operand.tmp 46), guard := none },
  { dst := some 14, op := SOp.mv (Operand.tmp 47), guard := none }]
def c3_r8 : List SIns := [
  { dst := some 49, op := SOp.mv (Operand.tmp 0), guard := none },
  { dst := some 50, op := SOp.call 22 [Operand.tmp 49], guard := none },
  { dst := some 48, op := SOp.mv (Operand.tmp 50), guard := none },
  { dst := some 51, op := SOp.ext (Operand.tmp 48) 0, guard := none },
  { dst := some 52, op := SOp.ext (Operand.tmp 48) 1, guard := none },
  { dst := some 15, op := SOp.mv (Operand.tmp 51), guard := none },
  { dst := some 16, op := SOp.mv (Operand.tmp 52), guard := none }]
def c3_r9 : List SIns := [
  { dst := some 53, op := SOp.mv (Operand.tmp 3), guard := none },
  { dst := some 54, op := SOp.mv (Operand.tmp 6), guard := none },
  { dst := some 55, op := SOp.ib (BinOp.eql) (Operand.tmp 53) (Operand.tmp 54), guard := none },
  { dst := some 56, op := SOp.mv (Operand.tmp 55), guard := none },
  { dst := some 57, op := SOp.mv (Operand.tmp 4), guard := some (56, true) },
  { dst := some 58, op := SOp.mv (Operand.tmp 7), guard := some (56, true) },
  { dst := some 59, op := SOp.ib (BinOp.eql) (Operand.tmp 57) (Operand.tmp 58), guard := some (56, true) },
  { dst := some 60, op := SOp.pick (Operand.tmp 56) (Operand.tmp 59) (Operand.const (Value.bool false)), guard := none },
  { dst := some 61, op := SOp.mv (Operand.tmp 60), guard := none },
  { dst := some 62, op := SOp.mv (Operand.tmp 5), guard := some (61, true) },
  { dst := some 63, op := SOp.mv (Operand.tmp 8), guard := some (61, true) },
  { dst := some 64, op := SOp.ib (BinOp.eql) (Operand.tmp 62) (Operand.tmp 63), guard := some (61, true) },
  { dst := some 65, op := SOp.pick (Operand.tmp 61) (Operand.tmp 64) (Operand.const (Value.bool false)), guard := none },
  { dst := some 66, op := SOp.mv (Operand.tmp 65), guard := none },
  { dst := some 67, op := SOp.mv (Operand.tmp 9), guard := some (66, true) },
  { dst := some 68, op := SOp.mv (Operand.tmp 11), guard := some (66, true) },
  { dst := some 69, op := SOp.bb false (Operand.tmp 67) (Operand.tmp 68), guard := some (66, true) },
  { dst := some 70, op := SOp.pick (Operand.tmp 66) (Operand.tmp 69) (Operand.const (Value.bool false)), guard := none },
  { dst := some 71, op := SOp.mv (Operand.tmp 70), guard := none },
  { dst := some 72, op := SOp.mv (Operand.tmp 10), guard := some (71, true) },
  { dst := some 73, op := SOp.mv (Operand.tmp 12), guard := some (71, true) },
  { dst := some 74, op := SOp.ib (BinOp.eql) (Operand.tmp 72) (Operand.tmp 73), guard := some (71, true) },
  { dst := some 75, op := SOp.pick (Operand.tmp 71) (Operand.tmp 74) (Operand.const (Value.bool false)), guard := none },
  { dst := some 76, op := SOp.mv (Operand.tmp 75), guard := none },
  { dst := some 77, op := SOp.mv (Operand.tmp 13), guard := some (76, true) },
  { dst := some 78, op := SOp.mv (Operand.tmp 15), guard := some (76, true) },
  { dst := some 79, op := SOp.ib (BinOp.eql) (Operand.tmp 77) (Operand.tmp 78), guard := some (76, true) },
  { dst := some 80, op := SOp.pick (Operand.tmp 76) (Operand.tmp 79) (Operand.const (Value.bool false)), guard := none },
  { dst := some 81, op := SOp.mv (Operand.tmp 80), guard := none },
  { dst := some 82, op := SOp.mv (Operand.tmp 14), guard := some (81, true) },
  { dst := some 83, op := SOp.mv (Operand.tmp 16), guard := some (81, true) },
  { dst := some 84, op := SOp.ib (BinOp.eql) (Operand.tmp 82) (Operand.tmp 83), guard := some (81, true) },
  { dst := some 85, op := SOp.pick (Operand.tmp 81) (Operand.tmp 84) (Operand.const (Value.bool false)), guard := none },
  { dst := some 86, op := SOp.mv (Operand.tmp 85), guard := none },
  { dst := some 87, op := SOp.mv (Operand.tmp 0), guard := some (86, true) },
  { dst := some 88, op := SOp.call 23 [Operand.tmp 87], guard := some (86, true) },
  { dst := some 89, op := SOp.mv (Operand.tmp 0), guard := some (86, true) },
  { dst := some 90, op := SOp.call 24 [Operand.tmp 89], guard := some (86, true) },
  { dst := some 91, op := SOp.ib (BinOp.eql) (Operand.tmp 88) (Operand.tmp 90), guard := some (86, true) },
  { dst := some 92, op := SOp.pick (Operand.tmp 86) (Operand.tmp 91) (Operand.const (Value.bool false)), guard := none },
  { dst := some 93, op := SOp.mv (Operand.tmp 92), guard := none },
  { dst := some 94, op := SOp.call 16 [], guard := some (93, true) },
  { dst := some 95, op := SOp.pick (Operand.tmp 93) (Operand.tmp 94) (Operand.const (Value.bool false)), guard := none },
  { dst := some 2, op := SOp.mv (Operand.tmp 95), guard := none }]
def c3 : SCode := (.seq (.reg c3_r0 [0]) (.seq (.seq (.reg c3_r1 [0, 19]) (.cond (Operand.tmp 19) (.seq (.reg c3_r2 [2]) .ret) .skip)) (.seq (.reg c3_r3 [0, 3, 4, 5]) (.seq (.reg c3_r4 [0, 3, 4, 5, 6, 7, 8]) (.seq (.reg c3_r5 [0, 3, 4, 5, 6, 7, 8, 9, 10]) (.seq (.reg c3_r6 [0, 3, 4, 5, 6, 7, 8, 9, 10, 11, 12]) (.seq (.reg c3_r7 [0, 3, 4, 5, 6, 7, 8, 9, 10, 11, 12, 13, 14]) (.seq (.reg c3_r8 [0, 3, 4, 5, 6, 7, 8, 9, 10, 11, 12, 13, 14, 15, 16]) (.seq (.reg c3_r9 [2]) .ret)))))))))
theorem F3 : Fn Try.prog 3 c3 [SRes.tmp 2] 96 := ⟨Try.f3, Try.f3.body.getD .skip, [[0], [0, 19], [2], [0, 3, 4, 5], [0, 3, 4, 5, 6, 7, 8], [0, 3, 4, 5, 6, 7, 8, 9, 10], [0, 3, 4, 5, 6, 7, 8, 9, 10, 11, 12], [0, 3, 4, 5, 6, 7, 8, 9, 10, 11, 12, 13, 14], [0, 3, 4, 5, 6, 7, 8, 9, 10, 11, 12, 13, 14, 15, 16], [2]], Try.func3, by kernel_rfl, by kernel_rfl, by kernel_rfl, by kernel_rfl, by decide⟩

end Go.Sx.Wk
