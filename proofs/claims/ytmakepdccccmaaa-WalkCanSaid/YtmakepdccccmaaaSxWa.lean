/- The codes of the functions, written by a program (Gen.lean), and that they are the functions'. No conditions. -/
import Derived.Test.YtmakepdccccmaaaSxN
import Derived.KernelRfl
import Derived.Test.YtmakepdccccmaaaProg
set_option linter.unusedVariables false
set_option maxRecDepth 100000
namespace Go.Sx.Wk
open Go Go.Sx Go.Proofs

-- 29 bellarmine/bellarminelaw08.same
def c29_r0 : List SIns := [
  { dst := some 4, op := SOp.mv (Operand.const (Value.bool false)), guard := none }]
def c29_r1 : List SIns := [
  { dst := some 6, op := SOp.mv (Operand.tmp 0), guard := none },
  { dst := some 7, op := SOp.lenSl (Operand.tmp 6), guard := none },
  { dst := some 8, op := SOp.mv (Operand.tmp 1), guard := none },
  { dst := some 9, op := SOp.lenSl (Operand.tmp 8), guard := none },
  { dst := some 10, op := SOp.ib (BinOp.neq) (Operand.tmp 7) (Operand.tmp 9), guard := none }]
def c29_r2 : List SIns := [
  { dst := some 4, op := SOp.mv (Operand.const (Value.bool false)), guard := none }]
def c29_r3 : List SIns := [
  { dst := some 5, op := SOp.mv (Operand.const (Value.int (IntKind.i64) 0)), guard := none }]
def c29_r4 : List SIns := [
  { dst := some 11, op := SOp.mv (Operand.tmp 5), guard := none },
  { dst := some 12, op := SOp.mv (Operand.tmp 0), guard := none },
  { dst := some 13, op := SOp.lenSl (Operand.tmp 12), guard := none },
  { dst := some 14, op := SOp.ib (BinOp.lss) (Operand.tmp 11) (Operand.tmp 13), guard := none }]
def c29_r5 : List SIns := [
  { dst := some 17, op := SOp.mv (Operand.tmp 0), guard := none },
  { dst := some 18, op := SOp.mv (Operand.tmp 5), guard := none },
  { dst := some 19, op := SOp.idx 1 (Operand.tmp 17) (Operand.tmp 18), guard := none },
  { dst := some 20, op := SOp.load1 (Operand.tmp 19), guard := none },
  { dst := some 21, op := SOp.mv (Operand.tmp 1), guard := none },
  { dst := some 22, op := SOp.mv (Operand.tmp 5), guard := none },
  { dst := some 23, op := SOp.idx 1 (Operand.tmp 21) (Operand.tmp 22), guard := none },
  { dst := some 24, op := SOp.load1 (Operand.tmp 23), guard := none },
  { dst := some 25, op := SOp.ib (BinOp.neq) (Operand.tmp 20) (Operand.tmp 24), guard := none }]
def c29_r6 : List SIns := [
  { dst := some 4, op := SOp.mv (Operand.const (Value.bool false)), guard := none }]
def c29_r7 : List SIns := [
  { dst := some 15, op := SOp.mv (Operand.tmp 5), guard := none },
  { dst := some 16, op := SOp.ib (BinOp.add) (Operand.tmp 15) (Operand.const (Value.int (IntKind.i64) 1)), guard := none },
  { dst := some 5, op := SOp.mv (Operand.tmp 16), guard := none }]
def c29_l0 : SCode := (.seq (.seq (.reg c29_r4 [0, 1, 5, 14]) (.cond (Operand.tmp 14) .skip (.exit 0))) (.seq (.block 1 (.seq (.draw c29_r5 [[], [], [0, 1], [2, 0, 1], [], [], [4, 5], [6, 4, 5], [3, 7, 2, 0, 1, 6, 4, 5]] [0, 1, 5, 25]) (.cond (Operand.tmp 25) (.seq (.reg c29_r6 [4]) .ret) .skip))) (.reg c29_r7 [0, 1, 5])))
def c29_r8 : List SIns := [
  { dst := some 4, op := SOp.mv (Operand.const (Value.bool true)), guard := none }]
def c29 : SCode := (.seq (.reg c29_r0 [0, 1]) (.seq (.seq (.reg c29_r1 [0, 1, 10]) (.cond (Operand.tmp 10) (.seq (.reg c29_r2 [4]) .ret) .skip)) (.seq (.seq (.reg c29_r3 [0, 1, 5]) (.block 0 (.loop c29_l0))) (.seq (.reg c29_r8 [4]) .ret))))
theorem F29 : Fn Try.prog 29 c29 [SRes.tmp 4] 26 := ⟨Try.f29, Try.f29.body.getD .skip, [[0, 1], [0, 1, 10], [4], [0, 1, 5], [0, 1, 5, 14], [0, 1, 5, 25], [4], [0, 1, 5], [4]], Try.func29, by kernel_rfl, by kernel_rfl, by kernel_rfl, by kernel_rfl, by decide⟩

-- 60 bellarmine/walk.between
def c60_r0 : List SIns := [
  { dst := some 6, op := SOp.mv (Operand.const (Value.bool false)), guard := none }]
def c60_r1 : List SIns := [
  { dst := some 7, op := SOp.mv (Operand.tmp 0), guard := none },
  { dst := some 8, op := SOp.mv (Operand.tmp 1), guard := none },
  { dst := some 9, op := SOp.ib (BinOp.leq) (Operand.tmp 7) (Operand.tmp 8), guard := none },
  { dst := some 10, op := SOp.mv (Operand.tmp 9), guard := none },
  { dst := some 11, op := SOp.mv (Operand.tmp 1), guard := some (10, true) },
  { dst := some 12, op := SOp.mv (Operand.tmp 2), guard := some (10, true) },
  { dst := some 13, op := SOp.ib (BinOp.leq) (Operand.tmp 11) (Operand.tmp 12), guard := some (10, true) },
  { dst := some 14, op := SOp.pick (Operand.tmp 10) (Operand.tmp 13) (Operand.const (Value.bool false)), guard := none },
  { dst := some 6, op := SOp.mv (Operand.tmp 14), guard := none }]
def c60 : SCode := (.seq (.reg c60_r0 [0, 1, 2]) (.seq (.reg c60_r1 [6]) .ret))
theorem F60 : Fn Try.prog 60 c60 [SRes.tmp 6] 15 := ⟨Try.f60, Try.f60.body.getD .skip, [[0, 1, 2], [6]], Try.func60, by kernel_rfl, by kernel_rfl, by kernel_rfl, by kernel_rfl, by decide⟩

-- 23 bellarmine/walk.Check
def c23_r0 : List SIns := [
  { dst := some 2, op := SOp.mv (Operand.const (Value.int (IntKind.i64) 0)), guard := none }]
def c23_r1 : List SIns := [
  { dst := some 4, op := SOp.mv (Operand.tmp 0), guard := none },
  { dst := some 5, op := SOp.lenSl (Operand.tmp 4), guard := none },
  { dst := some 6, op := SOp.ib (BinOp.eql) (Operand.tmp 5) (Operand.const (Value.int (IntKind.i64) 0)), guard := none },
  { dst := some 3, op := SOp.mv (Operand.tmp 6), guard := none }]
def c23_r2 : List SIns := [
  { dst := some 2, op := SOp.mv (Operand.const (Value.int (IntKind.i64) 4)), guard := none }]
def c23_r3 : List SIns := [
  { dst := some 8, op := SOp.mv (Operand.tmp 0), guard := none },
  { dst := some 9, op := SOp.lenSl (Operand.tmp 8), guard := none },
  { dst := some 10, op := SOp.ib (BinOp.gtr) (Operand.tmp 9) (Operand.const (Value.int (IntKind.i64) 4)), guard := none },
  { dst := some 7, op := SOp.mv (Operand.tmp 10), guard := none }]
def c23_r4 : List SIns := [
  { dst := some 2, op := SOp.mv (Operand.const (Value.int (IntKind.i64) 3)), guard := none }]
def c23_r5 : List SIns := [
  { dst := some 12, op := SOp.mv (Operand.tmp 0), guard := none },
  { dst := some 13, op := SOp.call 58 [Operand.tmp 12, Operand.func 59], guard := none },
  { dst := some 11, op := SOp.mv (Operand.tmp 13), guard := none }]
def c23_r6 : List SIns := [
  { dst := some 2, op := SOp.mv (Operand.const (Value.int (IntKind.i64) 1)), guard := none }]
def c23_r7 : List SIns := [
  { dst := some 2, op := SOp.mv (Operand.const (Value.int (IntKind.i64) 0)), guard := none }]
def c23 : SCode := (.seq (.reg c23_r0 [0]) (.seq (.block 0 (.seq (.reg c23_r1 [0, 3]) (.cond (Operand.tmp 3) (.seq (.reg c23_r2 [2]) .ret) (.seq (.reg c23_r3 [0, 7]) (.cond (Operand.tmp 7) (.seq (.reg c23_r4 [2]) .ret) (.seq (.reg c23_r5 [11]) (.cond (Operand.tmp 11) (.seq (.reg c23_r6 [2]) .ret) .skip))))))) (.seq (.reg c23_r7 [2]) .ret)))
theorem F23 : Fn Try.prog 23 c23 [SRes.tmp 2] 14 := ⟨Try.f23, Try.f23.body.getD .skip, [[0], [0, 3], [2], [0, 7], [2], [11], [2], [2]], Try.func23, by kernel_rfl, by kernel_rfl, by kernel_rfl, by kernel_rfl, by decide⟩

-- 59 bellarmine/walk.Check$1
def c59_r0 : List SIns := [
  { dst := some 2, op := SOp.mv (Operand.const (Value.bool false)), guard := none }]
def c59_r1 : List SIns := [
  { dst := some 3, op := SOp.mv (Operand.tmp 0), guard := none },
  { dst := some 4, op := SOp.call 60 [Operand.const (Value.int (IntKind.i64) 1), Operand.tmp 3, Operand.const (Value.int (IntKind.i64) 8)], guard := none },
  { dst := some 5, op := SOp.nt (Operand.tmp 4), guard := none },
  { dst := some 2, op := SOp.mv (Operand.tmp 5), guard := none }]
def c59 : SCode := (.seq (.reg c59_r0 [0]) (.seq (.reg c59_r1 [2]) .ret))
theorem F59 : Fn Try.prog 59 c59 [SRes.tmp 2] 6 := ⟨Try.f59, Try.f59.body.getD .skip, [[0], [2]], Try.func59, by kernel_rfl, by kernel_rfl, by kernel_rfl, by kernel_rfl, by decide⟩

-- 58 slices.ContainsFunc[[]int,int]
def c58_r0 : List SIns := [
  { dst := some 4, op := SOp.mv (Operand.const (Value.bool false)), guard := none }]
def c58_r1 : List SIns := [
  { dst := some 5, op := SOp.mv (Operand.tmp 0), guard := none },
  { dst := some 6, op := SOp.mv (Operand.tmp 1), guard := none },
  { dst := some 7, op := SOp.call 80 [Operand.tmp 5, Operand.tmp 6], guard := none },
  { dst := some 8, op := SOp.ib (BinOp.geq) (Operand.tmp 7) (Operand.const (Value.int (IntKind.i64) 0)), guard := none },
  { dst := some 4, op := SOp.mv (Operand.tmp 8), guard := none }]
def c58 : SCode := (.seq (.reg c58_r0 [0, 1]) (.seq (.reg c58_r1 [4]) .ret))
theorem F58 : Fn Try.prog 58 c58 [SRes.tmp 4] 9 := ⟨Try.f58, Try.f58.body.getD .skip, [[0, 1], [4]], Try.func58, by kernel_rfl, by kernel_rfl, by kernel_rfl, by kernel_rfl, by decide⟩

-- 80 slices.IndexFunc[[]int,int]
def c80_r0 : List SIns := [
  { dst := some 4, op := SOp.mv (Operand.const (Value.int (IntKind.i64) 0)), guard := none }]
def c80_r1 : List SIns := [
  { dst := some 6, op := SOp.mv (Operand.tmp 0), guard := none },
  { dst := some 7, op := SOp.lenSl (Operand.tmp 6), guard := none },
  { dst := some 8, op := SOp.mv (Operand.const (Value.int (IntKind.i64) 0)), guard := none }]
def c80_r2 : List SIns := [
  { dst := some 9, op := SOp.ib (BinOp.lss) (Operand.tmp 8) (Operand.tmp 7), guard := none }]
def c80_r3 : List SIns := [
  { dst := some 10, op := SOp.mv (Operand.tmp 8), guard := none },
  { dst := some 5, op := SOp.mv (Operand.tmp 10), guard := none }]
def c80_r4 : List SIns := [
  { dst := some 11, op := SOp.mv (Operand.tmp 1), guard := none },
  { dst := some 12, op := SOp.mv (Operand.tmp 0), guard := none },
  { dst := some 13, op := SOp.mv (Operand.tmp 5), guard := none },
  { dst := some 14, op := SOp.idx 1 (Operand.tmp 12) (Operand.tmp 13), guard := none },
  { dst := some 15, op := SOp.load1 (Operand.tmp 14), guard := none },
  { dst := some 16, op := SOp.callv (Operand.tmp 11) [Operand.tmp 15], guard := none }]
def c80_r5 : List SIns := [
  { dst := some 17, op := SOp.mv (Operand.tmp 5), guard := none },
  { dst := some 4, op := SOp.mv (Operand.tmp 17), guard := none }]
def c80_r6 : List SIns := [
  { dst := some 18, op := SOp.ib (BinOp.add) (Operand.tmp 8) (Operand.const (Value.int (IntKind.i64) 1)), guard := none },
  { dst := some 8, op := SOp.mv (Operand.tmp 18), guard := none }]
def c80_l0 : SCode := (.seq (.reg c80_r2 [0, 1, 7, 8, 9]) (.seq (.cond (Operand.tmp 9) .skip (.exit 0)) (.seq (.block 1 (.seq (.reg c80_r3 [0, 1, 5, 7, 8]) (.seq (.reg c80_r4 [0, 1, 5, 7, 8, 16]) (.cond (Operand.tmp 16) (.seq (.reg c80_r5 [4]) .ret) .skip)))) (.reg c80_r6 [0, 1, 7, 8]))))
def c80_r7 : List SIns := [
  { dst := some 4, op := SOp.mv (Operand.const (Value.int (IntKind.i64) (-1))), guard := none }]
def c80 : SCode := (.seq (.reg c80_r0 [0, 1]) (.seq (.seq (.reg c80_r1 [0, 1, 7, 8]) (.block 0 (.loop c80_l0))) (.seq (.reg c80_r7 [4]) .ret)))
theorem F80 : Fn Try.prog 80 c80 [SRes.tmp 4] 19 := ⟨Try.f80, Try.f80.body.getD .skip, [[0, 1], [0, 1, 7, 8], [0, 1, 7, 8, 9], [0, 1, 5, 7, 8], [0, 1, 5, 7, 8, 16], [4], [0, 1, 7, 8], [4]], Try.func80, by kernel_rfl, by kernel_rfl, by kernel_rfl, by kernel_rfl, by decide⟩

-- 53 bellarmine/walk.divisor
def c53_r0 : List SIns := [
  { dst := some 4, op := SOp.mv (Operand.const (Value.int (IntKind.i64) 0)), guard := none }]
def c53_r1 : List SIns := [
  { dst := some 5, op := SOp.mv (Operand.tmp 1), guard := none },
  { dst := some 6, op := SOp.ib (BinOp.neq) (Operand.tmp 5) (Operand.const (Value.int (IntKind.i64) 0)), guard := none }]
def c53_r2 : List SIns := [
  { dst := some 7, op := SOp.mv (Operand.tmp 1), guard := none },
  { dst := some 8, op := SOp.mv (Operand.tmp 0), guard := none },
  { dst := some 9, op := SOp.mv (Operand.tmp 1), guard := none },
  { dst := some 10, op := SOp.ib (BinOp.rem) (Operand.tmp 8) (Operand.tmp 9), guard := none },
  { dst := some 0, op := SOp.mv (Operand.tmp 7), guard := none },
  { dst := some 1, op := SOp.mv (Operand.tmp 10), guard := none }]
def c53_l0 : SCode := (.seq (.seq (.reg c53_r1 [0, 1, 6]) (.cond (Operand.tmp 6) .skip (.exit 0))) (.block 1 (.draw c53_r2 [[], [], [], [1, 2], [0, 0, 1], [3, 4, 0, 1, 2, 3, 4, 1, 2, 0, 0, 1, 1, 2, 0, 0, 1]] [0, 1])))
def c53_r3 : List SIns := [
  { dst := some 11, op := SOp.mv (Operand.tmp 0), guard := none },
  { dst := some 4, op := SOp.mv (Operand.tmp 11), guard := none }]
def c53 : SCode := (.seq (.reg c53_r0 [0, 1]) (.seq (.block 0 (.loop c53_l0)) (.seq (.reg c53_r3 [4]) .ret)))
theorem F53 : Fn Try.prog 53 c53 [SRes.tmp 4] 12 := ⟨Try.f53, Try.f53.body.getD .skip, [[0, 1], [0, 1, 6], [0, 1], [4]], Try.func53, by kernel_rfl, by kernel_rfl, by kernel_rfl, by kernel_rfl, by decide⟩

-- 17 bellarmine/walk.Weight
def c17_r0 : List SIns := [
  { dst := some 2, op := SOp.mv (Operand.const (Value.int (IntKind.i64) 0)), guard := none },
  { dst := some 3, op := SOp.mv (Operand.const (Value.int (IntKind.i64) 0)), guard := none },
  { dst := some 4, op := SOp.mv (Operand.const (Value.int (IntKind.i64) 0)), guard := none }]
def c17_r1 : List SIns := [
  { dst := some 9, op := SOp.mv (Operand.tmp 0), guard := none },
  { dst := some 10, op := SOp.call 23 [Operand.tmp 9], guard := none },
  { dst := some 5, op := SOp.mv (Operand.tmp 10), guard := none }]
def c17_r2 : List SIns := [
  { dst := some 11, op := SOp.mv (Operand.tmp 5), guard := none },
  { dst := some 12, op := SOp.ib (BinOp.neq) (Operand.tmp 11) (Operand.const (Value.int (IntKind.i64) 0)), guard := none }]
def c17_r3 : List SIns := [
  { dst := some 13, op := SOp.mv (Operand.tmp 5), guard := none },
  { dst := some 2, op := SOp.mv (Operand.const (Value.int (IntKind.i64) 0)), guard := none },
  { dst := some 3, op := SOp.mv (Operand.const (Value.int (IntKind.i64) 0)), guard := none },
  { dst := some 4, op := SOp.mv (Operand.tmp 13), guard := none }]
def c17_r4 : List SIns := [
  { dst := some 2, op := SOp.mv (Operand.const (Value.int (IntKind.i64) 0)), guard := none },
  { dst := some 3, op := SOp.mv (Operand.const (Value.int (IntKind.i64) 1)), guard := none }]
def c17_r5 : List SIns := [
  { dst := some 14, op := SOp.mv (Operand.tmp 0), guard := none },
  { dst := some 15, op := SOp.lenSl (Operand.tmp 14), guard := none },
  { dst := some 16, op := SOp.mv (Operand.const (Value.int (IntKind.i64) 0)), guard := none }]
def c17_r6 : List SIns := [
  { dst := some 17, op := SOp.ib (BinOp.lss) (Operand.tmp 16) (Operand.tmp 15), guard := none }]
def c17_r7 : List SIns := [
  { dst := some 18, op := SOp.idx 1 (Operand.tmp 14) (Operand.tmp 16), guard := none },
  { dst := some 19, op := SOp.load1 (Operand.tmp 18), guard := none },
  { dst := some 7, op := SOp.mv (Operand.tmp 19), guard := none }]
def c17_r8 : List SIns := [
  { dst := some 20, op := SOp.mv (Operand.tmp 2), guard := none },
  { dst := some 21, op := SOp.mv (Operand.tmp 7), guard := none },
  { dst := some 22, op := SOp.ib (BinOp.mul) (Operand.tmp 20) (Operand.tmp 21), guard := none },
  { dst := some 23, op := SOp.mv (Operand.tmp 3), guard := none },
  { dst := some 24, op := SOp.ib (BinOp.add) (Operand.tmp 22) (Operand.tmp 23), guard := none },
  { dst := some 25, op := SOp.mv (Operand.tmp 3), guard := none },
  { dst := some 26, op := SOp.mv (Operand.tmp 7), guard := none },
  { dst := some 27, op := SOp.ib (BinOp.mul) (Operand.tmp 25) (Operand.tmp 26), guard := none },
  { dst := some 2, op := SOp.mv (Operand.tmp 24), guard := none },
  { dst := some 3, op := SOp.mv (Operand.tmp 27), guard := none }]
def c17_r9 : List SIns := [
  { dst := some 28, op := SOp.mv (Operand.tmp 2), guard := none },
  { dst := some 29, op := SOp.mv (Operand.tmp 3), guard := none },
  { dst := some 30, op := SOp.call 53 [Operand.tmp 28, Operand.tmp 29], guard := none },
  { dst := some 8, op := SOp.mv (Operand.tmp 30), guard := none }]
def c17_r10 : List SIns := [
  { dst := some 31, op := SOp.mv (Operand.tmp 2), guard := none },
  { dst := some 32, op := SOp.mv (Operand.tmp 8), guard := none },
  { dst := some 33, op := SOp.ib (BinOp.quo) (Operand.tmp 31) (Operand.tmp 32), guard := none },
  { dst := some 34, op := SOp.mv (Operand.tmp 3), guard := none },
  { dst := some 35, op := SOp.mv (Operand.tmp 8), guard := none },
  { dst := some 36, op := SOp.ib (BinOp.quo) (Operand.tmp 34) (Operand.tmp 35), guard := none },
  { dst := some 2, op := SOp.mv (Operand.tmp 33), guard := none },
  { dst := some 3, op := SOp.mv (Operand.tmp 36), guard := none }]
def c17_r11 : List SIns := [
  { dst := some 37, op := SOp.ib (BinOp.add) (Operand.tmp 16) (Operand.const (Value.int (IntKind.i64) 1)), guard := none },
  { dst := some 16, op := SOp.mv (Operand.tmp 37), guard := none }]
def c17_l0 : SCode := (.seq (.reg c17_r6 [2, 3, 14, 15, 16, 17]) (.seq (.cond (Operand.tmp 17) .skip (.exit 0)) (.seq (.block 1 (.seq (.reg c17_r7 [2, 3, 7, 14, 15, 16]) (.seq (.reg c17_r8 [2, 3, 14, 15, 16]) (.seq (.reg c17_r9 [2, 3, 8, 14, 15, 16]) (.draw c17_r10 [[], [], [0, 1], [], [], [3, 4], [2, 0, 1, 2, 0, 1, 0, 1], [5, 6, 0, 1, 2, 3, 4, 5, 6, 3, 4, 2, 0, 1, 2, 0, 1, 0, 1, 0, 1, 3, 4, 2, 0, 1, 2, 0, 1, 0, 1]] [2, 3, 14, 15, 16]))))) (.reg c17_r11 [2, 3, 14, 15, 16]))))
def c17_r12 : List SIns := [
  { dst := some 38, op := SOp.mv (Operand.tmp 2), guard := none },
  { dst := some 39, op := SOp.mv (Operand.tmp 3), guard := none },
  { dst := some 2, op := SOp.mv (Operand.tmp 38), guard := none },
  { dst := some 3, op := SOp.mv (Operand.tmp 39), guard := none },
  { dst := some 4, op := SOp.mv (Operand.const (Value.int (IntKind.i64) 0)), guard := none }]
def c17 : SCode := (.seq (.reg c17_r0 [0]) (.seq (.seq (.reg c17_r1 [0, 5]) (.seq (.reg c17_r2 [0, 5, 12]) (.cond (Operand.tmp 12) (.seq (.reg c17_r3 [2, 3, 4]) .ret) .skip))) (.seq (.reg c17_r4 [0, 2, 3]) (.seq (.seq (.reg c17_r5 [2, 3, 14, 15, 16]) (.block 0 (.loop c17_l0))) (.seq (.reg c17_r12 [2, 3, 4]) .ret)))))
theorem F17 : Fn Try.prog 17 c17 [SRes.tmp 2, SRes.tmp 3, SRes.tmp 4] 40 := ⟨Try.f17, Try.f17.body.getD .skip, [[0], [0, 5], [0, 5, 12], [2, 3, 4], [0, 2, 3], [2, 3, 14, 15, 16], [2, 3, 14, 15, 16, 17], [2, 3, 7, 14, 15, 16], [2, 3, 14, 15, 16], [2, 3, 8, 14, 15, 16], [2, 3, 14, 15, 16], [2, 3, 14, 15, 16], [2, 3, 4]], Try.func17, by kernel_rfl, by kernel_rfl, by kernel_rfl, by kernel_rfl, by decide⟩

-- 24 bellarmine/bellarmineref08.Check
def c24_r0 : List SIns := [
  { dst := some 2, op := SOp.mv (Operand.const (Value.int (IntKind.i64) 0)), guard := none }]
def c24_r1 : List SIns := [
  { dst := some 4, op := SOp.mv (Operand.tmp 0), guard := none },
  { dst := some 5, op := SOp.lenSl (Operand.tmp 4), guard := none },
  { dst := some 6, op := SOp.ib (BinOp.eql) (Operand.tmp 5) (Operand.const (Value.int (IntKind.i64) 0)), guard := none }]
def c24_r2 : List SIns := [
  { dst := some 2, op := SOp.mv (Operand.const (Value.int (IntKind.i64) 4)), guard := none }]
def c24_r3 : List SIns := [
  { dst := some 7, op := SOp.mv (Operand.tmp 0), guard := none },
  { dst := some 8, op := SOp.lenSl (Operand.tmp 7), guard := none },
  { dst := some 9, op := SOp.ib (BinOp.gtr) (Operand.tmp 8) (Operand.const (Value.int (IntKind.i64) 4)), guard := none }]
def c24_r4 : List SIns := [
  { dst := some 2, op := SOp.mv (Operand.const (Value.int (IntKind.i64) 3)), guard := none }]
def c24_r5 : List SIns := [
  { dst := some 3, op := SOp.mv (Operand.const (Value.int (IntKind.i64) 0)), guard := none }]
def c24_r6 : List SIns := [
  { dst := some 10, op := SOp.mv (Operand.tmp 3), guard := none },
  { dst := some 11, op := SOp.mv (Operand.tmp 0), guard := none },
  { dst := some 12, op := SOp.lenSl (Operand.tmp 11), guard := none },
  { dst := some 13, op := SOp.ib (BinOp.lss) (Operand.tmp 10) (Operand.tmp 12), guard := none }]
def c24_r7 : List SIns := [
  { dst := some 16, op := SOp.mv (Operand.tmp 0), guard := none },
  { dst := some 17, op := SOp.mv (Operand.tmp 3), guard := none },
  { dst := some 18, op := SOp.idx 1 (Operand.tmp 16) (Operand.tmp 17), guard := none },
  { dst := some 19, op := SOp.load1 (Operand.tmp 18), guard := none },
  { dst := some 20, op := SOp.call 61 [Operand.tmp 19, Operand.const (Value.int (IntKind.i64) 1), Operand.const (Value.int (IntKind.i64) 8)], guard := none },
  { dst := some 21, op := SOp.nt (Operand.tmp 20), guard := none }]
def c24_r8 : List SIns := [
  { dst := some 2, op := SOp.mv (Operand.const (Value.int (IntKind.i64) 1)), guard := none }]
def c24_r9 : List SIns := [
  { dst := some 14, op := SOp.mv (Operand.tmp 3), guard := none },
  { dst := some 15, op := SOp.ib (BinOp.add) (Operand.tmp 14) (Operand.const (Value.int (IntKind.i64) 1)), guard := none },
  { dst := some 3, op := SOp.mv (Operand.tmp 15), guard := none }]
def c24_l0 : SCode := (.seq (.seq (.reg c24_r6 [0, 3, 13]) (.cond (Operand.tmp 13) .skip (.exit 0))) (.seq (.block 1 (.seq (.reg c24_r7 [0, 3, 21]) (.cond (Operand.tmp 21) (.seq (.reg c24_r8 [2]) .ret) .skip))) (.reg c24_r9 [0, 3])))
def c24_r10 : List SIns := [
  { dst := some 2, op := SOp.mv (Operand.const (Value.int (IntKind.i64) 0)), guard := none }]
def c24 : SCode := (.seq (.reg c24_r0 [0]) (.seq (.seq (.reg c24_r1 [0, 6]) (.cond (Operand.tmp 6) (.seq (.reg c24_r2 [2]) .ret) .skip)) (.seq (.seq (.reg c24_r3 [0, 9]) (.cond (Operand.tmp 9) (.seq (.reg c24_r4 [2]) .ret) .skip)) (.seq (.seq (.reg c24_r5 [0, 3]) (.block 0 (.loop c24_l0))) (.seq (.reg c24_r10 [2]) .ret)))))
theorem F24 : Fn Try.prog 24 c24 [SRes.tmp 2] 22 := ⟨Try.f24, Try.f24.body.getD .skip, [[0], [0, 6], [2], [0, 9], [2], [0, 3], [0, 3, 13], [0, 3, 21], [2], [0, 3], [2]], Try.func24, by kernel_rfl, by kernel_rfl, by kernel_rfl, by kernel_rfl, by decide⟩

-- 61 bellarmine/bellarmineref08.in
def c61_r0 : List SIns := [
  { dst := some 6, op := SOp.mv (Operand.const (Value.bool false)), guard := none }]
def c61_r1 : List SIns := [
  { dst := some 7, op := SOp.mv (Operand.tmp 0), guard := none },
  { dst := some 8, op := SOp.mv (Operand.tmp 1), guard := none },
  { dst := some 9, op := SOp.ib (BinOp.geq) (Operand.tmp 7) (Operand.tmp 8), guard := none },
  { dst := some 10, op := SOp.mv (Operand.tmp 9), guard := none },
  { dst := some 11, op := SOp.mv (Operand.tmp 0), guard := some (10, true) },
  { dst := some 12, op := SOp.mv (Operand.tmp 2), guard := some (10, true) },
  { dst := some 13, op := SOp.ib (BinOp.leq) (Operand.tmp 11) (Operand.tmp 12), guard := some (10, true) },
  { dst := some 14, op := SOp.pick (Operand.tmp 10) (Operand.tmp 13) (Operand.const (Value.bool false)), guard := none },
  { dst := some 6, op := SOp.mv (Operand.tmp 14), guard := none }]
def c61 : SCode := (.seq (.reg c61_r0 [0, 1, 2]) (.seq (.reg c61_r1 [6]) .ret))
theorem F61 : Fn Try.prog 61 c61 [SRes.tmp 6] 15 := ⟨Try.f61, Try.f61.body.getD .skip, [[0, 1, 2], [6]], Try.func61, by kernel_rfl, by kernel_rfl, by kernel_rfl, by kernel_rfl, by decide⟩

-- 18 bellarmine/bellarmineref08.Weight
def c18_r0 : List SIns := [
  { dst := some 2, op := SOp.mv (Operand.const (Value.int (IntKind.i64) 0)), guard := none },
  { dst := some 3, op := SOp.mv (Operand.const (Value.int (IntKind.i64) 0)), guard := none },
  { dst := some 4, op := SOp.mv (Operand.const (Value.int (IntKind.i64) 0)), guard := none }]
def c18_r1 : List SIns := [
  { dst := some 10, op := SOp.mv (Operand.tmp 0), guard := none },
  { dst := some 11, op := SOp.call 24 [Operand.tmp 10], guard := none },
  { dst := some 5, op := SOp.mv (Operand.tmp 11), guard := none }]
def c18_r2 : List SIns := [
  { dst := some 12, op := SOp.mv (Operand.tmp 5), guard := none },
  { dst := some 13, op := SOp.ib (BinOp.neq) (Operand.tmp 12) (Operand.const (Value.int (IntKind.i64) 0)), guard := none }]
def c18_r3 : List SIns := [
  { dst := some 14, op := SOp.mv (Operand.tmp 5), guard := none },
  { dst := some 2, op := SOp.mv (Operand.const (Value.int (IntKind.i64) 0)), guard := none },
  { dst := some 3, op := SOp.mv (Operand.const (Value.int (IntKind.i64) 0)), guard := none },
  { dst := some 4, op := SOp.mv (Operand.tmp 14), guard := none }]
def c18_r4 : List SIns := [
  { dst := some 6, op := SOp.mv (Operand.const (Value.int (IntKind.i64) 0)), guard := none },
  { dst := some 7, op := SOp.mv (Operand.const (Value.int (IntKind.i64) 840)), guard := none }]
def c18_r5 : List SIns := [
  { dst := some 8, op := SOp.mv (Operand.const (Value.int (IntKind.i64) 0)), guard := none }]
def c18_r6 : List SIns := [
  { dst := some 15, op := SOp.mv (Operand.tmp 8), guard := none },
  { dst := some 16, op := SOp.mv (Operand.tmp 0), guard := none },
  { dst := some 17, op := SOp.lenSl (Operand.tmp 16), guard := none },
  { dst := some 18, op := SOp.ib (BinOp.lss) (Operand.tmp 15) (Operand.tmp 17), guard := none }]
def c18_r7 : List SIns := [
  { dst := some 21, op := SOp.mv (Operand.tmp 6), guard := none },
  { dst := some 22, op := SOp.mv (Operand.tmp 0), guard := none },
  { dst := some 23, op := SOp.mv (Operand.tmp 8), guard := none },
  { dst := some 24, op := SOp.idx 1 (Operand.tmp 22) (Operand.tmp 23), guard := none },
  { dst := some 25, op := SOp.load1 (Operand.tmp 24), guard := none },
  { dst := some 26, op := SOp.ib (BinOp.quo) (Operand.const (Value.int (IntKind.i64) 840)) (Operand.tmp 25), guard := none },
  { dst := some 27, op := SOp.ib (BinOp.add) (Operand.tmp 21) (Operand.tmp 26), guard := none },
  { dst := some 6, op := SOp.mv (Operand.tmp 27), guard := none }]
def c18_r8 : List SIns := [
  { dst := some 19, op := SOp.mv (Operand.tmp 8), guard := none },
  { dst := some 20, op := SOp.ib (BinOp.add) (Operand.tmp 19) (Operand.const (Value.int (IntKind.i64) 1)), guard := none },
  { dst := some 8, op := SOp.mv (Operand.tmp 20), guard := none }]
def c18_l0 : SCode := (.seq (.seq (.reg c18_r6 [0, 6, 7, 8, 18]) (.cond (Operand.tmp 18) .skip (.exit 0))) (.seq (.block 1 (.reg c18_r7 [0, 6, 7, 8])) (.reg c18_r8 [0, 6, 7, 8])))
def c18_r9 : List SIns := [
  { dst := some 9, op := SOp.mv (Operand.const (Value.int (IntKind.i64) 840)), guard := none }]
def c18_r10 : List SIns := [
  { dst := some 28, op := SOp.mv (Operand.tmp 9), guard := none },
  { dst := some 29, op := SOp.ib (BinOp.gtr) (Operand.tmp 28) (Operand.const (Value.int (IntKind.i64) 1)), guard := none }]
def c18_r11 : List SIns := [
  { dst := some 32, op := SOp.mv (Operand.tmp 6), guard := none },
  { dst := some 33, op := SOp.mv (Operand.tmp 9), guard := none },
  { dst := some 34, op := SOp.ib (BinOp.rem) (Operand.tmp 32) (Operand.tmp 33), guard := none },
  { dst := some 35, op := SOp.ib (BinOp.eql) (Operand.tmp 34) (Operand.const (Value.int (IntKind.i64) 0)), guard := none },
  { dst := some 36, op := SOp.mv (Operand.tmp 35), guard := none },
  { dst := some 37, op := SOp.mv (Operand.tmp 7), guard := some (36, true) },
  { dst := some 38, op := SOp.mv (Operand.tmp 9), guard := some (36, true) },
  { dst := some 39, op := SOp.ib (BinOp.rem) (Operand.tmp 37) (Operand.tmp 38), guard := some (36, true) },
  { dst := some 40, op := SOp.ib (BinOp.eql) (Operand.tmp 39) (Operand.const (Value.int (IntKind.i64) 0)), guard := some (36, true) },
  { dst := some 41, op := SOp.pick (Operand.tmp 36) (Operand.tmp 40) (Operand.const (Value.bool false)), guard := none }]
def c18_r12 : List SIns := [
  { dst := some 42, op := SOp.mv (Operand.tmp 6), guard := none },
  { dst := some 43, op := SOp.mv (Operand.tmp 9), guard := none },
  { dst := some 44, op := SOp.ib (BinOp.quo) (Operand.tmp 42) (Operand.tmp 43), guard := none },
  { dst := some 45, op := SOp.mv (Operand.tmp 7), guard := none },
  { dst := some 46, op := SOp.mv (Operand.tmp 9), guard := none },
  { dst := some 47, op := SOp.ib (BinOp.quo) (Operand.tmp 45) (Operand.tmp 46), guard := none },
  { dst := some 6, op := SOp.mv (Operand.tmp 44), guard := none },
  { dst := some 7, op := SOp.mv (Operand.tmp 47), guard := none }]
def c18_r13 : List SIns := [
  { dst := some 30, op := SOp.mv (Operand.tmp 9), guard := none },
  { dst := some 31, op := SOp.ib (BinOp.sub) (Operand.tmp 30) (Operand.const (Value.int (IntKind.i64) 1)), guard := none },
  { dst := some 9, op := SOp.mv (Operand.tmp 31), guard := none }]
def c18_l1 : SCode := (.seq (.seq (.reg c18_r10 [6, 7, 9, 29]) (.cond (Operand.tmp 29) .skip (.exit 2))) (.seq (.block 3 (.seq (.reg c18_r11 [6, 7, 9, 41]) (.cond (Operand.tmp 41) (.draw c18_r12 [[], [], [0, 1], [], [], [3, 4], [2, 0, 1, 2, 0, 1, 0, 1], [5, 6, 0, 1, 2, 3, 4, 5, 6, 3, 4, 2, 0, 1, 2, 0, 1, 0, 1, 0, 1, 3, 4, 2, 0, 1, 2, 0, 1, 0, 1]] [6, 7, 9]) .skip))) (.reg c18_r13 [6, 7, 9])))
def c18_r14 : List SIns := [
  { dst := some 48, op := SOp.mv (Operand.tmp 6), guard := none },
  { dst := some 49, op := SOp.mv (Operand.tmp 7), guard := none },
  { dst := some 2, op := SOp.mv (Operand.tmp 48), guard := none },
  { dst := some 3, op := SOp.mv (Operand.tmp 49), guard := none },
  { dst := some 4, op := SOp.mv (Operand.const (Value.int (IntKind.i64) 0)), guard := none }]
def c18 : SCode := (.seq (.reg c18_r0 [0]) (.seq (.reg c18_r1 [0, 5]) (.seq (.seq (.reg c18_r2 [0, 5, 13]) (.cond (Operand.tmp 13) (.seq (.reg c18_r3 [2, 3, 4]) .ret) .skip)) (.seq (.reg c18_r4 [0, 6, 7]) (.seq (.seq (.reg c18_r5 [0, 6, 7, 8]) (.block 0 (.loop c18_l0))) (.seq (.seq (.reg c18_r9 [6, 7, 9]) (.block 2 (.loop c18_l1))) (.seq (.reg c18_r14 [2, 3, 4]) .ret)))))))
theorem F18 : Fn Try.prog 18 c18 [SRes.tmp 2, SRes.tmp 3, SRes.tmp 4] 50 := ⟨Try.f18, Try.f18.body.getD .skip, [[0], [0, 5], [0, 5, 13], [2, 3, 4], [0, 6, 7], [0, 6, 7, 8], [0, 6, 7, 8, 18], [0, 6, 7, 8], [0, 6, 7, 8], [6, 7, 9], [6, 7, 9, 29], [6, 7, 9, 41], [6, 7, 9], [6, 7, 9], [2, 3, 4]], Try.func18, by kernel_rfl, by kernel_rfl, by kernel_rfl, by kernel_rfl, by decide⟩

-- 77 (*bellarmine/walk.shore).meet
def c77_r0 : List SIns := [
  { dst := some 4, op := SOp.box (Operand.tmp 1), guard := none },
  { dst := some 6, op := SOp.alloc [Value.int (IntKind.i64) 0, Value.int (IntKind.i64) 0, Value.int (IntKind.i64) 0, Value.int (IntKind.i64) 0], guard := none },
  { dst := some 7, op := SOp.mv (Operand.const (Value.bool false)), guard := none }]
def c77_r1 : List SIns := [
  { dst := some 9, op := SOp.mv (Operand.tmp 0), guard := none },
  { dst := some 10, op := SOp.nilck (Operand.tmp 9), guard := none },
  { dst := some 11, op := SOp.off 0 (Operand.tmp 10), guard := none },
  { dst := some 12, op := SOp.load1 (Operand.tmp 11), guard := none },
  { dst := some 13, op := SOp.lenSl (Operand.tmp 12), guard := none },
  { dst := some 14, op := SOp.mv (Operand.const (Value.int (IntKind.i64) 0)), guard := none }]
def c77_r2 : List SIns := [
  { dst := some 15, op := SOp.ib (BinOp.lss) (Operand.tmp 14) (Operand.tmp 13), guard := none }]
def c77_r3 : List SIns := [
  { dst := some 16, op := SOp.mv (Operand.tmp 14), guard := none },
  { dst := some 8, op := SOp.mv (Operand.tmp 16), guard := none }]
def c77_r4 : List SIns := [
  { dst := some 17, op := SOp.mv (Operand.tmp 8), guard := none },
  { dst := some 18, op := SOp.idxA 4 1 (Operand.tmp 4) (Operand.tmp 17), guard := none },
  { dst := some 19, op := SOp.load1 (Operand.tmp 18), guard := none },
  { dst := some 20, op := SOp.ib (BinOp.sub) (Operand.tmp 19) (Operand.const (Value.int (IntKind.i64) 1)), guard := none },
  { dst := some 21, op := SOp.idxA 4 1 (Operand.tmp 4) (Operand.tmp 17), guard := none },
  { dst := none, op := SOp.store 1 (Operand.tmp 21) (Operand.tmp 20), guard := none }]
def c77_r5 : List SIns := [
  { dst := some 22, op := SOp.mv (Operand.tmp 8), guard := none },
  { dst := some 23, op := SOp.mv (Operand.tmp 2), guard := none },
  { dst := some 24, op := SOp.ib (BinOp.neq) (Operand.tmp 22) (Operand.tmp 23), guard := none },
  { dst := some 25, op := SOp.mv (Operand.tmp 24), guard := none },
  { dst := some 26, op := SOp.mv (Operand.tmp 8), guard := some (25, true) },
  { dst := some 27, op := SOp.idxA 4 1 (Operand.tmp 4) (Operand.tmp 26), guard := some (25, true) },
  { dst := some 28, op := SOp.load1 (Operand.tmp 27), guard := some (25, true) },
  { dst := some 29, op := SOp.ib (BinOp.eql) (Operand.tmp 28) (Operand.const (Value.int (IntKind.i64) 0)), guard := some (25, true) },
  { dst := some 30, op := SOp.pick (Operand.tmp 25) (Operand.tmp 29) (Operand.const (Value.bool false)), guard := none }]
def c77_r6 : List SIns := [
  { dst := some 31, op := SOp.build [Value.int (IntKind.i64) 0, Value.int (IntKind.i64) 0, Value.int (IntKind.i64) 0, Value.int (IntKind.i64) 0] [], guard := none },
  { dst := none, op := SOp.store 4 (Operand.tmp 6) (Operand.tmp 31), guard := none },
  { dst := some 7, op := SOp.mv (Operand.const (Value.bool false)), guard := none }]
def c77_r7 : List SIns := [
  { dst := some 32, op := SOp.ib (BinOp.add) (Operand.tmp 14) (Operand.const (Value.int (IntKind.i64) 1)), guard := none },
  { dst := some 14, op := SOp.mv (Operand.tmp 32), guard := none }]
def c77_l0 : SCode := (.seq (.reg c77_r2 [0, 2, 4, 6, 13, 14, 15]) (.seq (.cond (Operand.tmp 15) .skip (.exit 0)) (.seq (.block 1 (.seq (.reg c77_r3 [0, 2, 4, 6, 8, 13, 14]) (.seq (.reg c77_r4 [0, 2, 4, 6, 8, 13, 14]) (.seq (.reg c77_r5 [0, 2, 4, 6, 13, 14, 30]) (.cond (Operand.tmp 30) (.seq (.reg c77_r6 [6, 7]) .ret) .skip))))) (.reg c77_r7 [0, 2, 4, 6, 13, 14]))))
def c77_r8 : List SIns := [
  { dst := some 33, op := SOp.mv (Operand.tmp 2), guard := none },
  { dst := some 34, op := SOp.mv (Operand.tmp 0), guard := none },
  { dst := some 35, op := SOp.nilck (Operand.tmp 34), guard := none },
  { dst := some 36, op := SOp.off 0 (Operand.tmp 35), guard := none },
  { dst := some 37, op := SOp.load1 (Operand.tmp 36), guard := none },
  { dst := some 38, op := SOp.mv (Operand.tmp 2), guard := none },
  { dst := some 39, op := SOp.idx 1 (Operand.tmp 37) (Operand.tmp 38), guard := none },
  { dst := some 40, op := SOp.load1 (Operand.tmp 39), guard := none },
  { dst := some 41, op := SOp.idxA 4 1 (Operand.tmp 4) (Operand.tmp 33), guard := none },
  { dst := none, op := SOp.store 1 (Operand.tmp 41) (Operand.tmp 40), guard := none }]
def c77_r9 : List SIns := [
  { dst := some 42, op := SOp.loadN 4 (Operand.tmp 4), guard := none },
  { dst := none, op := SOp.store 4 (Operand.tmp 6) (Operand.tmp 42), guard := none },
  { dst := some 7, op := SOp.mv (Operand.const (Value.bool true)), guard := none }]
def c77 : SCode := (.seq (.reg c77_r0 [0, 2, 4, 6]) (.seq (.seq (.reg c77_r1 [0, 2, 4, 6, 13, 14]) (.block 0 (.loop c77_l0))) (.seq (.reg c77_r8 [4, 6]) (.seq (.reg c77_r9 [6, 7]) .ret))))
theorem F77 : Fn Try.prog 77 c77 [SRes.cell 6 (some 4), SRes.tmp 7] 43 := ⟨Try.f77, Try.f77.body.getD .skip, [[0, 2, 4, 6], [0, 2, 4, 6, 13, 14], [0, 2, 4, 6, 13, 14, 15], [0, 2, 4, 6, 8, 13, 14], [0, 2, 4, 6, 8, 13, 14], [0, 2, 4, 6, 13, 14, 30], [6, 7], [0, 2, 4, 6, 13, 14], [4, 6], [6, 7]], Try.func77, by kernel_rfl, by kernel_rfl, by kernel_rfl, by kernel_rfl, by decide⟩

-- 55 (*bellarmine/walk.shore).goes
def c55_r0 : List SIns := [
  { dst := some 3, op := SOp.box (Operand.tmp 1), guard := none },
  { dst := some 4, op := SOp.mv (Operand.const (Value.bool false)), guard := none }]
def c55_r1 : List SIns := [
  { dst := some 12, op := SOp.mv (Operand.tmp 0), guard := none },
  { dst := some 13, op := SOp.nilck (Operand.tmp 12), guard := none },
  { dst := some 14, op := SOp.off 5 (Operand.tmp 13), guard := none },
  { dst := some 15, op := SOp.load1 (Operand.tmp 14), guard := none },
  { dst := some 16, op := SOp.loadN 4 (Operand.tmp 3), guard := none },
  { dst := some 17, op := SOp.look (KTy.ar 4 (IntKind.i64)) (Value.bool false) true (Operand.tmp 15) (Operand.tmp 16), guard := none },
  { dst := some 11, op := SOp.mv (Operand.tmp 17), guard := none },
  { dst := some 18, op := SOp.ext (Operand.tmp 11) 0, guard := none },
  { dst := some 19, op := SOp.ext (Operand.tmp 11) 1, guard := none },
  { dst := some 5, op := SOp.mv (Operand.tmp 18), guard := none },
  { dst := some 6, op := SOp.mv (Operand.tmp 19), guard := none }]
def c55_r2 : List SIns := [
  { dst := some 20, op := SOp.mv (Operand.tmp 6), guard := none }]
def c55_r3 : List SIns := [
  { dst := some 21, op := SOp.mv (Operand.tmp 5), guard := none },
  { dst := some 4, op := SOp.mv (Operand.tmp 21), guard := none }]
def c55_r4 : List SIns := [
  { dst := some 22, op := SOp.mv (Operand.tmp 0), guard := none },
  { dst := some 23, op := SOp.nilck (Operand.tmp 22), guard := none },
  { dst := some 24, op := SOp.off 5 (Operand.tmp 23), guard := none },
  { dst := some 25, op := SOp.load1 (Operand.tmp 24), guard := none },
  { dst := some 26, op := SOp.loadN 4 (Operand.tmp 3), guard := none },
  { dst := none, op := SOp.mset (KTy.ar 4 (IntKind.i64)) (Operand.tmp 25) (Operand.tmp 26) (Operand.const (Value.bool true)), guard := none }]
def c55_r5 : List SIns := [
  { dst := some 7, op := SOp.mv (Operand.const (Value.int (IntKind.i64) 0)), guard := none }]
def c55_r6 : List SIns := [
  { dst := some 27, op := SOp.mv (Operand.tmp 0), guard := none },
  { dst := some 28, op := SOp.nilck (Operand.tmp 27), guard := none },
  { dst := some 29, op := SOp.off 0 (Operand.tmp 28), guard := none },
  { dst := some 30, op := SOp.load1 (Operand.tmp 29), guard := none },
  { dst := some 31, op := SOp.lenSl (Operand.tmp 30), guard := none },
  { dst := some 32, op := SOp.mv (Operand.const (Value.int (IntKind.i64) 0)), guard := none }]
def c55_r7 : List SIns := [
  { dst := some 33, op := SOp.ib (BinOp.lss) (Operand.tmp 32) (Operand.tmp 31), guard := none }]
def c55_r8 : List SIns := [
  { dst := some 34, op := SOp.mv (Operand.tmp 32), guard := none },
  { dst := some 8, op := SOp.mv (Operand.tmp 34), guard := none }]
def c55_r9 : List SIns := [
  { dst := some 36, op := SOp.mv (Operand.tmp 0), guard := none },
  { dst := some 37, op := SOp.loadN 4 (Operand.tmp 3), guard := none },
  { dst := some 38, op := SOp.mv (Operand.tmp 8), guard := none },
  { dst := some 39, op := SOp.call 77 [Operand.tmp 36, Operand.tmp 37, Operand.tmp 38], guard := none },
  { dst := some 35, op := SOp.mv (Operand.tmp 39), guard := none },
  { dst := some 40, op := SOp.ext (Operand.tmp 35) 0, guard := none },
  { dst := some 41, op := SOp.ext (Operand.tmp 35) 1, guard := none },
  { dst := some 9, op := SOp.alloc [Value.int (IntKind.i64) 0, Value.int (IntKind.i64) 0, Value.int (IntKind.i64) 0, Value.int (IntKind.i64) 0], guard := none },
  { dst := none, op := SOp.store 4 (Operand.tmp 9) (Operand.tmp 40), guard := none },
  { dst := some 10, op := SOp.mv (Operand.tmp 41), guard := none }]
def c55_r10 : List SIns := [
  { dst := some 42, op := SOp.mv (Operand.tmp 10), guard := none },
  { dst := some 43, op := SOp.nt (Operand.tmp 42), guard := none }]
def c55_r11 : List SIns := [
  { dst := some 44, op := SOp.mv (Operand.tmp 0), guard := none },
  { dst := some 45, op := SOp.loadN 4 (Operand.tmp 9), guard := none },
  { dst := some 46, op := SOp.call 55 [Operand.tmp 44, Operand.tmp 45], guard := none }]
def c55_r12 : List SIns := [
  { dst := some 4, op := SOp.mv (Operand.const (Value.bool true)), guard := none }]
def c55_r13 : List SIns := [
  { dst := some 47, op := SOp.mv (Operand.tmp 7), guard := none },
  { dst := some 48, op := SOp.mv (Operand.tmp 0), guard := none },
  { dst := some 49, op := SOp.nilck (Operand.tmp 48), guard := none },
  { dst := some 50, op := SOp.off 6 (Operand.tmp 49), guard := none },
  { dst := some 51, op := SOp.load1 (Operand.tmp 50), guard := none },
  { dst := some 52, op := SOp.loadN 4 (Operand.tmp 9), guard := none },
  { dst := some 53, op := SOp.look (KTy.ar 4 (IntKind.i64)) (Value.int (IntKind.i64) 0) false (Operand.tmp 51) (Operand.tmp 52), guard := none },
  { dst := some 54, op := SOp.ib (BinOp.add) (Operand.const (Value.int (IntKind.i64) 1)) (Operand.tmp 53), guard := none },
  { dst := some 55, op := SOp.big true [Operand.tmp 47, Operand.tmp 54], guard := none },
  { dst := some 7, op := SOp.mv (Operand.tmp 55), guard := none }]
def c55_r14 : List SIns := [
  { dst := some 56, op := SOp.ib (BinOp.add) (Operand.tmp 32) (Operand.const (Value.int (IntKind.i64) 1)), guard := none },
  { dst := some 32, op := SOp.mv (Operand.tmp 56), guard := none }]
def c55_l0 : SCode := (.seq (.reg c55_r7 [0, 3, 7, 31, 32, 33]) (.seq (.cond (Operand.tmp 33) .skip (.exit 0)) (.seq (.block 1 (.seq (.reg c55_r8 [0, 3, 7, 8, 31, 32]) (.seq (.reg c55_r9 [0, 3, 7, 9, 10, 31, 32]) (.seq (.seq (.reg c55_r10 [0, 3, 7, 9, 31, 32, 43]) (.cond (Operand.tmp 43) (.exit 1) .skip)) (.seq (.seq (.reg c55_r11 [0, 3, 7, 9, 31, 32, 46]) (.cond (Operand.tmp 46) (.seq (.reg c55_r12 [4]) .ret) .skip)) (.draw c55_r13 [[], [], [1], [2, 1], [3, 2, 1], [], [4, 5, 3, 2, 1], [6, 4, 5, 3, 2, 1], [0, 7, 6, 4, 5, 3, 2, 1], [8, 0, 1, 2, 3, 4, 5, 6, 7, 8, 0, 7, 6, 4, 5, 3, 2, 1, 1, 2, 1, 3, 2, 1, 4, 5, 3, 2, 1, 6, 4, 5, 3, 2, 1, 0, 7, 6, 4, 5, 3, 2, 1]] [0, 3, 7, 31, 32])))))) (.reg c55_r14 [0, 3, 7, 31, 32]))))
def c55_r15 : List SIns := [
  { dst := some 57, op := SOp.mv (Operand.tmp 0), guard := none },
  { dst := some 58, op := SOp.nilck (Operand.tmp 57), guard := none },
  { dst := some 59, op := SOp.off 5 (Operand.tmp 58), guard := none },
  { dst := some 60, op := SOp.load1 (Operand.tmp 59), guard := none },
  { dst := some 61, op := SOp.loadN 4 (Operand.tmp 3), guard := none },
  { dst := some 62, op := SOp.mv (Operand.tmp 0), guard := none },
  { dst := some 63, op := SOp.nilck (Operand.tmp 62), guard := none },
  { dst := some 64, op := SOp.off 6 (Operand.tmp 63), guard := none },
  { dst := some 65, op := SOp.load1 (Operand.tmp 64), guard := none },
  { dst := some 66, op := SOp.loadN 4 (Operand.tmp 3), guard := none },
  { dst := some 67, op := SOp.mv (Operand.tmp 7), guard := none },
  { dst := some 68, op := SOp.ment (KTy.ar 4 (IntKind.i64)) (Value.bool false) (Operand.tmp 60) (Operand.tmp 61), guard := none },
  { dst := some 69, op := SOp.ext (Operand.tmp 68) 1, guard := none },
  { dst := none, op := SOp.mst (Operand.tmp 60) (Operand.tmp 69) (Operand.const (Value.bool false)), guard := none },
  { dst := some 70, op := SOp.ment (KTy.ar 4 (IntKind.i64)) (Value.int (IntKind.i64) 0) (Operand.tmp 65) (Operand.tmp 66), guard := none },
  { dst := some 71, op := SOp.ext (Operand.tmp 70) 1, guard := none },
  { dst := none, op := SOp.mst (Operand.tmp 65) (Operand.tmp 71) (Operand.tmp 67), guard := none }]
def c55_r16 : List SIns := [
  { dst := some 4, op := SOp.mv (Operand.const (Value.bool false)), guard := none }]
def c55 : SCode := (.seq (.reg c55_r0 [0, 3]) (.seq (.seq (.draw c55_r1 [[], [0], [1, 0], [2, 1, 0], [], [3, 4, 2, 1, 0], [5, 3, 4, 2, 1, 0], [6, 5, 3, 4, 2, 1, 0], [6, 5, 3, 4, 2, 1, 0], [7, 0, 1, 2, 3, 4, 5, 6, 7, 6, 5, 3, 4, 2, 1, 0, 0, 1, 0, 2, 1, 0, 3, 4, 2, 1, 0, 5, 3, 4, 2, 1, 0, 6, 5, 3, 4, 2, 1, 0], [8, 9, 0, 1, 2, 3, 4, 5, 6, 7, 8, 9, 6, 5, 3, 4, 2, 1, 0, 7, 0, 1, 2, 3, 4, 5, 6, 7, 6, 5, 3, 4, 2, 1, 0, 0, 1, 0, 2, 1, 0, 3, 4, 2, 1, 0, 5, 3, 4, 2, 1, 0, 6, 5, 3, 4, 2, 1, 0, 0, 1, 0, 2, 1, 0, 3, 4, 2, 1, 0, 5, 3, 4, 2, 1, 0, 6, 5, 3, 4, 2, 1, 0, 6, 5, 3, 4, 2, 1, 0, 7, 0, 1, 2, 3, 4, 5, 6, 7, 6, 5, 3, 4, 2, 1, 0, 0, 1, 0, 2, 1, 0, 3, 4, 2, 1, 0, 5, 3, 4, 2, 1, 0, 6, 5, 3, 4, 2, 1, 0]] [0, 3, 5, 6]) (.seq (.reg c55_r2 [0, 3, 5, 20]) (.cond (Operand.tmp 20) (.seq (.reg c55_r3 [4]) .ret) .skip))) (.seq (.draw c55_r4 [[], [0], [1, 0], [2, 1, 0], [], [3, 4, 0, 1, 2, 3, 4, 2, 1, 0, 0, 1, 0, 2, 1, 0]] [0, 3]) (.seq (.reg c55_r5 [0, 3, 7]) (.seq (.seq (.reg c55_r6 [0, 3, 7, 31, 32]) (.block 0 (.loop c55_l0))) (.seq (.draw c55_r15 [[], [0], [1, 0], [2, 1, 0], [], [], [5], [6, 5], [7, 6, 5], [], [], [3, 4, 8, 2, 1, 0, 7, 6, 5], [11, 3, 4, 8, 2, 1, 0, 7, 6, 5], [3, 12, 11, 0, 1, 2, 3, 4, 8, 11, 2, 1, 0, 11, 3, 4, 8, 2, 1, 0, 7, 6, 5, 3, 4, 8, 2, 1, 0, 7, 6, 5, 0, 1, 0, 2, 1, 0, 7, 6, 5, 3, 4, 8, 2, 1, 0, 7, 6, 5], [8, 9, 13, 0, 1, 2, 3, 4, 8, 11, 12, 13, 7, 6, 5, 3, 12, 11, 0, 1, 2, 3, 4, 8, 11, 2, 1, 0, 11, 3, 4, 8, 2, 1, 0, 7, 6, 5, 3, 4, 8, 2, 1, 0, 7, 6, 5, 0, 1, 0, 2, 1, 0, 7, 6, 5, 3, 4, 8, 2, 1, 0, 7, 6, 5, 0, 1, 0, 2, 1, 0, 7, 6, 5, 3, 4, 8, 2, 1, 0, 7, 6, 5, 11, 3, 4, 8, 2, 1, 0, 7, 6, 5, 3, 12, 11, 0, 1, 2, 3, 4, 8, 11, 2, 1, 0, 11, 3, 4, 8, 2, 1, 0, 7, 6, 5, 3, 4, 8, 2, 1, 0, 7, 6, 5, 0, 1, 0, 2, 1, 0, 7, 6, 5, 3, 4, 8, 2, 1, 0, 7, 6, 5], [14, 8, 9, 13, 0, 1, 2, 3, 4, 8, 11, 12, 13, 7, 6, 5, 3, 12, 11, 0, 1, 2, 3, 4, 8, 11, 2, 1, 0, 11, 3, 4, 8, 2, 1, 0, 7, 6, 5, 3, 4, 8, 2, 1, 0, 7, 6, 5, 0, 1, 0, 2, 1, 0, 7, 6, 5, 3, 4, 8, 2, 1, 0, 7, 6, 5, 0, 1, 0, 2, 1, 0, 7, 6, 5, 3, 4, 8, 2, 1, 0, 7, 6, 5, 11, 3, 4, 8, 2, 1, 0, 7, 6, 5, 3, 12, 11, 0, 1, 2, 3, 4, 8, 11, 2, 1, 0, 11, 3, 4, 8, 2, 1, 0, 7, 6, 5, 3, 4, 8, 2, 1, 0, 7, 6, 5, 0, 1, 0, 2, 1, 0, 7, 6, 5, 3, 4, 8, 2, 1, 0, 7, 6, 5], [8, 15, 10, 14, 0, 1, 2, 3, 4, 5, 6, 7, 8, 9, 10, 11, 12, 13, 14, 7, 6, 5, 14, 8, 9, 13, 0, 1, 2, 3, 4, 8, 11, 12, 13, 7, 6, 5, 3, 12, 11, 0, 1, 2, 3, 4, 8, 11, 2, 1, 0, 11, 3, 4, 8, 2, 1, 0, 7, 6, 5, 3, 4, 8, 2, 1, 0, 7, 6, 5, 0, 1, 0, 2, 1, 0, 7, 6, 5, 3, 4, 8, 2, 1, 0, 7, 6, 5, 0, 1, 0, 2, 1, 0, 7, 6, 5, 3, 4, 8, 2, 1, 0, 7, 6, 5, 11, 3, 4, 8, 2, 1, 0, 7, 6, 5, 3, 12, 11, 0, 1, 2, 3, 4, 8, 11, 2, 1, 0, 11, 3, 4, 8, 2, 1, 0, 7, 6, 5, 3, 4, 8, 2, 1, 0, 7, 6, 5, 0, 1, 0, 2, 1, 0, 7, 6, 5, 3, 4, 8, 2, 1, 0, 7, 6, 5, 8, 9, 13, 0, 1, 2, 3, 4, 8, 11, 12, 13, 7, 6, 5, 3, 12, 11, 0, 1, 2, 3, 4, 8, 11, 2, 1, 0, 11, 3, 4, 8, 2, 1, 0, 7, 6, 5, 3, 4, 8, 2, 1, 0, 7, 6, 5, 0, 1, 0, 2, 1, 0, 7, 6, 5, 3, 4, 8, 2, 1, 0, 7, 6, 5, 0, 1, 0, 2, 1, 0, 7, 6, 5, 3, 4, 8, 2, 1, 0, 7, 6, 5, 11, 3, 4, 8, 2, 1, 0, 7, 6, 5, 3, 12, 11, 0, 1, 2, 3, 4, 8, 11, 2, 1, 0, 11, 3, 4, 8, 2, 1, 0, 7, 6, 5, 3, 4, 8, 2, 1, 0, 7, 6, 5, 0, 1, 0, 2, 1, 0, 7, 6, 5, 3, 4, 8, 2, 1, 0, 7, 6, 5, 0, 1, 0, 2, 1, 0, 5, 6, 5, 7, 6, 5, 3, 4, 8, 2, 1, 0, 7, 6, 5, 11, 3, 4, 8, 2, 1, 0, 7, 6, 5, 3, 12, 11, 0, 1, 2, 3, 4, 8, 11, 2, 1, 0, 11, 3, 4, 8, 2, 1, 0, 7, 6, 5, 3, 4, 8, 2, 1, 0, 7, 6, 5, 0, 1, 0, 2, 1, 0, 7, 6, 5, 3, 4, 8, 2, 1, 0, 7, 6, 5, 8, 9, 13, 0, 1, 2, 3, 4, 8, 11, 12, 13, 7, 6, 5, 3, 12, 11, 0, 1, 2, 3, 4, 8, 11, 2, 1, 0, 11, 3, 4, 8, 2, 1, 0, 7, 6, 5, 3, 4, 8, 2, 1, 0, 7, 6, 5, 0, 1, 0, 2, 1, 0, 7, 6, 5, 3, 4, 8, 2, 1, 0, 7, 6, 5, 0, 1, 0, 2, 1, 0, 7, 6, 5, 3, 4, 8, 2, 1, 0, 7, 6, 5, 11, 3, 4, 8, 2, 1, 0, 7, 6, 5, 3, 12, 11, 0, 1, 2, 3, 4, 8, 11, 2, 1, 0, 11, 3, 4, 8, 2, 1, 0, 7, 6, 5, 3, 4, 8, 2, 1, 0, 7, 6, 5, 0, 1, 0, 2, 1, 0, 7, 6, 5, 3, 4, 8, 2, 1, 0, 7, 6, 5]] []) (.seq (.reg c55_r16 [4]) .ret)))))))
theorem F55 : Fn Try.prog 55 c55 [SRes.tmp 4] 72 := ⟨Try.f55, Try.f55.body.getD .skip, [[0, 3], [0, 3, 5, 6], [0, 3, 5, 20], [4], [0, 3], [0, 3, 7], [0, 3, 7, 31, 32], [0, 3, 7, 31, 32, 33], [0, 3, 7, 8, 31, 32], [0, 3, 7, 9, 10, 31, 32], [0, 3, 7, 9, 31, 32, 43], [0, 3, 7, 9, 31, 32, 46], [4], [0, 3, 7, 31, 32], [0, 3, 7, 31, 32], [], [4]], Try.func55, by kernel_rfl, by kernel_rfl, by kernel_rfl, by kernel_rfl, by decide⟩

-- 54 bellarmine/walk.opened
def c54_r0 : List SIns := [
  { dst := some 2, op := SOp.mv (Operand.const (Value.pointer none)), guard := none }]
def c54_r1 : List SIns := [
  { dst := some 4, op := SOp.mv (Operand.tmp 0), guard := none },
  { dst := some 5, op := SOp.mkmap, guard := none },
  { dst := some 6, op := SOp.mkmap, guard := none },
  { dst := some 7, op := SOp.build [Value.slice none 0 0, Value.int (IntKind.i64) 0, Value.int (IntKind.i64) 0, Value.int (IntKind.i64) 0, Value.int (IntKind.i64) 0, Value.map none, Value.map none] [(0, 1, Operand.tmp 4), (5, 1, Operand.tmp 5), (6, 1, Operand.tmp 6)], guard := none },
  { dst := some 8, op := SOp.box (Operand.tmp 7), guard := none },
  { dst := some 3, op := SOp.mv (Operand.tmp 8), guard := none }]
def c54_r2 : List SIns := [
  { dst := some 9, op := SOp.mv (Operand.tmp 3), guard := none },
  { dst := some 10, op := SOp.nilck (Operand.tmp 9), guard := none },
  { dst := some 11, op := SOp.off 1 (Operand.tmp 10), guard := none },
  { dst := some 12, op := SOp.slcA 4 1 (Operand.tmp 11) none none none, guard := none },
  { dst := some 13, op := SOp.mv (Operand.tmp 0), guard := none },
  { dst := some 14, op := SOp.copy 1 (Operand.tmp 12) (Operand.tmp 13), guard := none }]
def c54_r3 : List SIns := [
  { dst := some 15, op := SOp.mv (Operand.tmp 3), guard := none },
  { dst := some 2, op := SOp.mv (Operand.tmp 15), guard := none }]
def c54 : SCode := (.seq (.reg c54_r0 [0]) (.seq (.reg c54_r1 [0, 3]) (.seq (.reg c54_r2 [3]) (.seq (.reg c54_r3 [2]) .ret))))
theorem F54 : Fn Try.prog 54 c54 [SRes.tmp 2] 16 := ⟨Try.f54, Try.f54.body.getD .skip, [[0], [0, 3], [3], [2]], Try.func54, by kernel_rfl, by kernel_rfl, by kernel_rfl, by kernel_rfl, by decide⟩

-- 19 bellarmine/walk.Can
def c19_r0 : List SIns := [
  { dst := some 2, op := SOp.mv (Operand.const (Value.bool false)), guard := none },
  { dst := some 3, op := SOp.mv (Operand.const (Value.int (IntKind.i64) 0)), guard := none }]
def c19_r1 : List SIns := [
  { dst := some 6, op := SOp.mv (Operand.tmp 0), guard := none },
  { dst := some 7, op := SOp.call 23 [Operand.tmp 6], guard := none },
  { dst := some 4, op := SOp.mv (Operand.tmp 7), guard := none }]
def c19_r2 : List SIns := [
  { dst := some 8, op := SOp.mv (Operand.tmp 4), guard := none },
  { dst := some 9, op := SOp.ib (BinOp.neq) (Operand.tmp 8) (Operand.const (Value.int (IntKind.i64) 0)), guard := none }]
def c19_r3 : List SIns := [
  { dst := some 10, op := SOp.mv (Operand.tmp 4), guard := none },
  { dst := some 2, op := SOp.mv (Operand.const (Value.bool false)), guard := none },
  { dst := some 3, op := SOp.mv (Operand.tmp 10), guard := none }]
def c19_r4 : List SIns := [
  { dst := some 11, op := SOp.mv (Operand.tmp 0), guard := none },
  { dst := some 12, op := SOp.call 54 [Operand.tmp 11], guard := none },
  { dst := some 5, op := SOp.mv (Operand.tmp 12), guard := none }]
def c19_r5 : List SIns := [
  { dst := some 13, op := SOp.mv (Operand.tmp 5), guard := none },
  { dst := some 14, op := SOp.mv (Operand.tmp 5), guard := none },
  { dst := some 15, op := SOp.nilck (Operand.tmp 14), guard := none },
  { dst := some 16, op := SOp.off 1 (Operand.tmp 15), guard := none },
  { dst := some 17, op := SOp.loadN 4 (Operand.tmp 16), guard := none },
  { dst := some 18, op := SOp.call 55 [Operand.tmp 13, Operand.tmp 17], guard := none },
  { dst := some 2, op := SOp.mv (Operand.tmp 18), guard := none },
  { dst := some 3, op := SOp.mv (Operand.const (Value.int (IntKind.i64) 0)), guard := none }]
def c19 : SCode := (.seq (.reg c19_r0 [0]) (.seq (.seq (.reg c19_r1 [0, 4]) (.seq (.reg c19_r2 [0, 4, 9]) (.cond (Operand.tmp 9) (.seq (.reg c19_r3 [2, 3]) .ret) .skip))) (.seq (.reg c19_r4 [5]) (.seq (.reg c19_r5 [2, 3]) .ret))))
theorem F19 : Fn Try.prog 19 c19 [SRes.tmp 2, SRes.tmp 3] 19 := ⟨Try.f19, Try.f19.body.getD .skip, [[0], [0, 4], [0, 4, 9], [2, 3], [5], [2, 3]], Try.func19, by kernel_rfl, by kernel_rfl, by kernel_rfl, by kernel_rfl, by decide⟩

-- 21 bellarmine/walk.Longest
def c21_r0 : List SIns := [
  { dst := some 2, op := SOp.mv (Operand.const (Value.int (IntKind.i64) 0)), guard := none },
  { dst := some 3, op := SOp.mv (Operand.const (Value.int (IntKind.i64) 0)), guard := none }]
def c21_r1 : List SIns := [
  { dst := some 6, op := SOp.mv (Operand.tmp 0), guard := none },
  { dst := some 7, op := SOp.call 23 [Operand.tmp 6], guard := none },
  { dst := some 4, op := SOp.mv (Operand.tmp 7), guard := none }]
def c21_r2 : List SIns := [
  { dst := some 8, op := SOp.mv (Operand.tmp 4), guard := none },
  { dst := some 9, op := SOp.ib (BinOp.neq) (Operand.tmp 8) (Operand.const (Value.int (IntKind.i64) 0)), guard := none }]
def c21_r3 : List SIns := [
  { dst := some 10, op := SOp.mv (Operand.tmp 4), guard := none },
  { dst := some 2, op := SOp.mv (Operand.const (Value.int (IntKind.i64) 0)), guard := none },
  { dst := some 3, op := SOp.mv (Operand.tmp 10), guard := none }]
def c21_r4 : List SIns := [
  { dst := some 11, op := SOp.mv (Operand.tmp 0), guard := none },
  { dst := some 12, op := SOp.call 54 [Operand.tmp 11], guard := none },
  { dst := some 5, op := SOp.mv (Operand.tmp 12), guard := none }]
def c21_r5 : List SIns := [
  { dst := some 13, op := SOp.mv (Operand.tmp 5), guard := none },
  { dst := some 14, op := SOp.mv (Operand.tmp 5), guard := none },
  { dst := some 15, op := SOp.nilck (Operand.tmp 14), guard := none },
  { dst := some 16, op := SOp.off 1 (Operand.tmp 15), guard := none },
  { dst := some 17, op := SOp.loadN 4 (Operand.tmp 16), guard := none },
  { dst := some 18, op := SOp.call 55 [Operand.tmp 13, Operand.tmp 17], guard := none }]
def c21_r6 : List SIns := [
  { dst := some 2, op := SOp.mv (Operand.const (Value.int (IntKind.i64) 0)), guard := none },
  { dst := some 3, op := SOp.mv (Operand.const (Value.int (IntKind.i64) 13)), guard := none }]
def c21_r7 : List SIns := [
  { dst := some 19, op := SOp.mv (Operand.tmp 5), guard := none },
  { dst := some 20, op := SOp.nilck (Operand.tmp 19), guard := none },
  { dst := some 21, op := SOp.off 6 (Operand.tmp 20), guard := none },
  { dst := some 22, op := SOp.load1 (Operand.tmp 21), guard := none },
  { dst := some 23, op := SOp.mv (Operand.tmp 5), guard := none },
  { dst := some 24, op := SOp.nilck (Operand.tmp 23), guard := none },
  { dst := some 25, op := SOp.off 1 (Operand.tmp 24), guard := none },
  { dst := some 26, op := SOp.loadN 4 (Operand.tmp 25), guard := none },
  { dst := some 27, op := SOp.look (KTy.ar 4 (IntKind.i64)) (Value.int (IntKind.i64) 0) false (Operand.tmp 22) (Operand.tmp 26), guard := none },
  { dst := some 2, op := SOp.mv (Operand.tmp 27), guard := none },
  { dst := some 3, op := SOp.mv (Operand.const (Value.int (IntKind.i64) 0)), guard := none }]
def c21 : SCode := (.seq (.reg c21_r0 [0]) (.seq (.seq (.reg c21_r1 [0, 4]) (.seq (.reg c21_r2 [0, 4, 9]) (.cond (Operand.tmp 9) (.seq (.reg c21_r3 [2, 3]) .ret) .skip))) (.seq (.reg c21_r4 [5]) (.seq (.seq (.reg c21_r5 [5, 18]) (.cond (Operand.tmp 18) (.seq (.reg c21_r6 [2, 3]) .ret) .skip)) (.seq (.draw c21_r7 [[], [0], [1, 0], [2, 1, 0], [], [4], [5, 4], [6, 5, 4], [3, 7, 2, 1, 0, 6, 5, 4], [8, 0, 1, 2, 3, 4, 5, 6, 7, 8, 3, 7, 2, 1, 0, 6, 5, 4, 0, 1, 0, 2, 1, 0, 4, 5, 4, 6, 5, 4, 3, 7, 2, 1, 0, 6, 5, 4], [9, 0, 1, 2, 3, 4, 5, 6, 7, 8, 9, 8, 0, 1, 2, 3, 4, 5, 6, 7, 8, 3, 7, 2, 1, 0, 6, 5, 4, 0, 1, 0, 2, 1, 0, 4, 5, 4, 6, 5, 4, 3, 7, 2, 1, 0, 6, 5, 4, 0, 1, 0, 2, 1, 0, 4, 5, 4, 6, 5, 4, 3, 7, 2, 1, 0, 6, 5, 4, 8, 0, 1, 2, 3, 4, 5, 6, 7, 8, 3, 7, 2, 1, 0, 6, 5, 4, 0, 1, 0, 2, 1, 0, 4, 5, 4, 6, 5, 4, 3, 7, 2, 1, 0, 6, 5, 4]] [2, 3]) .ret)))))
theorem F21 : Fn Try.prog 21 c21 [SRes.tmp 2, SRes.tmp 3] 28 := ⟨Try.f21, Try.f21.body.getD .skip, [[0], [0, 4], [0, 4, 9], [2, 3], [5], [5, 18], [2, 3], [2, 3]], Try.func21, by kernel_rfl, by kernel_rfl, by kernel_rfl, by kernel_rfl, by decide⟩

-- 62 bellarmine/walk.walked
def c62_r0 : List SIns := [
  { dst := some 2, op := SOp.box (Operand.tmp 0), guard := none },
  { dst := some 4, op := SOp.mv (Operand.const (Value.pointer none)), guard := none },
  { dst := some 5, op := SOp.alloc [Value.int (IntKind.i64) 0, Value.int (IntKind.i64) 0, Value.int (IntKind.i64) 0, Value.int (IntKind.i64) 0], guard := none },
  { dst := some 6, op := SOp.mv (Operand.const (Value.int (IntKind.i64) 0)), guard := none }]
def c62_r1 : List SIns := [
  { dst := some 14, op := SOp.load1 (Operand.tmp 2), guard := none },
  { dst := some 15, op := SOp.call 23 [Operand.tmp 14], guard := none },
  { dst := some 7, op := SOp.mv (Operand.tmp 15), guard := none }]
def c62_r2 : List SIns := [
  { dst := some 17, op := SOp.mv (Operand.tmp 7), guard := none },
  { dst := some 18, op := SOp.ib (BinOp.neq) (Operand.tmp 17) (Operand.const (Value.int (IntKind.i64) 0)), guard := none },
  { dst := some 16, op := SOp.mv (Operand.tmp 18), guard := none }]
def c62_r3 : List SIns := [
  { dst := some 19, op := SOp.build [Value.int (IntKind.i64) 0, Value.int (IntKind.i64) 0, Value.int (IntKind.i64) 0, Value.int (IntKind.i64) 0] [], guard := none },
  { dst := some 20, op := SOp.mv (Operand.tmp 7), guard := none },
  { dst := some 4, op := SOp.mv (Operand.const (Value.pointer none)), guard := none },
  { dst := none, op := SOp.store 4 (Operand.tmp 5) (Operand.tmp 19), guard := none },
  { dst := some 6, op := SOp.mv (Operand.tmp 20), guard := none }]
def c62_r4 : List SIns := [
  { dst := some 22, op := SOp.mv (Operand.tmp 1), guard := none },
  { dst := some 23, op := SOp.lenSl (Operand.tmp 22), guard := none },
  { dst := some 24, op := SOp.ib (BinOp.gtr) (Operand.tmp 23) (Operand.const (Value.int (IntKind.i64) 60)), guard := none },
  { dst := some 21, op := SOp.mv (Operand.tmp 24), guard := none }]
def c62_r5 : List SIns := [
  { dst := some 25, op := SOp.build [Value.int (IntKind.i64) 0, Value.int (IntKind.i64) 0, Value.int (IntKind.i64) 0, Value.int (IntKind.i64) 0] [], guard := none },
  { dst := some 4, op := SOp.mv (Operand.const (Value.pointer none)), guard := none },
  { dst := none, op := SOp.store 4 (Operand.tmp 5) (Operand.tmp 25), guard := none },
  { dst := some 6, op := SOp.mv (Operand.const (Value.int (IntKind.i64) 19)), guard := none }]
def c62_r6 : List SIns := [
  { dst := some 27, op := SOp.mv (Operand.tmp 1), guard := none },
  { dst := some 28, op := SOp.mkfn (Fn.func 81) [] [Operand.tmp 2], guard := none },
  { dst := some 29, op := SOp.call 58 [Operand.tmp 27, Operand.tmp 28], guard := none },
  { dst := some 26, op := SOp.mv (Operand.tmp 29), guard := none }]
def c62_r7 : List SIns := [
  { dst := some 30, op := SOp.build [Value.int (IntKind.i64) 0, Value.int (IntKind.i64) 0, Value.int (IntKind.i64) 0, Value.int (IntKind.i64) 0] [], guard := none },
  { dst := some 4, op := SOp.mv (Operand.const (Value.pointer none)), guard := none },
  { dst := none, op := SOp.store 4 (Operand.tmp 5) (Operand.tmp 30), guard := none },
  { dst := some 6, op := SOp.mv (Operand.const (Value.int (IntKind.i64) 2)), guard := none }]
def c62_r8 : List SIns := [
  { dst := some 31, op := SOp.load1 (Operand.tmp 2), guard := none },
  { dst := some 32, op := SOp.call 54 [Operand.tmp 31], guard := none },
  { dst := some 8, op := SOp.mv (Operand.tmp 32), guard := none }]
def c62_r9 : List SIns := [
  { dst := some 33, op := SOp.mv (Operand.tmp 8), guard := none },
  { dst := some 34, op := SOp.nilck (Operand.tmp 33), guard := none },
  { dst := some 35, op := SOp.off 1 (Operand.tmp 34), guard := none },
  { dst := some 36, op := SOp.loadN 4 (Operand.tmp 35), guard := none },
  { dst := some 9, op := SOp.alloc [Value.int (IntKind.i64) 0, Value.int (IntKind.i64) 0, Value.int (IntKind.i64) 0, Value.int (IntKind.i64) 0], guard := none },
  { dst := none, op := SOp.store 4 (Operand.tmp 9) (Operand.tmp 36), guard := none }]
def c62_r10 : List SIns := [
  { dst := some 37, op := SOp.mv (Operand.tmp 1), guard := none },
  { dst := some 38, op := SOp.lenSl (Operand.tmp 37), guard := none },
  { dst := some 39, op := SOp.mv (Operand.const (Value.int (IntKind.i64) 0)), guard := none }]
def c62_r11 : List SIns := [
  { dst := some 40, op := SOp.ib (BinOp.lss) (Operand.tmp 39) (Operand.tmp 38), guard := none }]
def c62_r12 : List SIns := [
  { dst := some 41, op := SOp.idx 1 (Operand.tmp 37) (Operand.tmp 39), guard := none },
  { dst := some 42, op := SOp.load1 (Operand.tmp 41), guard := none },
  { dst := some 11, op := SOp.mv (Operand.tmp 42), guard := none }]
def c62_r13 : List SIns := [
  { dst := some 44, op := SOp.mv (Operand.tmp 8), guard := none },
  { dst := some 45, op := SOp.loadN 4 (Operand.tmp 9), guard := none },
  { dst := some 46, op := SOp.mv (Operand.tmp 11), guard := none },
  { dst := some 47, op := SOp.call 77 [Operand.tmp 44, Operand.tmp 45, Operand.tmp 46], guard := none },
  { dst := some 43, op := SOp.mv (Operand.tmp 47), guard := none },
  { dst := some 48, op := SOp.ext (Operand.tmp 43) 0, guard := none },
  { dst := some 49, op := SOp.ext (Operand.tmp 43) 1, guard := none },
  { dst := some 12, op := SOp.alloc [Value.int (IntKind.i64) 0, Value.int (IntKind.i64) 0, Value.int (IntKind.i64) 0, Value.int (IntKind.i64) 0], guard := none },
  { dst := none, op := SOp.store 4 (Operand.tmp 12) (Operand.tmp 48), guard := none },
  { dst := some 13, op := SOp.mv (Operand.tmp 49), guard := none }]
def c62_r14 : List SIns := [
  { dst := some 50, op := SOp.mv (Operand.tmp 13), guard := none },
  { dst := some 51, op := SOp.nt (Operand.tmp 50), guard := none }]
def c62_r15 : List SIns := [
  { dst := some 52, op := SOp.build [Value.int (IntKind.i64) 0, Value.int (IntKind.i64) 0, Value.int (IntKind.i64) 0, Value.int (IntKind.i64) 0] [], guard := none },
  { dst := some 4, op := SOp.mv (Operand.const (Value.pointer none)), guard := none },
  { dst := none, op := SOp.store 4 (Operand.tmp 5) (Operand.tmp 52), guard := none },
  { dst := some 6, op := SOp.mv (Operand.const (Value.int (IntKind.i64) 12)), guard := none }]
def c62_r16 : List SIns := [
  { dst := some 53, op := SOp.loadN 4 (Operand.tmp 12), guard := none },
  { dst := none, op := SOp.store 4 (Operand.tmp 9) (Operand.tmp 53), guard := none }]
def c62_r17 : List SIns := [
  { dst := some 54, op := SOp.ib (BinOp.add) (Operand.tmp 39) (Operand.const (Value.int (IntKind.i64) 1)), guard := none },
  { dst := some 39, op := SOp.mv (Operand.tmp 54), guard := none }]
def c62_l0 : SCode := (.seq (.reg c62_r11 [5, 8, 9, 37, 38, 39, 40]) (.seq (.cond (Operand.tmp 40) .skip (.exit 1)) (.seq (.block 2 (.seq (.reg c62_r12 [5, 8, 9, 11, 37, 38, 39]) (.seq (.reg c62_r13 [5, 8, 9, 12, 13, 37, 38, 39]) (.seq (.seq (.reg c62_r14 [5, 8, 9, 12, 37, 38, 39, 51]) (.cond (Operand.tmp 51) (.seq (.reg c62_r15 [4, 5, 6]) .ret) .skip)) (.reg c62_r16 [5, 8, 9, 37, 38, 39]))))) (.reg c62_r17 [5, 8, 9, 37, 38, 39]))))
def c62_r18 : List SIns := [
  { dst := some 55, op := SOp.mv (Operand.tmp 8), guard := none },
  { dst := some 56, op := SOp.loadN 4 (Operand.tmp 9), guard := none },
  { dst := some 4, op := SOp.mv (Operand.tmp 55), guard := none },
  { dst := none, op := SOp.store 4 (Operand.tmp 5) (Operand.tmp 56), guard := none },
  { dst := some 6, op := SOp.mv (Operand.const (Value.int (IntKind.i64) 0)), guard := none }]
def c62 : SCode := (.seq (.reg c62_r0 [1, 2, 5]) (.seq (.reg c62_r1 [1, 2, 5, 7]) (.seq (.block 0 (.seq (.reg c62_r2 [1, 2, 5, 7, 16]) (.cond (Operand.tmp 16) (.seq (.reg c62_r3 [4, 5, 6]) .ret) (.seq (.reg c62_r4 [1, 2, 5, 21]) (.cond (Operand.tmp 21) (.seq (.reg c62_r5 [4, 5, 6]) .ret) (.seq (.reg c62_r6 [1, 2, 5, 26]) (.cond (Operand.tmp 26) (.seq (.reg c62_r7 [4, 5, 6]) .ret) .skip))))))) (.seq (.reg c62_r8 [1, 5, 8]) (.seq (.reg c62_r9 [1, 5, 8, 9]) (.seq (.seq (.reg c62_r10 [5, 8, 9, 37, 38, 39]) (.block 1 (.loop c62_l0))) (.seq (.draw c62_r18 [[], [], [0, 0], [1, 2, 0, 1, 2, 0, 0, 0, 0], [3, 0, 1, 2, 3, 1, 2, 0, 1, 2, 0, 0, 0, 0, 0, 0, 1, 2, 0, 1, 2, 0, 0, 0, 0]] [4, 5, 6]) .ret)))))))
theorem F62 : Fn Try.prog 62 c62 [SRes.tmp 4, SRes.cell 5 (some 4), SRes.tmp 6] 57 := ⟨Try.f62, Try.f62.body.getD .skip, [[1, 2, 5], [1, 2, 5, 7], [1, 2, 5, 7, 16], [4, 5, 6], [1, 2, 5, 21], [4, 5, 6], [1, 2, 5, 26], [4, 5, 6], [1, 5, 8], [1, 5, 8, 9], [5, 8, 9, 37, 38, 39], [5, 8, 9, 37, 38, 39, 40], [5, 8, 9, 11, 37, 38, 39], [5, 8, 9, 12, 13, 37, 38, 39], [5, 8, 9, 12, 37, 38, 39, 51], [4, 5, 6], [5, 8, 9, 37, 38, 39], [5, 8, 9, 37, 38, 39], [4, 5, 6]], Try.func62, by kernel_rfl, by kernel_rfl, by kernel_rfl, by kernel_rfl, by decide⟩

-- 81 bellarmine/walk.walked$1
def c81_r0 : List SIns := [
  { dst := some 3, op := SOp.mv (Operand.const (Value.bool false)), guard := none }]
def c81_r1 : List SIns := [
  { dst := some 4, op := SOp.mv (Operand.tmp 0), guard := none },
  { dst := some 5, op := SOp.load1 (Operand.tmp 1), guard := none },
  { dst := some 6, op := SOp.lenSl (Operand.tmp 5), guard := none },
  { dst := some 7, op := SOp.ib (BinOp.sub) (Operand.tmp 6) (Operand.const (Value.int (IntKind.i64) 1)), guard := none },
  { dst := some 8, op := SOp.call 60 [Operand.const (Value.int (IntKind.i64) 0), Operand.tmp 4, Operand.tmp 7], guard := none },
  { dst := some 9, op := SOp.nt (Operand.tmp 8), guard := none },
  { dst := some 3, op := SOp.mv (Operand.tmp 9), guard := none }]
def c81 : SCode := (.seq (.reg c81_r0 [0, 1]) (.seq (.reg c81_r1 [3]) .ret))
theorem F81 : Fn Try.prog 81 c81 [SRes.tmp 3] 10 := ⟨Try.f81, Try.f81.body.getD .skip, [[0, 1], [3]], Try.func81, by kernel_rfl, by kernel_rfl, by kernel_rfl, by kernel_rfl, by decide⟩

-- 68 (*bellarmine/walk.shore).first
def c68_r0 : List SIns := [
  { dst := some 3, op := SOp.box (Operand.tmp 1), guard := none },
  { dst := some 4, op := SOp.mv (Operand.const (Value.int (IntKind.i64) 0)), guard := none },
  { dst := some 5, op := SOp.alloc [Value.int (IntKind.i64) 0, Value.int (IntKind.i64) 0, Value.int (IntKind.i64) 0, Value.int (IntKind.i64) 0], guard := none }]
def c68_r1 : List SIns := [
  { dst := some 9, op := SOp.mv (Operand.tmp 0), guard := none },
  { dst := some 10, op := SOp.nilck (Operand.tmp 9), guard := none },
  { dst := some 11, op := SOp.off 0 (Operand.tmp 10), guard := none },
  { dst := some 12, op := SOp.load1 (Operand.tmp 11), guard := none },
  { dst := some 13, op := SOp.lenSl (Operand.tmp 12), guard := none },
  { dst := some 14, op := SOp.mv (Operand.const (Value.int (IntKind.i64) 0)), guard := none }]
def c68_r2 : List SIns := [
  { dst := some 15, op := SOp.ib (BinOp.lss) (Operand.tmp 14) (Operand.tmp 13), guard := none }]
def c68_r3 : List SIns := [
  { dst := some 16, op := SOp.mv (Operand.tmp 14), guard := none },
  { dst := some 6, op := SOp.mv (Operand.tmp 16), guard := none }]
def c68_r4 : List SIns := [
  { dst := some 18, op := SOp.mv (Operand.tmp 0), guard := none },
  { dst := some 19, op := SOp.loadN 4 (Operand.tmp 3), guard := none },
  { dst := some 20, op := SOp.mv (Operand.tmp 6), guard := none },
  { dst := some 21, op := SOp.call 77 [Operand.tmp 18, Operand.tmp 19, Operand.tmp 20], guard := none },
  { dst := some 17, op := SOp.mv (Operand.tmp 21), guard := none },
  { dst := some 22, op := SOp.ext (Operand.tmp 17) 0, guard := none },
  { dst := some 23, op := SOp.ext (Operand.tmp 17) 1, guard := none },
  { dst := some 7, op := SOp.alloc [Value.int (IntKind.i64) 0, Value.int (IntKind.i64) 0, Value.int (IntKind.i64) 0, Value.int (IntKind.i64) 0], guard := none },
  { dst := none, op := SOp.store 4 (Operand.tmp 7) (Operand.tmp 22), guard := none },
  { dst := some 8, op := SOp.mv (Operand.tmp 23), guard := none }]
def c68_r5 : List SIns := [
  { dst := some 24, op := SOp.mv (Operand.tmp 8), guard := none },
  { dst := some 25, op := SOp.mv (Operand.tmp 24), guard := none },
  { dst := some 26, op := SOp.mv (Operand.tmp 0), guard := some (25, true) },
  { dst := some 27, op := SOp.loadN 4 (Operand.tmp 7), guard := some (25, true) },
  { dst := some 28, op := SOp.call 55 [Operand.tmp 26, Operand.tmp 27], guard := some (25, true) },
  { dst := some 29, op := SOp.pick (Operand.tmp 25) (Operand.tmp 28) (Operand.const (Value.bool false)), guard := none }]
def c68_r6 : List SIns := [
  { dst := some 30, op := SOp.mv (Operand.tmp 6), guard := none },
  { dst := some 31, op := SOp.loadN 4 (Operand.tmp 7), guard := none },
  { dst := some 4, op := SOp.mv (Operand.tmp 30), guard := none },
  { dst := none, op := SOp.store 4 (Operand.tmp 5) (Operand.tmp 31), guard := none }]
def c68_r7 : List SIns := [
  { dst := some 32, op := SOp.ib (BinOp.add) (Operand.tmp 14) (Operand.const (Value.int (IntKind.i64) 1)), guard := none },
  { dst := some 14, op := SOp.mv (Operand.tmp 32), guard := none }]
def c68_l0 : SCode := (.seq (.reg c68_r2 [0, 3, 5, 13, 14, 15]) (.seq (.cond (Operand.tmp 15) .skip (.exit 0)) (.seq (.block 1 (.seq (.reg c68_r3 [0, 3, 5, 6, 13, 14]) (.seq (.reg c68_r4 [0, 3, 5, 6, 7, 8, 13, 14]) (.seq (.reg c68_r5 [0, 3, 5, 6, 7, 13, 14, 29]) (.cond (Operand.tmp 29) (.seq (.draw c68_r6 [[], [], [0, 0], [1, 2, 0, 1, 2, 0, 0, 0, 0]] [4, 5]) .ret) .skip))))) (.reg c68_r7 [0, 3, 5, 13, 14]))))
def c68_r8 : List SIns := [
  { dst := some 33, op := SOp.loadN 4 (Operand.tmp 3), guard := none },
  { dst := some 4, op := SOp.mv (Operand.const (Value.int (IntKind.i64) (-1))), guard := none },
  { dst := none, op := SOp.store 4 (Operand.tmp 5) (Operand.tmp 33), guard := none }]
def c68 : SCode := (.seq (.reg c68_r0 [0, 3, 5]) (.seq (.seq (.reg c68_r1 [0, 3, 5, 13, 14]) (.block 0 (.loop c68_l0))) (.seq (.draw c68_r8 [[], [], [0, 1, 0, 1]] [4, 5]) .ret)))
theorem F68 : Fn Try.prog 68 c68 [SRes.tmp 4, SRes.cell 5 (some 4)] 34 := ⟨Try.f68, Try.f68.body.getD .skip, [[0, 3, 5], [0, 3, 5, 13, 14], [0, 3, 5, 13, 14, 15], [0, 3, 5, 6, 13, 14], [0, 3, 5, 6, 7, 8, 13, 14], [0, 3, 5, 6, 7, 13, 14, 29], [4, 5], [0, 3, 5, 13, 14], [4, 5]], Try.func68, by kernel_rfl, by kernel_rfl, by kernel_rfl, by kernel_rfl, by decide⟩

-- 25 bellarmine/walk.Left
def c25_r0 : List SIns := [
  { dst := some 4, op := SOp.mv (Operand.const (Value.slice none 0 0)), guard := none },
  { dst := some 5, op := SOp.mv (Operand.const (Value.int (IntKind.i64) 0)), guard := none }]
def c25_r1 : List SIns := [
  { dst := some 10, op := SOp.mv (Operand.tmp 0), guard := none },
  { dst := some 11, op := SOp.mv (Operand.tmp 1), guard := none },
  { dst := some 12, op := SOp.call 62 [Operand.tmp 10, Operand.tmp 11], guard := none },
  { dst := some 9, op := SOp.mv (Operand.tmp 12), guard := none },
  { dst := some 13, op := SOp.ext (Operand.tmp 9) 0, guard := none },
  { dst := some 14, op := SOp.ext (Operand.tmp 9) 1, guard := none },
  { dst := some 15, op := SOp.ext (Operand.tmp 9) 2, guard := none },
  { dst := some 7, op := SOp.alloc [Value.int (IntKind.i64) 0, Value.int (IntKind.i64) 0, Value.int (IntKind.i64) 0, Value.int (IntKind.i64) 0], guard := none },
  { dst := some 6, op := SOp.mv (Operand.tmp 13), guard := none },
  { dst := none, op := SOp.store 4 (Operand.tmp 7) (Operand.tmp 14), guard := none },
  { dst := some 8, op := SOp.mv (Operand.tmp 15), guard := none }]
def c25_r2 : List SIns := [
  { dst := some 16, op := SOp.mv (Operand.tmp 8), guard := none },
  { dst := some 17, op := SOp.ib (BinOp.neq) (Operand.tmp 16) (Operand.const (Value.int (IntKind.i64) 0)), guard := none }]
def c25_r3 : List SIns := [
  { dst := some 18, op := SOp.mv (Operand.tmp 8), guard := none },
  { dst := some 4, op := SOp.mv (Operand.const (Value.slice none 0 0)), guard := none },
  { dst := some 5, op := SOp.mv (Operand.tmp 18), guard := none }]
def c25_r4 : List SIns := [
  { dst := some 19, op := SOp.mv (Operand.tmp 0), guard := none },
  { dst := some 20, op := SOp.lenSl (Operand.tmp 19), guard := none },
  { dst := some 21, op := SOp.mv (Operand.tmp 0), guard := none },
  { dst := some 22, op := SOp.lenSl (Operand.tmp 21), guard := none },
  { dst := some 23, op := SOp.slcA 4 1 (Operand.tmp 7) none (some (Operand.tmp 20)) (some (Operand.tmp 22)), guard := none },
  { dst := some 4, op := SOp.mv (Operand.tmp 23), guard := none },
  { dst := some 5, op := SOp.mv (Operand.const (Value.int (IntKind.i64) 0)), guard := none }]
def c25 : SCode := (.seq (.reg c25_r0 [0, 1]) (.seq (.reg c25_r1 [0, 7, 8]) (.seq (.seq (.reg c25_r2 [0, 7, 8, 17]) (.cond (Operand.tmp 17) (.seq (.reg c25_r3 [4, 5]) .ret) .skip)) (.seq (.reg c25_r4 [4, 5]) .ret))))
theorem F25 : Fn Try.prog 25 c25 [SRes.tmp 4, SRes.tmp 5] 24 := ⟨Try.f25, Try.f25.body.getD .skip, [[0, 1], [0, 7, 8], [0, 7, 8, 17], [4, 5], [4, 5]], Try.func25, by kernel_rfl, by kernel_rfl, by kernel_rfl, by kernel_rfl, by decide⟩

-- 27 bellarmine/walk.Goes
def c27_r0 : List SIns := [
  { dst := some 4, op := SOp.mv (Operand.const (Value.bool false)), guard := none },
  { dst := some 5, op := SOp.mv (Operand.const (Value.int (IntKind.i64) 0)), guard := none }]
def c27_r1 : List SIns := [
  { dst := some 10, op := SOp.mv (Operand.tmp 0), guard := none },
  { dst := some 11, op := SOp.mv (Operand.tmp 1), guard := none },
  { dst := some 12, op := SOp.call 62 [Operand.tmp 10, Operand.tmp 11], guard := none },
  { dst := some 9, op := SOp.mv (Operand.tmp 12), guard := none },
  { dst := some 13, op := SOp.ext (Operand.tmp 9) 0, guard := none },
  { dst := some 14, op := SOp.ext (Operand.tmp 9) 1, guard := none },
  { dst := some 15, op := SOp.ext (Operand.tmp 9) 2, guard := none },
  { dst := some 7, op := SOp.alloc [Value.int (IntKind.i64) 0, Value.int (IntKind.i64) 0, Value.int (IntKind.i64) 0, Value.int (IntKind.i64) 0], guard := none },
  { dst := some 6, op := SOp.mv (Operand.tmp 13), guard := none },
  { dst := none, op := SOp.store 4 (Operand.tmp 7) (Operand.tmp 14), guard := none },
  { dst := some 8, op := SOp.mv (Operand.tmp 15), guard := none }]
def c27_r2 : List SIns := [
  { dst := some 16, op := SOp.mv (Operand.tmp 8), guard := none },
  { dst := some 17, op := SOp.ib (BinOp.eql) (Operand.tmp 16) (Operand.const (Value.int (IntKind.i64) 0)), guard := none },
  { dst := some 18, op := SOp.mv (Operand.tmp 17), guard := none },
  { dst := some 19, op := SOp.mv (Operand.tmp 6), guard := some (18, true) },
  { dst := some 20, op := SOp.loadN 4 (Operand.tmp 7), guard := some (18, true) },
  { dst := some 21, op := SOp.call 55 [Operand.tmp 19, Operand.tmp 20], guard := some (18, true) },
  { dst := some 22, op := SOp.pick (Operand.tmp 18) (Operand.tmp 21) (Operand.const (Value.bool false)), guard := none },
  { dst := some 23, op := SOp.mv (Operand.tmp 8), guard := none },
  { dst := some 4, op := SOp.mv (Operand.tmp 22), guard := none },
  { dst := some 5, op := SOp.mv (Operand.tmp 23), guard := none }]
def c27 : SCode := (.seq (.reg c27_r0 [0, 1]) (.seq (.reg c27_r1 [6, 7, 8]) (.seq (.reg c27_r2 [4, 5]) .ret)))
theorem F27 : Fn Try.prog 27 c27 [SRes.tmp 4, SRes.tmp 5] 24 := ⟨Try.f27, Try.f27.body.getD .skip, [[0, 1], [6, 7, 8], [4, 5]], Try.func27, by kernel_rfl, by kernel_rfl, by kernel_rfl, by kernel_rfl, by decide⟩

end Go.Sx.Wk
