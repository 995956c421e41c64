/- The codes of the functions, written by a program (Gen.lean), and that they are the functions'. No conditions. -/
import Derived.Test.YtmakepdccccmaaaSxN
import Derived.KernelRfl
import Derived.Test.YtmakepdccccmaaaProg
set_option linter.unusedVariables false
set_option maxRecDepth 100000
namespace Go.Sx.Wk
open Go Go.Sx Go.Proofs

def c11_r0 : List SIns := [
  { dst := some 1, op := SOp.box (Operand.tmp 0), guard := none },
  { dst := some 2, op := SOp.mv (Operand.const (Value.bool false)), guard := none }]
def c11_r1 : List SIns := [
  { dst := some 15, op := SOp.loadN 5 (Operand.tmp 1), guard := none },
  { dst := some 16, op := SOp.call 42 [Operand.tmp 15, Operand.const (Value.int (IntKind.i64) 4), Operand.const (Value.int (IntKind.i64) 5)], guard := none },
  { dst := some 3, op := SOp.mv (Operand.tmp 16), guard := none }]
def c11_r2 : List SIns := [
  { dst := some 17, op := SOp.mv (Operand.tmp 3), guard := none },
  { dst := some 18, op := SOp.lenSl (Operand.tmp 17), guard := none },
  { dst := some 4, op := SOp.alloc [Value.int (IntKind.i64) 0], guard := none },
  { dst := none, op := SOp.store 1 (Operand.tmp 4) (Operand.tmp 18), guard := none }]
def c11_r3 : List SIns := [
  { dst := some 19, op := SOp.load1 (Operand.tmp 4), guard := none },
  { dst := some 20, op := SOp.bin (BinOp.shl) 3 (Operand.const (Value.int (IntKind.i64) 1)) (Operand.tmp 19), guard := none },
  { dst := some 21, op := SOp.mk 1 (Value.bool false) (Operand.tmp 20) (Operand.tmp 20), guard := none },
  { dst := some 5, op := SOp.alloc [Value.slice none 0 0], guard := none },
  { dst := none, op := SOp.store 1 (Operand.tmp 5) (Operand.tmp 21), guard := none }]
def c11_r4 : List SIns := [
  { dst := some 6, op := SOp.mv (Operand.const (Value.int (IntKind.i64) 1)), guard := none }]
def c11_r5 : List SIns := [
  { dst := some 22, op := SOp.mv (Operand.tmp 6), guard := none },
  { dst := some 23, op := SOp.load1 (Operand.tmp 4), guard := none },
  { dst := some 24, op := SOp.bin (BinOp.shl) 3 (Operand.const (Value.int (IntKind.i64) 1)) (Operand.tmp 23), guard := none },
  { dst := some 25, op := SOp.ib (BinOp.lss) (Operand.tmp 22) (Operand.tmp 24), guard := none }]
def c11_r6 : List SIns := [
  { dst := some 7, op := SOp.mv (Operand.const (Value.slice none 0 0)), guard := none }]
def c11_r7 : List SIns := [
  { dst := some 28, op := SOp.mv (Operand.tmp 3), guard := none },
  { dst := some 29, op := SOp.lenSl (Operand.tmp 28), guard := none },
  { dst := some 30, op := SOp.mv (Operand.const (Value.int (IntKind.i64) 0)), guard := none }]
def c11_r8 : List SIns := [
  { dst := some 31, op := SOp.ib (BinOp.lss) (Operand.tmp 30) (Operand.tmp 29), guard := none }]
def c11_r9 : List SIns := [
  { dst := some 32, op := SOp.mv (Operand.tmp 30), guard := none },
  { dst := some 33, op := SOp.idx 1 (Operand.tmp 28) (Operand.tmp 30), guard := none },
  { dst := some 34, op := SOp.load1 (Operand.tmp 33), guard := none },
  { dst := some 8, op := SOp.mv (Operand.tmp 32), guard := none },
  { dst := some 9, op := SOp.mv (Operand.tmp 34), guard := none }]
def c11_r10 : List SIns := [
  { dst := some 35, op := SOp.mv (Operand.tmp 6), guard := none },
  { dst := some 36, op := SOp.mv (Operand.tmp 8), guard := none },
  { dst := some 37, op := SOp.bin (BinOp.shr) 3 (Operand.tmp 35) (Operand.tmp 36), guard := none },
  { dst := some 38, op := SOp.bin (BinOp.and) 3 (Operand.tmp 37) (Operand.const (Value.int (IntKind.i64) 1)), guard := none },
  { dst := some 39, op := SOp.ib (BinOp.eql) (Operand.tmp 38) (Operand.const (Value.int (IntKind.i64) 1)), guard := none }]
def c11_r11 : List SIns := [
  { dst := some 40, op := SOp.mv (Operand.tmp 7), guard := none },
  { dst := some 41, op := SOp.mv (Operand.tmp 9), guard := none },
  { dst := some 42, op := SOp.mks 1 1 [Value.int (IntKind.i64) 0] [(0, 1, Operand.tmp 41)], guard := none },
  { dst := some 43, op := SOp.app 1 8 (Operand.tmp 40) (Operand.tmp 42), guard := none },
  { dst := some 7, op := SOp.mv (Operand.tmp 43), guard := none }]
def c11_r12 : List SIns := [
  { dst := some 44, op := SOp.ib (BinOp.add) (Operand.tmp 30) (Operand.const (Value.int (IntKind.i64) 1)), guard := none },
  { dst := some 30, op := SOp.mv (Operand.tmp 44), guard := none }]
def c11_l0 : SCode := (.seq (.reg c11_r8 [3, 4, 5, 6, 7, 28, 29, 30, 31]) (.seq (.cond (Operand.tmp 31) .skip (.exit 2)) (.seq (.block 3 (.seq (.reg c11_r9 [3, 4, 5, 6, 7, 8, 9, 28, 29, 30]) (.seq (.reg c11_r10 [3, 4, 5, 6, 7, 9, 28, 29, 30, 39]) (.cond (Operand.tmp 39) (.reg c11_r11 [3, 4, 5, 6, 7, 28, 29, 30]) .skip)))) (.reg c11_r12 [3, 4, 5, 6, 7, 28, 29, 30]))))
def c11_r13 : List SIns := [
  { dst := some 45, op := SOp.load1 (Operand.tmp 5), guard := none },
  { dst := some 46, op := SOp.mv (Operand.tmp 6), guard := none },
  { dst := some 47, op := SOp.mv (Operand.tmp 7), guard := none },
  { dst := some 48, op := SOp.call 46 [Operand.tmp 47], guard := none },
  { dst := some 49, op := SOp.ib (BinOp.lss) (Operand.tmp 48) (Operand.const (Value.int (IntKind.i64) 0)), guard := none },
  { dst := some 50, op := SOp.idx 1 (Operand.tmp 45) (Operand.tmp 46), guard := none },
  { dst := none, op := SOp.store 1 (Operand.tmp 50) (Operand.tmp 49), guard := none }]
def c11_r14 : List SIns := [
  { dst := some 26, op := SOp.mv (Operand.tmp 6), guard := none },
  { dst := some 27, op := SOp.ib (BinOp.add) (Operand.tmp 26) (Operand.const (Value.int (IntKind.i64) 1)), guard := none },
  { dst := some 6, op := SOp.mv (Operand.tmp 27), guard := none }]
def c11_l1 : SCode := (.seq (.seq (.reg c11_r5 [3, 4, 5, 6, 25]) (.cond (Operand.tmp 25) .skip (.exit 0))) (.seq (.block 1 (.seq (.reg c11_r6 [3, 4, 5, 6, 7]) (.seq (.seq (.reg c11_r7 [3, 4, 5, 6, 7, 28, 29, 30]) (.block 2 (.loop c11_l0))) (.draw c11_r13 [[], [], [], [2], [3, 2], [0, 1, 0, 1, 2, 3, 4, 2, 3, 2], [5, 4, 3, 0, 1, 2, 3, 4, 0, 1, 0, 1, 2, 3, 4, 2, 3, 2, 3, 2, 2, 2, 3, 2]] [3, 4, 5, 6])))) (.reg c11_r14 [3, 4, 5, 6])))
def c11_r15 : List SIns := [
  { dst := some 10, op := SOp.alloc [Value.slice none 0 0], guard := none }]
def c11_r16 : List SIns := [
  { dst := some 11, op := SOp.alloc [Value.int (IntKind.i64) 0], guard := none },
  { dst := none, op := SOp.store 1 (Operand.tmp 11) (Operand.const (Value.int (IntKind.i64) 9)), guard := none }]
def c11_r17 : List SIns := [
  { dst := some 12, op := SOp.alloc [Value.nilFunc], guard := none }]
def c11_r18 : List SIns := [
  { dst := some 51, op := SOp.mkfn (Fn.func 47) [] [Operand.tmp 4, Operand.tmp 5, Operand.tmp 11, Operand.tmp 10, Operand.tmp 12], guard := none },
  { dst := none, op := SOp.store 1 (Operand.tmp 12) (Operand.tmp 51), guard := none }]
def c11_r19 : List SIns := [
  { dst := some 52, op := SOp.load1 (Operand.tmp 12), guard := none },
  { dst := some 53, op := SOp.callv (Operand.tmp 52) [Operand.const (Value.slice none 0 0), Operand.const (Value.int (IntKind.i64) 0)], guard := none }]
def c11_r20 : List SIns := [
  { dst := some 55, op := SOp.mv (Operand.tmp 3), guard := none },
  { dst := some 56, op := SOp.call 36 [Operand.tmp 55], guard := none },
  { dst := some 54, op := SOp.mv (Operand.tmp 56), guard := none },
  { dst := some 57, op := SOp.ext (Operand.tmp 54) 0, guard := none },
  { dst := some 58, op := SOp.ext (Operand.tmp 54) 1, guard := none },
  { dst := some 13, op := SOp.mv (Operand.tmp 57), guard := none },
  { dst := some 14, op := SOp.mv (Operand.tmp 58), guard := none }]
def c11_r21 : List SIns := [
  { dst := some 59, op := SOp.mv (Operand.tmp 14), guard := none },
  { dst := some 60, op := SOp.ib (BinOp.eql) (Operand.tmp 59) (Operand.const (Value.int (IntKind.i64) 0)), guard := none },
  { dst := some 61, op := SOp.mv (Operand.tmp 60), guard := none },
  { dst := some 62, op := SOp.mv (Operand.tmp 13), guard := some (61, true) },
  { dst := some 63, op := SOp.load1 (Operand.tmp 10), guard := some (61, true) },
  { dst := some 64, op := SOp.call 29 [Operand.tmp 62, Operand.tmp 63], guard := some (61, true) },
  { dst := some 65, op := SOp.pick (Operand.tmp 61) (Operand.tmp 64) (Operand.const (Value.bool false)), guard := none },
  { dst := some 66, op := SOp.mv (Operand.tmp 65), guard := none },
  { dst := some 67, op := SOp.call 16 [], guard := some (66, true) },
  { dst := some 68, op := SOp.pick (Operand.tmp 66) (Operand.tmp 67) (Operand.const (Value.bool false)), guard := none },
  { dst := some 2, op := SOp.mv (Operand.tmp 68), guard := none }]
def c11 : SCode := (.seq (.reg c11_r0 [1]) (.seq (.reg c11_r1 [3]) (.seq (.reg c11_r2 [3, 4]) (.seq (.reg c11_r3 [3, 4, 5]) (.seq (.seq (.reg c11_r4 [3, 4, 5, 6]) (.block 0 (.loop c11_l1))) (.seq (.reg c11_r15 [3, 4, 5, 10]) (.seq (.reg c11_r16 [3, 4, 5, 10, 11]) (.seq (.reg c11_r17 [3, 4, 5, 10, 11, 12]) (.seq (.reg c11_r18 [3, 10, 12]) (.seq (.reg c11_r19 [3, 10]) (.seq (.reg c11_r20 [10, 13, 14]) (.seq (.reg c11_r21 [2]) .ret))))))))))))
theorem F11 : Fn Try.prog 11 c11 [SRes.tmp 2] 69 := ⟨Try.f11, Try.f11.body.getD .skip, [[1], [3], [3, 4], [3, 4, 5], [3, 4, 5, 6], [3, 4, 5, 6, 25], [3, 4, 5, 6, 7], [3, 4, 5, 6, 7, 28, 29, 30], [3, 4, 5, 6, 7, 28, 29, 30, 31], [3, 4, 5, 6, 7, 8, 9, 28, 29, 30], [3, 4, 5, 6, 7, 9, 28, 29, 30, 39], [3, 4, 5, 6, 7, 28, 29, 30], [3, 4, 5, 6, 7, 28, 29, 30], [3, 4, 5, 6], [3, 4, 5, 6], [3, 4, 5, 10], [3, 4, 5, 10, 11], [3, 4, 5, 10, 11, 12], [3, 10, 12], [3, 10], [10, 13, 14], [2]], Try.func11, by kernel_rfl, by kernel_rfl, by kernel_rfl, by kernel_rfl, by decide⟩
end Go.Sx.Wk
set_option maxRecDepth 100000
namespace Go.Sx.Wk
open Go Go.Sx Go.Proofs

def c42_r0 : List SIns := [
  { dst := some 3, op := SOp.box (Operand.tmp 0), guard := none },
  { dst := some 6, op := SOp.mv (Operand.const (Value.slice none 0 0)), guard := none }]
def c42_r1 : List SIns := [
  { dst := some 7, op := SOp.mv (Operand.const (Value.slice none 0 0)), guard := none }]
def c42_r2 : List SIns := [
  { dst := some 10, op := SOp.off 1 (Operand.tmp 3), guard := none },
  { dst := some 11, op := SOp.off 0 (Operand.tmp 3), guard := none },
  { dst := some 12, op := SOp.load1 (Operand.tmp 11), guard := none },
  { dst := some 13, op := SOp.ci (IntKind.i64) (Operand.tmp 12), guard := none },
  { dst := some 14, op := SOp.mv (Operand.tmp 1), guard := none },
  { dst := some 15, op := SOp.ib (BinOp.rem) (Operand.tmp 13) (Operand.tmp 14), guard := none },
  { dst := some 16, op := SOp.ib (BinOp.add) (Operand.const (Value.int (IntKind.i64) 1)) (Operand.tmp 15), guard := none },
  { dst := some 17, op := SOp.slcA 4 1 (Operand.tmp 10) none (some (Operand.tmp 16)) none, guard := none },
  { dst := some 18, op := SOp.lenSl (Operand.tmp 17), guard := none },
  { dst := some 19, op := SOp.mv (Operand.const (Value.int (IntKind.i64) 0)), guard := none }]
def c42_r3 : List SIns := [
  { dst := some 20, op := SOp.ib (BinOp.lss) (Operand.tmp 19) (Operand.tmp 18), guard := none }]
def c42_r4 : List SIns := [
  { dst := some 21, op := SOp.idx 1 (Operand.tmp 17) (Operand.tmp 19), guard := none },
  { dst := some 22, op := SOp.load1 (Operand.tmp 21), guard := none },
  { dst := some 9, op := SOp.mv (Operand.tmp 22), guard := none }]
def c42_r5 : List SIns := [
  { dst := some 23, op := SOp.mv (Operand.tmp 7), guard := none },
  { dst := some 24, op := SOp.mv (Operand.tmp 9), guard := none },
  { dst := some 25, op := SOp.ci (IntKind.i64) (Operand.tmp 24), guard := none },
  { dst := some 26, op := SOp.mv (Operand.tmp 2), guard := none },
  { dst := some 27, op := SOp.ib (BinOp.rem) (Operand.tmp 25) (Operand.tmp 26), guard := none },
  { dst := some 28, op := SOp.ib (BinOp.add) (Operand.const (Value.int (IntKind.i64) 1)) (Operand.tmp 27), guard := none },
  { dst := some 29, op := SOp.mks 1 1 [Value.int (IntKind.i64) 0] [(0, 1, Operand.tmp 28)], guard := none },
  { dst := some 30, op := SOp.app 1 8 (Operand.tmp 23) (Operand.tmp 29), guard := none },
  { dst := some 7, op := SOp.mv (Operand.tmp 30), guard := none }]
def c42_r6 : List SIns := [
  { dst := some 31, op := SOp.ib (BinOp.add) (Operand.tmp 19) (Operand.const (Value.int (IntKind.i64) 1)), guard := none },
  { dst := some 19, op := SOp.mv (Operand.tmp 31), guard := none }]
def c42_l0 : SCode := (.seq (.reg c42_r3 [2, 7, 17, 18, 19, 20]) (.seq (.cond (Operand.tmp 20) .skip (.exit 0)) (.seq (.block 1 (.seq (.reg c42_r4 [2, 7, 9, 17, 18, 19]) (.reg c42_r5 [2, 7, 17, 18, 19]))) (.reg c42_r6 [2, 7, 17, 18, 19]))))
def c42_r7 : List SIns := [
  { dst := some 32, op := SOp.mv (Operand.tmp 7), guard := none },
  { dst := some 6, op := SOp.mv (Operand.tmp 32), guard := none }]
def c42 : SCode := (.seq (.reg c42_r0 [1, 2, 3]) (.seq (.reg c42_r1 [1, 2, 3, 7]) (.seq (.seq (.reg c42_r2 [2, 7, 17, 18, 19]) (.block 0 (.loop c42_l0))) (.seq (.reg c42_r7 [6]) .ret))))
theorem F42 : Fn Try.prog 42 c42 [SRes.tmp 6] 33 := ⟨Try.f42, Try.f42.body.getD .skip, [[1, 2, 3], [1, 2, 3, 7], [2, 7, 17, 18, 19], [2, 7, 17, 18, 19, 20], [2, 7, 9, 17, 18, 19], [2, 7, 17, 18, 19], [2, 7, 17, 18, 19], [6]], Try.func42, by kernel_rfl, by kernel_rfl, by kernel_rfl, by kernel_rfl, by decide⟩
end Go.Sx.Wk
set_option maxRecDepth 100000
namespace Go.Sx.Wk
open Go Go.Sx Go.Proofs

def c46_r0 : List SIns := [
  { dst := some 2, op := SOp.mv (Operand.const (Value.int (IntKind.i64) 0)), guard := none }]
def c46_r1 : List SIns := [
  { dst := some 3, op := SOp.alloc [Value.int (IntKind.i64) 0, Value.int (IntKind.i64) 0, Value.int (IntKind.i64) 0, Value.int (IntKind.i64) 0], guard := none }]
def c46_r2 : List SIns := [
  { dst := some 20, op := SOp.slcA 4 1 (Operand.tmp 3) none none none, guard := none },
  { dst := some 21, op := SOp.mv (Operand.tmp 0), guard := none },
  { dst := some 22, op := SOp.copy 1 (Operand.tmp 20) (Operand.tmp 21), guard := none }]
def c46_r3 : List SIns := [
  { dst := some 23, op := SOp.loadN 4 (Operand.tmp 3), guard := none },
  { dst := some 24, op := SOp.mks 1 4 [Value.int (IntKind.i64) 0, Value.int (IntKind.i64) 0, Value.int (IntKind.i64) 0, Value.int (IntKind.i64) 0] [(0, 4, Operand.tmp 23)], guard := none },
  { dst := some 4, op := SOp.mv (Operand.tmp 24), guard := none }]
def c46_r4 : List SIns := [
  { dst := some 25, op := SOp.mkmap, guard := none },
  { dst := some 26, op := SOp.loadN 4 (Operand.tmp 3), guard := none },
  { dst := none, op := SOp.mset (KTy.ar 4 (IntKind.i64)) (Operand.tmp 25) (Operand.tmp 26) (Operand.const (Value.int (IntKind.i64) 0)), guard := none },
  { dst := some 27, op := SOp.mv (Operand.tmp 25), guard := none },
  { dst := some 5, op := SOp.mv (Operand.tmp 27), guard := none }]
def c46_r5 : List SIns := [
  { dst := some 6, op := SOp.mv (Operand.const (Value.slice none 0 0)), guard := none }]
def c46_r6 : List SIns := [
  { dst := some 7, op := SOp.mv (Operand.const (Value.int (IntKind.i64) 0)), guard := none }]
def c46_r7 : List SIns := [
  { dst := some 28, op := SOp.mv (Operand.tmp 7), guard := none },
  { dst := some 29, op := SOp.mv (Operand.tmp 4), guard := none },
  { dst := some 30, op := SOp.lenSl (Operand.tmp 29), guard := none },
  { dst := some 31, op := SOp.ib (BinOp.lss) (Operand.tmp 28) (Operand.tmp 30), guard := none }]
def c46_r8 : List SIns := [
  { dst := some 8, op := SOp.mv (Operand.const (Value.slice none 0 0)), guard := none }]
def c46_r9 : List SIns := [
  { dst := some 34, op := SOp.mv (Operand.tmp 0), guard := none },
  { dst := some 35, op := SOp.lenSl (Operand.tmp 34), guard := none },
  { dst := some 36, op := SOp.mv (Operand.const (Value.int (IntKind.i64) 0)), guard := none }]
def c46_r10 : List SIns := [
  { dst := some 37, op := SOp.ib (BinOp.lss) (Operand.tmp 36) (Operand.tmp 35), guard := none }]
def c46_r11 : List SIns := [
  { dst := some 38, op := SOp.mv (Operand.tmp 36), guard := none },
  { dst := some 9, op := SOp.mv (Operand.tmp 38), guard := none }]
def c46_r12 : List SIns := [
  { dst := some 39, op := SOp.mv (Operand.tmp 4), guard := none },
  { dst := some 40, op := SOp.mv (Operand.tmp 7), guard := none },
  { dst := some 41, op := SOp.idx 4 (Operand.tmp 39) (Operand.tmp 40), guard := none },
  { dst := some 42, op := SOp.loadN 4 (Operand.tmp 41), guard := none },
  { dst := some 10, op := SOp.alloc [Value.int (IntKind.i64) 0, Value.int (IntKind.i64) 0, Value.int (IntKind.i64) 0, Value.int (IntKind.i64) 0], guard := none },
  { dst := none, op := SOp.store 4 (Operand.tmp 10) (Operand.tmp 42), guard := none }]
def c46_r13 : List SIns := [
  { dst := some 11, op := SOp.mv (Operand.const (Value.bool true)), guard := none }]
def c46_r14 : List SIns := [
  { dst := some 43, op := SOp.mv (Operand.tmp 0), guard := none },
  { dst := some 44, op := SOp.lenSl (Operand.tmp 43), guard := none },
  { dst := some 45, op := SOp.mv (Operand.const (Value.int (IntKind.i64) 0)), guard := none }]
def c46_r15 : List SIns := [
  { dst := some 46, op := SOp.ib (BinOp.lss) (Operand.tmp 45) (Operand.tmp 44), guard := none }]
def c46_r16 : List SIns := [
  { dst := some 47, op := SOp.mv (Operand.tmp 45), guard := none },
  { dst := some 12, op := SOp.mv (Operand.tmp 47), guard := none }]
def c46_r17 : List SIns := [
  { dst := some 48, op := SOp.mv (Operand.tmp 12), guard := none },
  { dst := some 49, op := SOp.idxA 4 1 (Operand.tmp 10) (Operand.tmp 48), guard := none },
  { dst := some 50, op := SOp.load1 (Operand.tmp 49), guard := none },
  { dst := some 51, op := SOp.ib (BinOp.sub) (Operand.tmp 50) (Operand.const (Value.int (IntKind.i64) 1)), guard := none },
  { dst := some 52, op := SOp.idxA 4 1 (Operand.tmp 10) (Operand.tmp 48), guard := none },
  { dst := none, op := SOp.store 1 (Operand.tmp 52) (Operand.tmp 51), guard := none }]
def c46_r18 : List SIns := [
  { dst := some 53, op := SOp.mv (Operand.tmp 12), guard := none },
  { dst := some 54, op := SOp.mv (Operand.tmp 9), guard := none },
  { dst := some 55, op := SOp.ib (BinOp.neq) (Operand.tmp 53) (Operand.tmp 54), guard := none },
  { dst := some 56, op := SOp.mv (Operand.tmp 55), guard := none },
  { dst := some 57, op := SOp.mv (Operand.tmp 12), guard := some (56, true) },
  { dst := some 58, op := SOp.idxA 4 1 (Operand.tmp 10) (Operand.tmp 57), guard := some (56, true) },
  { dst := some 59, op := SOp.load1 (Operand.tmp 58), guard := some (56, true) },
  { dst := some 60, op := SOp.ib (BinOp.eql) (Operand.tmp 59) (Operand.const (Value.int (IntKind.i64) 0)), guard := some (56, true) },
  { dst := some 61, op := SOp.pick (Operand.tmp 56) (Operand.tmp 60) (Operand.const (Value.bool false)), guard := none }]
def c46_r19 : List SIns := [
  { dst := some 11, op := SOp.mv (Operand.const (Value.bool false)), guard := none }]
def c46_r20 : List SIns := [
  { dst := some 62, op := SOp.ib (BinOp.add) (Operand.tmp 45) (Operand.const (Value.int (IntKind.i64) 1)), guard := none },
  { dst := some 45, op := SOp.mv (Operand.tmp 62), guard := none }]
def c46_l0 : SCode := (.seq (.reg c46_r15 [0, 4, 5, 6, 7, 8, 9, 10, 11, 35, 36, 44, 45, 46]) (.seq (.cond (Operand.tmp 46) .skip (.exit 4)) (.seq (.block 5 (.seq (.reg c46_r16 [0, 4, 5, 6, 7, 8, 9, 10, 11, 12, 35, 36, 44, 45]) (.seq (.reg c46_r17 [0, 4, 5, 6, 7, 8, 9, 10, 11, 12, 35, 36, 44, 45]) (.seq (.reg c46_r18 [0, 4, 5, 6, 7, 8, 9, 10, 11, 35, 36, 44, 45, 61]) (.cond (Operand.tmp 61) (.reg c46_r19 [0, 4, 5, 6, 7, 8, 9, 10, 11, 35, 36, 44, 45]) .skip))))) (.reg c46_r20 [0, 4, 5, 6, 7, 8, 9, 10, 11, 35, 36, 44, 45]))))
def c46_r21 : List SIns := [
  { dst := some 63, op := SOp.mv (Operand.tmp 9), guard := none },
  { dst := some 64, op := SOp.mv (Operand.tmp 0), guard := none },
  { dst := some 65, op := SOp.mv (Operand.tmp 9), guard := none },
  { dst := some 66, op := SOp.idx 1 (Operand.tmp 64) (Operand.tmp 65), guard := none },
  { dst := some 67, op := SOp.load1 (Operand.tmp 66), guard := none },
  { dst := some 68, op := SOp.idxA 4 1 (Operand.tmp 10) (Operand.tmp 63), guard := none },
  { dst := none, op := SOp.store 1 (Operand.tmp 68) (Operand.tmp 67), guard := none }]
def c46_r22 : List SIns := [
  { dst := some 69, op := SOp.mv (Operand.tmp 11), guard := none },
  { dst := some 70, op := SOp.nt (Operand.tmp 69), guard := none }]
def c46_r23 : List SIns := [
  { dst := some 72, op := SOp.mv (Operand.tmp 5), guard := none },
  { dst := some 73, op := SOp.loadN 4 (Operand.tmp 10), guard := none },
  { dst := some 74, op := SOp.look (KTy.ar 4 (IntKind.i64)) (Value.int (IntKind.i64) 0) true (Operand.tmp 72) (Operand.tmp 73), guard := none },
  { dst := some 71, op := SOp.mv (Operand.tmp 74), guard := none },
  { dst := some 75, op := SOp.ext (Operand.tmp 71) 0, guard := none },
  { dst := some 76, op := SOp.ext (Operand.tmp 71) 1, guard := none },
  { dst := some 13, op := SOp.mv (Operand.tmp 75), guard := none },
  { dst := some 14, op := SOp.mv (Operand.tmp 76), guard := none }]
def c46_r24 : List SIns := [
  { dst := some 77, op := SOp.mv (Operand.tmp 14), guard := none },
  { dst := some 78, op := SOp.nt (Operand.tmp 77), guard := none }]
def c46_r25 : List SIns := [
  { dst := some 79, op := SOp.mv (Operand.tmp 5), guard := none },
  { dst := some 80, op := SOp.loadN 4 (Operand.tmp 10), guard := none },
  { dst := some 81, op := SOp.mv (Operand.tmp 4), guard := none },
  { dst := some 82, op := SOp.lenSl (Operand.tmp 81), guard := none },
  { dst := none, op := SOp.mset (KTy.ar 4 (IntKind.i64)) (Operand.tmp 79) (Operand.tmp 80) (Operand.tmp 82), guard := none }]
def c46_r26 : List SIns := [
  { dst := some 83, op := SOp.mv (Operand.tmp 4), guard := none },
  { dst := some 84, op := SOp.loadN 4 (Operand.tmp 10), guard := none },
  { dst := some 85, op := SOp.mks 1 4 [Value.int (IntKind.i64) 0, Value.int (IntKind.i64) 0, Value.int (IntKind.i64) 0, Value.int (IntKind.i64) 0] [(0, 4, Operand.tmp 84)], guard := none },
  { dst := some 86, op := SOp.app 4 32 (Operand.tmp 83) (Operand.tmp 85), guard := none },
  { dst := some 4, op := SOp.mv (Operand.tmp 86), guard := none }]
def c46_r27 : List SIns := [
  { dst := some 87, op := SOp.mv (Operand.tmp 8), guard := none },
  { dst := some 88, op := SOp.mv (Operand.tmp 5), guard := none },
  { dst := some 89, op := SOp.loadN 4 (Operand.tmp 10), guard := none },
  { dst := some 90, op := SOp.look (KTy.ar 4 (IntKind.i64)) (Value.int (IntKind.i64) 0) false (Operand.tmp 88) (Operand.tmp 89), guard := none },
  { dst := some 91, op := SOp.mks 1 1 [Value.int (IntKind.i64) 0] [(0, 1, Operand.tmp 90)], guard := none },
  { dst := some 92, op := SOp.app 1 8 (Operand.tmp 87) (Operand.tmp 91), guard := none },
  { dst := some 8, op := SOp.mv (Operand.tmp 92), guard := none }]
def c46_r28 : List SIns := [
  { dst := some 93, op := SOp.ib (BinOp.add) (Operand.tmp 36) (Operand.const (Value.int (IntKind.i64) 1)), guard := none },
  { dst := some 36, op := SOp.mv (Operand.tmp 93), guard := none }]
def c46_l1 : SCode := (.seq (.reg c46_r10 [0, 4, 5, 6, 7, 8, 35, 36, 37]) (.seq (.cond (Operand.tmp 37) .skip (.exit 2)) (.seq (.block 3 (.seq (.reg c46_r11 [0, 4, 5, 6, 7, 8, 9, 35, 36]) (.seq (.reg c46_r12 [0, 4, 5, 6, 7, 8, 9, 10, 35, 36]) (.seq (.reg c46_r13 [0, 4, 5, 6, 7, 8, 9, 10, 11, 35, 36]) (.seq (.seq (.reg c46_r14 [0, 4, 5, 6, 7, 8, 9, 10, 11, 35, 36, 44, 45]) (.block 4 (.loop c46_l0))) (.seq (.seq (.reg c46_r21 [0, 4, 5, 6, 7, 8, 10, 11, 35, 36]) (.seq (.reg c46_r22 [0, 4, 5, 6, 7, 8, 10, 35, 36, 70]) (.cond (Operand.tmp 70) (.exit 3) .skip))) (.seq (.seq (.reg c46_r23 [0, 4, 5, 6, 7, 8, 10, 14, 35, 36]) (.seq (.reg c46_r24 [0, 4, 5, 6, 7, 8, 10, 35, 36, 78]) (.cond (Operand.tmp 78) (.seq (.reg c46_r25 [0, 4, 5, 6, 7, 8, 10, 35, 36]) (.reg c46_r26 [0, 4, 5, 6, 7, 8, 10, 35, 36])) .skip))) (.reg c46_r27 [0, 4, 5, 6, 7, 8, 35, 36])))))))) (.reg c46_r28 [0, 4, 5, 6, 7, 8, 35, 36]))))
def c46_r29 : List SIns := [
  { dst := some 94, op := SOp.mv (Operand.tmp 6), guard := none },
  { dst := some 95, op := SOp.mv (Operand.tmp 8), guard := none },
  { dst := some 96, op := SOp.mks 1 1 [Value.slice none 0 0] [(0, 1, Operand.tmp 95)], guard := none },
  { dst := some 97, op := SOp.app 1 24 (Operand.tmp 94) (Operand.tmp 96), guard := none },
  { dst := some 6, op := SOp.mv (Operand.tmp 97), guard := none }]
def c46_r30 : List SIns := [
  { dst := some 32, op := SOp.mv (Operand.tmp 7), guard := none },
  { dst := some 33, op := SOp.ib (BinOp.add) (Operand.tmp 32) (Operand.const (Value.int (IntKind.i64) 1)), guard := none },
  { dst := some 7, op := SOp.mv (Operand.tmp 33), guard := none }]
def c46_l2 : SCode := (.seq (.seq (.reg c46_r7 [0, 4, 5, 6, 7, 31]) (.cond (Operand.tmp 31) .skip (.exit 0))) (.seq (.block 1 (.seq (.reg c46_r8 [0, 4, 5, 6, 7, 8]) (.seq (.seq (.reg c46_r9 [0, 4, 5, 6, 7, 8, 35, 36]) (.block 2 (.loop c46_l1))) (.reg c46_r29 [0, 4, 5, 6, 7])))) (.reg c46_r30 [0, 4, 5, 6, 7])))
def c46_r31 : List SIns := [
  { dst := some 98, op := SOp.mv (Operand.tmp 4), guard := none },
  { dst := some 99, op := SOp.lenSl (Operand.tmp 98), guard := none },
  { dst := some 100, op := SOp.mk 1 (Value.bool false) (Operand.tmp 99) (Operand.tmp 99), guard := none },
  { dst := some 15, op := SOp.alloc [Value.slice none 0 0], guard := none },
  { dst := none, op := SOp.store 1 (Operand.tmp 15) (Operand.tmp 100), guard := none }]
def c46_r32 : List SIns := [
  { dst := some 16, op := SOp.mv (Operand.const (Value.int (IntKind.i64) 0)), guard := none }]
def c46_r33 : List SIns := [
  { dst := some 103, op := SOp.load1 (Operand.tmp 15), guard := none },
  { dst := some 104, op := SOp.call 73 [Operand.tmp 103], guard := none },
  { dst := some 17, op := SOp.mv (Operand.tmp 104), guard := none }]
def c46_r34 : List SIns := [
  { dst := some 105, op := SOp.mv (Operand.tmp 6), guard := none },
  { dst := some 106, op := SOp.lenSl (Operand.tmp 105), guard := none },
  { dst := some 107, op := SOp.mv (Operand.const (Value.int (IntKind.i64) 0)), guard := none }]
def c46_r35 : List SIns := [
  { dst := some 108, op := SOp.ib (BinOp.lss) (Operand.tmp 107) (Operand.tmp 106), guard := none }]
def c46_r36 : List SIns := [
  { dst := some 109, op := SOp.mv (Operand.tmp 107), guard := none },
  { dst := some 110, op := SOp.idx 1 (Operand.tmp 105) (Operand.tmp 107), guard := none },
  { dst := some 111, op := SOp.load1 (Operand.tmp 110), guard := none },
  { dst := some 18, op := SOp.mv (Operand.tmp 109), guard := none },
  { dst := some 19, op := SOp.mv (Operand.tmp 111), guard := none }]
def c46_r37 : List SIns := [
  { dst := some 112, op := SOp.mv (Operand.tmp 17), guard := none },
  { dst := some 113, op := SOp.mv (Operand.tmp 18), guard := none },
  { dst := some 114, op := SOp.mv (Operand.tmp 19), guard := none },
  { dst := some 115, op := SOp.mkfn (Fn.func 74) [] [Operand.tmp 15], guard := none },
  { dst := some 116, op := SOp.call 58 [Operand.tmp 114, Operand.tmp 115], guard := none },
  { dst := some 117, op := SOp.nt (Operand.tmp 116), guard := none },
  { dst := some 118, op := SOp.idx 1 (Operand.tmp 112) (Operand.tmp 113), guard := none },
  { dst := none, op := SOp.store 1 (Operand.tmp 118) (Operand.tmp 117), guard := none }]
def c46_r38 : List SIns := [
  { dst := some 119, op := SOp.ib (BinOp.add) (Operand.tmp 107) (Operand.const (Value.int (IntKind.i64) 1)), guard := none },
  { dst := some 107, op := SOp.mv (Operand.tmp 119), guard := none }]
def c46_l3 : SCode := (.seq (.reg c46_r35 [6, 15, 16, 17, 105, 106, 107, 108]) (.seq (.cond (Operand.tmp 108) .skip (.exit 8)) (.seq (.block 9 (.seq (.reg c46_r36 [6, 15, 16, 17, 18, 19, 105, 106, 107]) (.reg c46_r37 [6, 15, 16, 17, 105, 106, 107]))) (.reg c46_r38 [6, 15, 16, 17, 105, 106, 107]))))
def c46_r39 : List SIns := [
  { dst := some 121, op := SOp.mv (Operand.tmp 17), guard := none },
  { dst := some 122, op := SOp.idx 1 (Operand.tmp 121) (Operand.const (Value.int (IntKind.i64) 0)), guard := none },
  { dst := some 123, op := SOp.load1 (Operand.tmp 122), guard := none },
  { dst := some 120, op := SOp.mv (Operand.tmp 123), guard := none }]
def c46_r40 : List SIns := [
  { dst := some 124, op := SOp.mv (Operand.tmp 16), guard := none },
  { dst := some 2, op := SOp.mv (Operand.tmp 124), guard := none }]
def c46_r41 : List SIns := [
  { dst := some 126, op := SOp.mv (Operand.tmp 17), guard := none },
  { dst := some 127, op := SOp.load1 (Operand.tmp 15), guard := none },
  { dst := some 128, op := SOp.call 75 [Operand.tmp 126, Operand.tmp 127], guard := none },
  { dst := some 125, op := SOp.mv (Operand.tmp 128), guard := none }]
def c46_r42 : List SIns := [
  { dst := some 2, op := SOp.mv (Operand.const (Value.int (IntKind.i64) (-1))), guard := none }]
def c46_r43 : List SIns := [
  { dst := some 129, op := SOp.mv (Operand.tmp 17), guard := none },
  { dst := none, op := SOp.store 1 (Operand.tmp 15) (Operand.tmp 129), guard := none }]
def c46_r44 : List SIns := [
  { dst := some 101, op := SOp.mv (Operand.tmp 16), guard := none },
  { dst := some 102, op := SOp.ib (BinOp.add) (Operand.tmp 101) (Operand.const (Value.int (IntKind.i64) 1)), guard := none },
  { dst := some 16, op := SOp.mv (Operand.tmp 102), guard := none }]
def c46_l4 : SCode := (.seq (.block 7 (.seq (.reg c46_r33 [6, 15, 16, 17]) (.seq (.seq (.reg c46_r34 [6, 15, 16, 17, 105, 106, 107]) (.block 8 (.loop c46_l3))) (.seq (.block 10 (.seq (.reg c46_r39 [6, 15, 16, 17, 120]) (.cond (Operand.tmp 120) (.seq (.reg c46_r40 [2]) .ret) (.seq (.reg c46_r41 [6, 15, 16, 17, 125]) (.cond (Operand.tmp 125) (.seq (.reg c46_r42 [2]) .ret) .skip))))) (.reg c46_r43 [6, 15, 16]))))) (.reg c46_r44 [6, 15, 16]))
def c46 : SCode := (.seq (.reg c46_r0 [0]) (.seq (.reg c46_r1 [0, 3]) (.seq (.reg c46_r2 [0, 3]) (.seq (.reg c46_r3 [0, 3, 4]) (.seq (.reg c46_r4 [0, 4, 5]) (.seq (.reg c46_r5 [0, 4, 5, 6]) (.seq (.seq (.reg c46_r6 [0, 4, 5, 6, 7]) (.block 0 (.loop c46_l2))) (.seq (.reg c46_r31 [6, 15]) (.seq (.reg c46_r32 [6, 15, 16]) (.block 6 (.loop c46_l4)))))))))))
theorem F46 : Fn Try.prog 46 c46 [SRes.tmp 2] 130 := ⟨Try.f46, Try.f46.body.getD .skip, [[0], [0, 3], [0, 3], [0, 3, 4], [0, 4, 5], [0, 4, 5, 6], [0, 4, 5, 6, 7], [0, 4, 5, 6, 7, 31], [0, 4, 5, 6, 7, 8], [0, 4, 5, 6, 7, 8, 35, 36], [0, 4, 5, 6, 7, 8, 35, 36, 37], [0, 4, 5, 6, 7, 8, 9, 35, 36], [0, 4, 5, 6, 7, 8, 9, 10, 35, 36], [0, 4, 5, 6, 7, 8, 9, 10, 11, 35, 36], [0, 4, 5, 6, 7, 8, 9, 10, 11, 35, 36, 44, 45], [0, 4, 5, 6, 7, 8, 9, 10, 11, 35, 36, 44, 45, 46], [0, 4, 5, 6, 7, 8, 9, 10, 11, 12, 35, 36, 44, 45], [0, 4, 5, 6, 7, 8, 9, 10, 11, 12, 35, 36, 44, 45], [0, 4, 5, 6, 7, 8, 9, 10, 11, 35, 36, 44, 45, 61], [0, 4, 5, 6, 7, 8, 9, 10, 11, 35, 36, 44, 45], [0, 4, 5, 6, 7, 8, 9, 10, 11, 35, 36, 44, 45], [0, 4, 5, 6, 7, 8, 10, 11, 35, 36], [0, 4, 5, 6, 7, 8, 10, 35, 36, 70], [0, 4, 5, 6, 7, 8, 10, 14, 35, 36], [0, 4, 5, 6, 7, 8, 10, 35, 36, 78], [0, 4, 5, 6, 7, 8, 10, 35, 36], [0, 4, 5, 6, 7, 8, 10, 35, 36], [0, 4, 5, 6, 7, 8, 35, 36], [0, 4, 5, 6, 7, 8, 35, 36], [0, 4, 5, 6, 7], [0, 4, 5, 6, 7], [6, 15], [6, 15, 16], [6, 15, 16, 17], [6, 15, 16, 17, 105, 106, 107], [6, 15, 16, 17, 105, 106, 107, 108], [6, 15, 16, 17, 18, 19, 105, 106, 107], [6, 15, 16, 17, 105, 106, 107], [6, 15, 16, 17, 105, 106, 107], [6, 15, 16, 17, 120], [2], [6, 15, 16, 17, 125], [2], [6, 15, 16], [6, 15, 16]], Try.func46, by kernel_rfl, by kernel_rfl, by kernel_rfl, by kernel_rfl, by decide⟩
end Go.Sx.Wk
set_option maxRecDepth 100000
namespace Go.Sx.Wk
open Go Go.Sx Go.Proofs

def c47_r0 : List SIns := [
  { dst := some 15, op := SOp.mv (Operand.tmp 0), guard := none },
  { dst := some 16, op := SOp.lenSl (Operand.tmp 15), guard := none },
  { dst := some 17, op := SOp.load1 (Operand.tmp 2), guard := none },
  { dst := some 18, op := SOp.ib (BinOp.eql) (Operand.tmp 16) (Operand.tmp 17), guard := none }]
def c47_r1 : List SIns := [
  { dst := some 9, op := SOp.mv (Operand.const (Value.bool true)), guard := none }]
def c47_r2 : List SIns := [
  { dst := some 19, op := SOp.mv (Operand.tmp 1), guard := none },
  { dst := some 20, op := SOp.mv (Operand.const (Value.int (IntKind.i64) 0)), guard := none }]
def c47_r3 : List SIns := [
  { dst := some 21, op := SOp.ib (BinOp.lss) (Operand.tmp 20) (Operand.tmp 19), guard := none }]
def c47_r4 : List SIns := [
  { dst := some 22, op := SOp.mv (Operand.tmp 20), guard := none },
  { dst := some 10, op := SOp.mv (Operand.tmp 22), guard := none }]
def c47_r5 : List SIns := [
  { dst := some 11, op := SOp.mv (Operand.const (Value.int (IntKind.i64) 0)), guard := none }]
def c47_r6 : List SIns := [
  { dst := some 23, op := SOp.mv (Operand.tmp 0), guard := none },
  { dst := some 24, op := SOp.lenSl (Operand.tmp 23), guard := none },
  { dst := some 25, op := SOp.mv (Operand.const (Value.int (IntKind.i64) 0)), guard := none }]
def c47_r7 : List SIns := [
  { dst := some 26, op := SOp.ib (BinOp.lss) (Operand.tmp 25) (Operand.tmp 24), guard := none }]
def c47_r8 : List SIns := [
  { dst := some 27, op := SOp.mv (Operand.tmp 25), guard := none },
  { dst := some 28, op := SOp.idx 1 (Operand.tmp 23) (Operand.tmp 25), guard := none },
  { dst := some 29, op := SOp.load1 (Operand.tmp 28), guard := none },
  { dst := some 12, op := SOp.mv (Operand.tmp 27), guard := none },
  { dst := some 13, op := SOp.mv (Operand.tmp 29), guard := none }]
def c47_r9 : List SIns := [
  { dst := some 30, op := SOp.mv (Operand.tmp 13), guard := none },
  { dst := some 31, op := SOp.mv (Operand.tmp 10), guard := none },
  { dst := some 32, op := SOp.ib (BinOp.eql) (Operand.tmp 30) (Operand.tmp 31), guard := none }]
def c47_r10 : List SIns := [
  { dst := some 33, op := SOp.mv (Operand.tmp 11), guard := none },
  { dst := some 34, op := SOp.mv (Operand.tmp 12), guard := none },
  { dst := some 35, op := SOp.bin (BinOp.shl) 3 (Operand.const (Value.int (IntKind.i64) 1)) (Operand.tmp 34), guard := none },
  { dst := some 36, op := SOp.bin (BinOp.or) 3 (Operand.tmp 33) (Operand.tmp 35), guard := none },
  { dst := some 11, op := SOp.mv (Operand.tmp 36), guard := none }]
def c47_r11 : List SIns := [
  { dst := some 37, op := SOp.ib (BinOp.add) (Operand.tmp 25) (Operand.const (Value.int (IntKind.i64) 1)), guard := none },
  { dst := some 25, op := SOp.mv (Operand.tmp 37), guard := none }]
def c47_l0 : SCode := (.seq (.reg c47_r7 [0, 1, 3, 4, 5, 9, 10, 11, 19, 20, 23, 24, 25, 26]) (.seq (.cond (Operand.tmp 26) .skip (.exit 2)) (.seq (.block 3 (.seq (.reg c47_r8 [0, 1, 3, 4, 5, 9, 10, 11, 12, 13, 19, 20, 23, 24, 25]) (.seq (.reg c47_r9 [0, 1, 3, 4, 5, 9, 10, 11, 12, 19, 20, 23, 24, 25, 32]) (.cond (Operand.tmp 32) (.reg c47_r10 [0, 1, 3, 4, 5, 9, 10, 11, 19, 20, 23, 24, 25]) .skip)))) (.reg c47_r11 [0, 1, 3, 4, 5, 9, 10, 11, 19, 20, 23, 24, 25]))))
def c47_r12 : List SIns := [
  { dst := some 38, op := SOp.mv (Operand.tmp 9), guard := none },
  { dst := some 39, op := SOp.mv (Operand.tmp 38), guard := none },
  { dst := some 40, op := SOp.load1 (Operand.tmp 3), guard := some (39, true) },
  { dst := some 41, op := SOp.mv (Operand.tmp 11), guard := some (39, true) },
  { dst := some 42, op := SOp.idx 1 (Operand.tmp 40) (Operand.tmp 41), guard := some (39, true) },
  { dst := some 43, op := SOp.load1 (Operand.tmp 42), guard := some (39, true) },
  { dst := some 44, op := SOp.pick (Operand.tmp 39) (Operand.tmp 43) (Operand.const (Value.bool false)), guard := none },
  { dst := some 9, op := SOp.mv (Operand.tmp 44), guard := none }]
def c47_r13 : List SIns := [
  { dst := some 45, op := SOp.ib (BinOp.add) (Operand.tmp 20) (Operand.const (Value.int (IntKind.i64) 1)), guard := none },
  { dst := some 20, op := SOp.mv (Operand.tmp 45), guard := none }]
def c47_l1 : SCode := (.seq (.reg c47_r3 [0, 1, 3, 4, 5, 9, 19, 20, 21]) (.seq (.cond (Operand.tmp 21) .skip (.exit 0)) (.seq (.block 1 (.seq (.reg c47_r4 [0, 1, 3, 4, 5, 9, 10, 19, 20]) (.seq (.reg c47_r5 [0, 1, 3, 4, 5, 9, 10, 11, 19, 20]) (.seq (.seq (.reg c47_r6 [0, 1, 3, 4, 5, 9, 10, 11, 19, 20, 23, 24, 25]) (.block 2 (.loop c47_l0))) (.reg c47_r12 [0, 1, 3, 4, 5, 9, 19, 20]))))) (.reg c47_r13 [0, 1, 3, 4, 5, 9, 19, 20]))))
def c47_r14 : List SIns := [
  { dst := some 46, op := SOp.mv (Operand.tmp 9), guard := none },
  { dst := some 47, op := SOp.mv (Operand.tmp 46), guard := none },
  { dst := some 48, op := SOp.mv (Operand.tmp 1), guard := some (47, true) },
  { dst := some 49, op := SOp.load1 (Operand.tmp 4), guard := some (47, true) },
  { dst := some 50, op := SOp.ib (BinOp.lss) (Operand.tmp 48) (Operand.tmp 49), guard := some (47, true) },
  { dst := some 51, op := SOp.pick (Operand.tmp 47) (Operand.tmp 50) (Operand.const (Value.bool false)), guard := none }]
def c47_r15 : List SIns := [
  { dst := some 52, op := SOp.mv (Operand.tmp 0), guard := none },
  { dst := some 53, op := SOp.mv (Operand.tmp 1), guard := none },
  { dst := none, op := SOp.store 1 (Operand.tmp 5) (Operand.tmp 52), guard := none },
  { dst := none, op := SOp.store 1 (Operand.tmp 4) (Operand.tmp 53), guard := none }]
def c47_r16 : List SIns := [
  { dst := some 14, op := SOp.mv (Operand.const (Value.int (IntKind.i64) 0)), guard := none }]
def c47_r17 : List SIns := [
  { dst := some 54, op := SOp.mv (Operand.tmp 14), guard := none },
  { dst := some 55, op := SOp.mv (Operand.tmp 1), guard := none },
  { dst := some 56, op := SOp.ib (BinOp.leq) (Operand.tmp 54) (Operand.tmp 55), guard := none }]
def c47_r18 : List SIns := [
  { dst := some 59, op := SOp.load1 (Operand.tmp 6), guard := none },
  { dst := some 60, op := SOp.mv (Operand.tmp 0), guard := none },
  { dst := some 61, op := SOp.call 48 [Operand.tmp 60], guard := none },
  { dst := some 62, op := SOp.mv (Operand.tmp 14), guard := none },
  { dst := some 63, op := SOp.mks 1 1 [Value.int (IntKind.i64) 0] [(0, 1, Operand.tmp 62)], guard := none },
  { dst := some 64, op := SOp.app 1 8 (Operand.tmp 61) (Operand.tmp 63), guard := none },
  { dst := some 65, op := SOp.mv (Operand.tmp 1), guard := none },
  { dst := some 66, op := SOp.mv (Operand.tmp 14), guard := none },
  { dst := some 67, op := SOp.ib (BinOp.add) (Operand.tmp 66) (Operand.const (Value.int (IntKind.i64) 1)), guard := none },
  { dst := some 68, op := SOp.big true [Operand.tmp 65, Operand.tmp 67], guard := none },
  { dst := some 69, op := SOp.callv (Operand.tmp 59) [Operand.tmp 64, Operand.tmp 68], guard := none }]
def c47_r19 : List SIns := [
  { dst := some 57, op := SOp.mv (Operand.tmp 14), guard := none },
  { dst := some 58, op := SOp.ib (BinOp.add) (Operand.tmp 57) (Operand.const (Value.int (IntKind.i64) 1)), guard := none },
  { dst := some 14, op := SOp.mv (Operand.tmp 58), guard := none }]
def c47_l2 : SCode := (.seq (.seq (.reg c47_r17 [0, 1, 6, 14, 56]) (.cond (Operand.tmp 56) .skip (.exit 4))) (.seq (.block 5 (.draw c47_r18 [[], [], [1], [], [3], [2, 4, 2, 1, 3, 1], [], [], [7], [6, 8, 7], [0, 5, 9, 5, 2, 4, 2, 1, 3, 1, 6, 8, 7, 2, 4, 2, 1, 3, 1]] [0, 1, 6, 14])) (.reg c47_r19 [0, 1, 6, 14])))
def c47 : SCode := (.seq (.seq (.reg c47_r0 [0, 1, 3, 4, 5, 6, 18]) (.cond (Operand.tmp 18) (.seq (.reg c47_r1 [0, 1, 3, 4, 5, 9]) (.seq (.seq (.reg c47_r2 [0, 1, 3, 4, 5, 9, 19, 20]) (.block 0 (.loop c47_l1))) (.seq (.seq (.reg c47_r14 [0, 1, 4, 5, 51]) (.cond (Operand.tmp 51) (.reg c47_r15 []) .skip)) .ret))) .skip)) (.seq (.reg c47_r16 [0, 1, 6, 14]) (.block 4 (.loop c47_l2))))
theorem F47 : Fn Try.prog 47 c47 [] 70 := ⟨Try.f47, Try.f47.body.getD .skip, [[0, 1, 3, 4, 5, 6, 18], [0, 1, 3, 4, 5, 9], [0, 1, 3, 4, 5, 9, 19, 20], [0, 1, 3, 4, 5, 9, 19, 20, 21], [0, 1, 3, 4, 5, 9, 10, 19, 20], [0, 1, 3, 4, 5, 9, 10, 11, 19, 20], [0, 1, 3, 4, 5, 9, 10, 11, 19, 20, 23, 24, 25], [0, 1, 3, 4, 5, 9, 10, 11, 19, 20, 23, 24, 25, 26], [0, 1, 3, 4, 5, 9, 10, 11, 12, 13, 19, 20, 23, 24, 25], [0, 1, 3, 4, 5, 9, 10, 11, 12, 19, 20, 23, 24, 25, 32], [0, 1, 3, 4, 5, 9, 10, 11, 19, 20, 23, 24, 25], [0, 1, 3, 4, 5, 9, 10, 11, 19, 20, 23, 24, 25], [0, 1, 3, 4, 5, 9, 19, 20], [0, 1, 3, 4, 5, 9, 19, 20], [0, 1, 4, 5, 51], [], [0, 1, 6, 14], [0, 1, 6, 14, 56], [0, 1, 6, 14], [0, 1, 6, 14]], Try.func47, by kernel_rfl, by kernel_rfl, by kernel_rfl, by kernel_rfl, by decide⟩
end Go.Sx.Wk
set_option maxRecDepth 100000
namespace Go.Sx.Wk
open Go Go.Sx Go.Proofs

def c73_r0 : List SIns := [
  { dst := some 2, op := SOp.mv (Operand.const (Value.slice none 0 0)), guard := none }]
def c73_r1 : List SIns := [
  { dst := some 3, op := SOp.mv (Operand.tmp 0), guard := none },
  { dst := some 4, op := SOp.eqn false (TypeDesc.slice 4) (Operand.tmp 3), guard := none }]
def c73_r2 : List SIns := [
  { dst := some 2, op := SOp.mv (Operand.const (Value.slice none 0 0)), guard := none }]
def c73_r3 : List SIns := [
  { dst := some 5, op := SOp.mks0 1, guard := none },
  { dst := some 6, op := SOp.mv (Operand.tmp 0), guard := none },
  { dst := some 7, op := SOp.app 1 1 (Operand.tmp 5) (Operand.tmp 6), guard := none },
  { dst := some 2, op := SOp.mv (Operand.tmp 7), guard := none }]
def c73 : SCode := (.seq (.reg c73_r0 [0]) (.seq (.seq (.reg c73_r1 [0, 4]) (.cond (Operand.tmp 4) (.seq (.reg c73_r2 [2]) .ret) .skip)) (.seq (.reg c73_r3 [2]) .ret)))
theorem F73 : Fn Try.prog 73 c73 [SRes.tmp 2] 8 := ⟨Try.f73, Try.f73.body.getD .skip, [[0], [0, 4], [2], [2]], Try.func73, by kernel_rfl, by kernel_rfl, by kernel_rfl, by kernel_rfl, by decide⟩
end Go.Sx.Wk
set_option maxRecDepth 100000
namespace Go.Sx.Wk
open Go Go.Sx Go.Proofs

def c74_r0 : List SIns := [
  { dst := some 3, op := SOp.mv (Operand.const (Value.bool false)), guard := none }]
def c74_r1 : List SIns := [
  { dst := some 4, op := SOp.load1 (Operand.tmp 1), guard := none },
  { dst := some 5, op := SOp.mv (Operand.tmp 0), guard := none },
  { dst := some 6, op := SOp.idx 1 (Operand.tmp 4) (Operand.tmp 5), guard := none },
  { dst := some 7, op := SOp.load1 (Operand.tmp 6), guard := none },
  { dst := some 8, op := SOp.nt (Operand.tmp 7), guard := none },
  { dst := some 3, op := SOp.mv (Operand.tmp 8), guard := none }]
def c74 : SCode := (.seq (.reg c74_r0 [0, 1]) (.seq (.reg c74_r1 [3]) .ret))
theorem F74 : Fn Try.prog 74 c74 [SRes.tmp 3] 9 := ⟨Try.f74, Try.f74.body.getD .skip, [[0, 1], [3]], Try.func74, by kernel_rfl, by kernel_rfl, by kernel_rfl, by kernel_rfl, by decide⟩
end Go.Sx.Wk
set_option maxRecDepth 100000
namespace Go.Sx.Wk
open Go Go.Sx Go.Proofs

def c75_r0 : List SIns := [
  { dst := some 4, op := SOp.mv (Operand.const (Value.bool false)), guard := none }]
def c75_r1 : List SIns := [
  { dst := some 6, op := SOp.mv (Operand.tmp 0), guard := none },
  { dst := some 7, op := SOp.lenSl (Operand.tmp 6), guard := none },
  { dst := some 8, op := SOp.mv (Operand.tmp 1), guard := none },
  { dst := some 9, op := SOp.lenSl (Operand.tmp 8), guard := none },
  { dst := some 10, op := SOp.ib (BinOp.neq) (Operand.tmp 7) (Operand.tmp 9), guard := none }]
def c75_r2 : List SIns := [
  { dst := some 4, op := SOp.mv (Operand.const (Value.bool false)), guard := none }]
def c75_r3 : List SIns := [
  { dst := some 11, op := SOp.mv (Operand.tmp 0), guard := none },
  { dst := some 12, op := SOp.lenSl (Operand.tmp 11), guard := none },
  { dst := some 13, op := SOp.mv (Operand.const (Value.int (IntKind.i64) 0)), guard := none }]
def c75_r4 : List SIns := [
  { dst := some 14, op := SOp.ib (BinOp.lss) (Operand.tmp 13) (Operand.tmp 12), guard := none }]
def c75_r5 : List SIns := [
  { dst := some 15, op := SOp.mv (Operand.tmp 13), guard := none },
  { dst := some 5, op := SOp.mv (Operand.tmp 15), guard := none }]
def c75_r6 : List SIns := [
  { dst := some 16, op := SOp.mv (Operand.tmp 0), guard := none },
  { dst := some 17, op := SOp.mv (Operand.tmp 5), guard := none },
  { dst := some 18, op := SOp.idx 1 (Operand.tmp 16) (Operand.tmp 17), guard := none },
  { dst := some 19, op := SOp.load1 (Operand.tmp 18), guard := none },
  { dst := some 20, op := SOp.mv (Operand.tmp 1), guard := none },
  { dst := some 21, op := SOp.mv (Operand.tmp 5), guard := none },
  { dst := some 22, op := SOp.idx 1 (Operand.tmp 20) (Operand.tmp 21), guard := none },
  { dst := some 23, op := SOp.load1 (Operand.tmp 22), guard := none },
  { dst := some 24, op := SOp.bb true (Operand.tmp 19) (Operand.tmp 23), guard := none }]
def c75_r7 : List SIns := [
  { dst := some 4, op := SOp.mv (Operand.const (Value.bool false)), guard := none }]
def c75_r8 : List SIns := [
  { dst := some 25, op := SOp.ib (BinOp.add) (Operand.tmp 13) (Operand.const (Value.int (IntKind.i64) 1)), guard := none },
  { dst := some 13, op := SOp.mv (Operand.tmp 25), guard := none }]
def c75_l0 : SCode := (.seq (.reg c75_r4 [0, 1, 12, 13, 14]) (.seq (.cond (Operand.tmp 14) .skip (.exit 0)) (.seq (.block 1 (.seq (.reg c75_r5 [0, 1, 5, 12, 13]) (.seq (.draw c75_r6 [[], [], [0, 1], [2, 0, 1], [], [], [4, 5], [6, 4, 5], [3, 7, 2, 0, 1, 6, 4, 5]] [0, 1, 12, 13, 24]) (.cond (Operand.tmp 24) (.seq (.reg c75_r7 [4]) .ret) .skip)))) (.reg c75_r8 [0, 1, 12, 13]))))
def c75_r9 : List SIns := [
  { dst := some 4, op := SOp.mv (Operand.const (Value.bool true)), guard := none }]
def c75 : SCode := (.seq (.reg c75_r0 [0, 1]) (.seq (.seq (.reg c75_r1 [0, 1, 10]) (.cond (Operand.tmp 10) (.seq (.reg c75_r2 [4]) .ret) .skip)) (.seq (.seq (.reg c75_r3 [0, 1, 12, 13]) (.block 0 (.loop c75_l0))) (.seq (.reg c75_r9 [4]) .ret))))
theorem F75 : Fn Try.prog 75 c75 [SRes.tmp 4] 26 := ⟨Try.f75, Try.f75.body.getD .skip, [[0, 1], [0, 1, 10], [4], [0, 1, 12, 13], [0, 1, 12, 13, 14], [0, 1, 5, 12, 13], [0, 1, 12, 13, 24], [4], [0, 1, 12, 13], [4]], Try.func75, by kernel_rfl, by kernel_rfl, by kernel_rfl, by kernel_rfl, by decide⟩
end Go.Sx.Wk
