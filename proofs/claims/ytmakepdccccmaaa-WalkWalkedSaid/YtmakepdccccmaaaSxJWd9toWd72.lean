/- The codes of the functions, written by a program (Gen.lean), and that they are the functions'. No conditions. -/
import Derived.Test.YtmakepdccccmaaaSxN
import Derived.KernelRfl
import Derived.Test.YtmakepdccccmaaaProg
set_option linter.unusedVariables false
set_option maxRecDepth 100000
namespace Go.Sx.Wk
open Go Go.Sx Go.Proofs

def c9_r0 : List SIns := [
  { dst := some 3, op := SOp.box (Operand.tmp 0), guard := none },
  { dst := some 5, op := SOp.box (Operand.tmp 2), guard := none },
  { dst := some 6, op := SOp.mv (Operand.const (Value.bool false)), guard := none }]
def c9_r1 : List SIns := [
  { dst := some 20, op := SOp.loadN 5 (Operand.tmp 3), guard := none },
  { dst := some 21, op := SOp.call 42 [Operand.tmp 20, Operand.const (Value.int (IntKind.i64) 4), Operand.const (Value.int (IntKind.i64) 8)], guard := none },
  { dst := some 7, op := SOp.mv (Operand.tmp 21), guard := none }]
def c9_r2 : List SIns := [
  { dst := some 8, op := SOp.mv (Operand.const (Value.slice none 0 0)), guard := none }]
def c9_r3 : List SIns := [
  { dst := some 22, op := SOp.mv (Operand.tmp 1), guard := none },
  { dst := some 23, op := SOp.ci (IntKind.i64) (Operand.tmp 22), guard := none },
  { dst := some 24, op := SOp.ib (BinOp.rem) (Operand.tmp 23) (Operand.const (Value.int (IntKind.i64) 13)), guard := none },
  { dst := some 25, op := SOp.slcA 12 1 (Operand.tmp 5) none (some (Operand.tmp 24)) none, guard := none },
  { dst := some 26, op := SOp.lenSl (Operand.tmp 25), guard := none },
  { dst := some 27, op := SOp.mv (Operand.const (Value.int (IntKind.i64) 0)), guard := none }]
def c9_r4 : List SIns := [
  { dst := some 28, op := SOp.ib (BinOp.lss) (Operand.tmp 27) (Operand.tmp 26), guard := none }]
def c9_r5 : List SIns := [
  { dst := some 29, op := SOp.idx 1 (Operand.tmp 25) (Operand.tmp 27), guard := none },
  { dst := some 30, op := SOp.load1 (Operand.tmp 29), guard := none },
  { dst := some 10, op := SOp.mv (Operand.tmp 30), guard := none }]
def c9_r6 : List SIns := [
  { dst := some 31, op := SOp.mv (Operand.tmp 8), guard := none },
  { dst := some 32, op := SOp.mv (Operand.tmp 10), guard := none },
  { dst := some 33, op := SOp.ci (IntKind.i64) (Operand.tmp 32), guard := none },
  { dst := some 34, op := SOp.mv (Operand.tmp 7), guard := none },
  { dst := some 35, op := SOp.lenSl (Operand.tmp 34), guard := none },
  { dst := some 36, op := SOp.ib (BinOp.rem) (Operand.tmp 33) (Operand.tmp 35), guard := none },
  { dst := some 37, op := SOp.mks 1 1 [Value.int (IntKind.i64) 0] [(0, 1, Operand.tmp 36)], guard := none },
  { dst := some 38, op := SOp.app 1 8 (Operand.tmp 31) (Operand.tmp 37), guard := none },
  { dst := some 8, op := SOp.mv (Operand.tmp 38), guard := none }]
def c9_r7 : List SIns := [
  { dst := some 39, op := SOp.ib (BinOp.add) (Operand.tmp 27) (Operand.const (Value.int (IntKind.i64) 1)), guard := none },
  { dst := some 27, op := SOp.mv (Operand.tmp 39), guard := none }]
def c9_l0 : SCode := (.seq (.reg c9_r4 [7, 8, 25, 26, 27, 28]) (.seq (.cond (Operand.tmp 28) .skip (.exit 0)) (.seq (.block 1 (.seq (.reg c9_r5 [7, 8, 10, 25, 26, 27]) (.reg c9_r6 [7, 8, 25, 26, 27]))) (.reg c9_r7 [7, 8, 25, 26, 27]))))
def c9_r8 : List SIns := [
  { dst := some 41, op := SOp.mv (Operand.tmp 7), guard := none },
  { dst := some 42, op := SOp.mv (Operand.tmp 8), guard := none },
  { dst := some 43, op := SOp.call 25 [Operand.tmp 41, Operand.tmp 42], guard := none },
  { dst := some 40, op := SOp.mv (Operand.tmp 43), guard := none },
  { dst := some 44, op := SOp.ext (Operand.tmp 40) 0, guard := none },
  { dst := some 45, op := SOp.ext (Operand.tmp 40) 1, guard := none },
  { dst := some 11, op := SOp.mv (Operand.tmp 44), guard := none },
  { dst := some 12, op := SOp.mv (Operand.tmp 45), guard := none }]
def c9_r9 : List SIns := [
  { dst := some 47, op := SOp.mv (Operand.tmp 7), guard := none },
  { dst := some 48, op := SOp.mv (Operand.tmp 8), guard := none },
  { dst := some 49, op := SOp.call 27 [Operand.tmp 47, Operand.tmp 48], guard := none },
  { dst := some 46, op := SOp.mv (Operand.tmp 49), guard := none },
  { dst := some 50, op := SOp.ext (Operand.tmp 46) 0, guard := none },
  { dst := some 51, op := SOp.ext (Operand.tmp 46) 1, guard := none },
  { dst := some 13, op := SOp.mv (Operand.tmp 50), guard := none },
  { dst := some 14, op := SOp.mv (Operand.tmp 51), guard := none }]
def c9_r10 : List SIns := [
  { dst := some 52, op := SOp.mv (Operand.tmp 7), guard := none },
  { dst := some 53, op := SOp.mv (Operand.tmp 8), guard := none },
  { dst := some 54, op := SOp.call 43 [Operand.tmp 52, Operand.tmp 53], guard := none },
  { dst := some 55, op := SOp.nt (Operand.tmp 54), guard := none }]
def c9_r11 : List SIns := [
  { dst := some 56, op := SOp.mv (Operand.tmp 12), guard := none },
  { dst := some 57, op := SOp.ib (BinOp.eql) (Operand.tmp 56) (Operand.const (Value.int (IntKind.i64) 12)), guard := none },
  { dst := some 58, op := SOp.mv (Operand.tmp 57), guard := none },
  { dst := some 59, op := SOp.mv (Operand.tmp 14), guard := some (58, true) },
  { dst := some 60, op := SOp.ib (BinOp.eql) (Operand.tmp 59) (Operand.const (Value.int (IntKind.i64) 12)), guard := some (58, true) },
  { dst := some 61, op := SOp.pick (Operand.tmp 58) (Operand.tmp 60) (Operand.const (Value.bool false)), guard := none },
  { dst := some 62, op := SOp.mv (Operand.tmp 61), guard := none },
  { dst := some 63, op := SOp.mv (Operand.tmp 11), guard := some (62, true) },
  { dst := some 64, op := SOp.lenSl (Operand.tmp 63), guard := some (62, true) },
  { dst := some 65, op := SOp.ib (BinOp.eql) (Operand.tmp 64) (Operand.const (Value.int (IntKind.i64) 0)), guard := some (62, true) },
  { dst := some 66, op := SOp.pick (Operand.tmp 62) (Operand.tmp 65) (Operand.const (Value.bool false)), guard := none },
  { dst := some 67, op := SOp.mv (Operand.tmp 66), guard := none },
  { dst := some 68, op := SOp.mv (Operand.tmp 13), guard := some (67, true) },
  { dst := some 69, op := SOp.nt (Operand.tmp 68), guard := some (67, true) },
  { dst := some 70, op := SOp.pick (Operand.tmp 67) (Operand.tmp 69) (Operand.const (Value.bool false)), guard := none },
  { dst := some 71, op := SOp.mv (Operand.tmp 70), guard := none },
  { dst := some 72, op := SOp.call 16 [], guard := some (71, true) },
  { dst := some 73, op := SOp.pick (Operand.tmp 71) (Operand.tmp 72) (Operand.const (Value.bool false)), guard := none },
  { dst := some 6, op := SOp.mv (Operand.tmp 73), guard := none }]
def c9_r12 : List SIns := [
  { dst := some 74, op := SOp.mv (Operand.tmp 7), guard := none },
  { dst := some 75, op := SOp.mv (Operand.tmp 8), guard := none },
  { dst := some 76, op := SOp.call 44 [Operand.tmp 74, Operand.tmp 75], guard := none },
  { dst := some 15, op := SOp.alloc [Value.int (IntKind.i64) 0, Value.int (IntKind.i64) 0, Value.int (IntKind.i64) 0, Value.int (IntKind.i64) 0], guard := none },
  { dst := none, op := SOp.store 4 (Operand.tmp 15) (Operand.tmp 76), guard := none }]
def c9_r13 : List SIns := [
  { dst := some 77, op := SOp.mv (Operand.tmp 12), guard := none },
  { dst := some 78, op := SOp.ib (BinOp.neq) (Operand.tmp 77) (Operand.const (Value.int (IntKind.i64) 0)), guard := none },
  { dst := some 79, op := SOp.mv (Operand.tmp 78), guard := none },
  { dst := some 80, op := SOp.mv (Operand.tmp 14), guard := some (79, false) },
  { dst := some 81, op := SOp.ib (BinOp.neq) (Operand.tmp 80) (Operand.const (Value.int (IntKind.i64) 0)), guard := some (79, false) },
  { dst := some 82, op := SOp.pick (Operand.tmp 79) (Operand.const (Value.bool true)) (Operand.tmp 81), guard := none },
  { dst := some 83, op := SOp.mv (Operand.tmp 82), guard := none },
  { dst := some 84, op := SOp.mv (Operand.tmp 11), guard := some (83, false) },
  { dst := some 85, op := SOp.mv (Operand.tmp 7), guard := some (83, false) },
  { dst := some 86, op := SOp.lenSl (Operand.tmp 85), guard := some (83, false) },
  { dst := some 87, op := SOp.slcA 4 1 (Operand.tmp 15) none (some (Operand.tmp 86)) none, guard := some (83, false) },
  { dst := some 88, op := SOp.call 29 [Operand.tmp 84, Operand.tmp 87], guard := some (83, false) },
  { dst := some 89, op := SOp.nt (Operand.tmp 88), guard := some (83, false) },
  { dst := some 90, op := SOp.pick (Operand.tmp 83) (Operand.const (Value.bool true)) (Operand.tmp 89), guard := none }]
def c9_r14 : List SIns := [
  { dst := some 6, op := SOp.mv (Operand.const (Value.bool false)), guard := none }]
def c9_r15 : List SIns := [
  { dst := some 92, op := SOp.mv (Operand.tmp 7), guard := none },
  { dst := some 93, op := SOp.mv (Operand.tmp 8), guard := none },
  { dst := some 94, op := SOp.call 45 [Operand.tmp 93], guard := none },
  { dst := some 95, op := SOp.mv (Operand.tmp 7), guard := none },
  { dst := some 96, op := SOp.lenSl (Operand.tmp 95), guard := none },
  { dst := some 97, op := SOp.mks 1 1 [Value.int (IntKind.i64) 0] [(0, 1, Operand.tmp 96)], guard := none },
  { dst := some 98, op := SOp.app 1 8 (Operand.tmp 94) (Operand.tmp 97), guard := none },
  { dst := some 99, op := SOp.call 25 [Operand.tmp 92, Operand.tmp 98], guard := none },
  { dst := some 91, op := SOp.mv (Operand.tmp 99), guard := none },
  { dst := some 100, op := SOp.ext (Operand.tmp 91) 0, guard := none },
  { dst := some 101, op := SOp.ext (Operand.tmp 91) 1, guard := none },
  { dst := some 16, op := SOp.mv (Operand.tmp 100), guard := none },
  { dst := some 17, op := SOp.mv (Operand.tmp 101), guard := none }]
def c9_r16 : List SIns := [
  { dst := some 103, op := SOp.mv (Operand.tmp 7), guard := none },
  { dst := some 104, op := SOp.mk 8 (Value.int (IntKind.i64) 0) (Operand.const (Value.int (IntKind.i64) 61)) (Operand.const (Value.int (IntKind.i64) 61)), guard := none },
  { dst := some 105, op := SOp.call 25 [Operand.tmp 103, Operand.tmp 104], guard := none },
  { dst := some 102, op := SOp.mv (Operand.tmp 105), guard := none },
  { dst := some 106, op := SOp.ext (Operand.tmp 102) 0, guard := none },
  { dst := some 107, op := SOp.ext (Operand.tmp 102) 1, guard := none },
  { dst := some 18, op := SOp.mv (Operand.tmp 106), guard := none },
  { dst := some 19, op := SOp.mv (Operand.tmp 107), guard := none }]
def c9_r17 : List SIns := [
  { dst := some 108, op := SOp.mv (Operand.tmp 17), guard := none },
  { dst := some 109, op := SOp.ib (BinOp.eql) (Operand.tmp 108) (Operand.const (Value.int (IntKind.i64) 2)), guard := none },
  { dst := some 110, op := SOp.mv (Operand.tmp 109), guard := none },
  { dst := some 111, op := SOp.mv (Operand.tmp 19), guard := some (110, true) },
  { dst := some 112, op := SOp.ib (BinOp.eql) (Operand.tmp 111) (Operand.const (Value.int (IntKind.i64) 19)), guard := some (110, true) },
  { dst := some 113, op := SOp.pick (Operand.tmp 110) (Operand.tmp 112) (Operand.const (Value.bool false)), guard := none },
  { dst := some 114, op := SOp.mv (Operand.tmp 113), guard := none },
  { dst := some 115, op := SOp.call 16 [], guard := some (114, true) },
  { dst := some 116, op := SOp.pick (Operand.tmp 114) (Operand.tmp 115) (Operand.const (Value.bool false)), guard := none },
  { dst := some 6, op := SOp.mv (Operand.tmp 116), guard := none }]
def c9 : SCode := (.seq (.reg c9_r0 [1, 3, 5]) (.seq (.reg c9_r1 [1, 5, 7]) (.seq (.reg c9_r2 [1, 5, 7, 8]) (.seq (.seq (.reg c9_r3 [7, 8, 25, 26, 27]) (.block 0 (.loop c9_l0))) (.seq (.reg c9_r8 [7, 8, 11, 12]) (.seq (.reg c9_r9 [7, 8, 11, 12, 13, 14]) (.seq (.seq (.reg c9_r10 [7, 8, 11, 12, 13, 14, 55]) (.cond (Operand.tmp 55) (.seq (.reg c9_r11 [6]) .ret) .skip)) (.seq (.reg c9_r12 [7, 8, 11, 12, 14, 15]) (.seq (.seq (.reg c9_r13 [7, 8, 90]) (.cond (Operand.tmp 90) (.seq (.reg c9_r14 [6]) .ret) .skip)) (.seq (.reg c9_r15 [7, 17]) (.seq (.reg c9_r16 [17, 19]) (.seq (.reg c9_r17 [6]) .ret))))))))))))
theorem F9 : Fn Try.prog 9 c9 [SRes.tmp 6] 117 := ⟨Try.f9, Try.f9.body.getD .skip, [[1, 3, 5], [1, 5, 7], [1, 5, 7, 8], [7, 8, 25, 26, 27], [7, 8, 25, 26, 27, 28], [7, 8, 10, 25, 26, 27], [7, 8, 25, 26, 27], [7, 8, 25, 26, 27], [7, 8, 11, 12], [7, 8, 11, 12, 13, 14], [7, 8, 11, 12, 13, 14, 55], [6], [7, 8, 11, 12, 14, 15], [7, 8, 90], [6], [7, 17], [17, 19], [6]], Try.func9, by kernel_rfl, by kernel_rfl, by kernel_rfl, by kernel_rfl, by decide⟩
end Go.Sx.Wk
/- The codes of the functions, written by a program (Gen.lean), and that they are the functions'. No conditions. -/
set_option linter.unusedVariables false
set_option maxRecDepth 100000
namespace Go.Sx.Wk
open Go Go.Sx Go.Proofs

def c42_r0 : List SIns := [
  { dst := some 3, op := SOp.box (Operand.tmp 0), guard := none },
  { dst := some 6, op := SOp.mv (Operand.const (Value.slice none 0 0)), guard := none }]
def c42_r1 : List SIns := [
  { dst := some 7, op := SOp.mv (Operand.const (Value.slice none 0 0)), guard := none }]
def c42_r2 : List SIns := [
  { dst := some 10, op := SOp.off 1 (Operand.tmp 3), guard := none },
  { dst := some 11, op := SOp.off 0 (Operand.tmp 3), guard := none },
  { dst := some 12, op := SOp.load1 (Operand.tmp 11), guard := none },
  { dst := some 13, op := SOp.ci (IntKind.i64) (Operand.tmp 12), guard := none },
  { dst := some 14, op := SOp.mv (Operand.tmp 1), guard := none },
  { dst := some 15, op := SOp.ib (BinOp.rem) (Operand.tmp 13) (Operand.tmp 14), guard := none },
  { dst := some 16, op := SOp.ib (BinOp.add) (Operand.const (Value.int (IntKind.i64) 1)) (Operand.tmp 15), guard := none },
  { dst := some 17, op := SOp.slcA 4 1 (Operand.tmp 10) none (some (Operand.tmp 16)) none, guard := none },
  { dst := some 18, op := SOp.lenSl (Operand.tmp 17), guard := none },
  { dst := some 19, op := SOp.mv (Operand.const (Value.int (IntKind.i64) 0)), guard := none }]
def c42_r3 : List SIns := [
  { dst := some 20, op := SOp.ib (BinOp.lss) (Operand.tmp 19) (Operand.tmp 18), guard := none }]
def c42_r4 : List SIns := [
  { dst := some 21, op := SOp.idx 1 (Operand.tmp 17) (Operand.tmp 19), guard := none },
  { dst := some 22, op := SOp.load1 (Operand.tmp 21), guard := none },
  { dst := some 9, op := SOp.mv (Operand.tmp 22), guard := none }]
def c42_r5 : List SIns := [
  { dst := some 23, op := SOp.mv (Operand.tmp 7), guard := none },
  { dst := some 24, op := SOp.mv (Operand.tmp 9), guard := none },
  { dst := some 25, op := SOp.ci (IntKind.i64) (Operand.tmp 24), guard := none },
  { dst := some 26, op := SOp.mv (Operand.tmp 2), guard := none },
  { dst := some 27, op := SOp.ib (BinOp.rem) (Operand.tmp 25) (Operand.tmp 26), guard := none },
  { dst := some 28, op := SOp.ib (BinOp.add) (Operand.const (Value.int (IntKind.i64) 1)) (Operand.tmp 27), guard := none },
  { dst := some 29, op := SOp.mks 1 1 [Value.int (IntKind.i64) 0] [(0, 1, Operand.tmp 28)], guard := none },
  { dst := some 30, op := SOp.app 1 8 (Operand.tmp 23) (Operand.tmp 29), guard := none },
  { dst := some 7, op := SOp.mv (Operand.tmp 30), guard := none }]
def c42_r6 : List SIns := [
  { dst := some 31, op := SOp.ib (BinOp.add) (Operand.tmp 19) (Operand.const (Value.int (IntKind.i64) 1)), guard := none },
  { dst := some 19, op := SOp.mv (Operand.tmp 31), guard := none }]
def c42_l0 : SCode := (.seq (.reg c42_r3 [2, 7, 17, 18, 19, 20]) (.seq (.cond (Operand.tmp 20) .skip (.exit 0)) (.seq (.block 1 (.seq (.reg c42_r4 [2, 7, 9, 17, 18, 19]) (.reg c42_r5 [2, 7, 17, 18, 19]))) (.reg c42_r6 [2, 7, 17, 18, 19]))))
def c42_r7 : List SIns := [
  { dst := some 32, op := SOp.mv (Operand.tmp 7), guard := none },
  { dst := some 6, op := SOp.mv (Operand.tmp 32), guard := none }]
def c42 : SCode := (.seq (.reg c42_r0 [1, 2, 3]) (.seq (.reg c42_r1 [1, 2, 3, 7]) (.seq (.seq (.reg c42_r2 [2, 7, 17, 18, 19]) (.block 0 (.loop c42_l0))) (.seq (.reg c42_r7 [6]) .ret))))
theorem F42 : Fn Try.prog 42 c42 [SRes.tmp 6] 33 := ⟨Try.f42, Try.f42.body.getD .skip, [[1, 2, 3], [1, 2, 3, 7], [2, 7, 17, 18, 19], [2, 7, 17, 18, 19, 20], [2, 7, 9, 17, 18, 19], [2, 7, 17, 18, 19], [2, 7, 17, 18, 19], [6]], Try.func42, by kernel_rfl, by kernel_rfl, by kernel_rfl, by kernel_rfl, by decide⟩
end Go.Sx.Wk
/- The codes of the functions, written by a program (Gen.lean), and that they are the functions'. No conditions. -/
set_option linter.unusedVariables false
set_option maxRecDepth 100000
namespace Go.Sx.Wk
open Go Go.Sx Go.Proofs

def c43_r0 : List SIns := [
  { dst := some 4, op := SOp.mv (Operand.const (Value.bool false)), guard := none }]
def c43_r1 : List SIns := [
  { dst := some 8, op := SOp.mv (Operand.tmp 0), guard := none },
  { dst := some 9, op := SOp.lenSl (Operand.tmp 8), guard := none },
  { dst := some 10, op := SOp.mv (Operand.const (Value.int (IntKind.i64) 0)), guard := none }]
def c43_r2 : List SIns := [
  { dst := some 11, op := SOp.ib (BinOp.lss) (Operand.tmp 10) (Operand.tmp 9), guard := none }]
def c43_r3 : List SIns := [
  { dst := some 12, op := SOp.mv (Operand.tmp 10), guard := none },
  { dst := some 13, op := SOp.idx 1 (Operand.tmp 8) (Operand.tmp 10), guard := none },
  { dst := some 14, op := SOp.load1 (Operand.tmp 13), guard := none },
  { dst := some 5, op := SOp.mv (Operand.tmp 12), guard := none },
  { dst := some 6, op := SOp.mv (Operand.tmp 14), guard := none }]
def c43_r4 : List SIns := [
  { dst := some 7, op := SOp.mv (Operand.const (Value.int (IntKind.i64) 0)), guard := none }]
def c43_r5 : List SIns := [
  { dst := some 15, op := SOp.mv (Operand.tmp 7), guard := none },
  { dst := some 16, op := SOp.mv (Operand.tmp 6), guard := none },
  { dst := some 17, op := SOp.ib (BinOp.add) (Operand.tmp 15) (Operand.tmp 16), guard := none },
  { dst := some 18, op := SOp.mv (Operand.tmp 1), guard := none },
  { dst := some 19, op := SOp.lenSl (Operand.tmp 18), guard := none },
  { dst := some 20, op := SOp.ib (BinOp.leq) (Operand.tmp 17) (Operand.tmp 19), guard := none }]
def c43_r6 : List SIns := [
  { dst := some 23, op := SOp.mv (Operand.tmp 1), guard := none },
  { dst := some 24, op := SOp.mv (Operand.tmp 7), guard := none },
  { dst := some 25, op := SOp.mv (Operand.tmp 7), guard := none },
  { dst := some 26, op := SOp.mv (Operand.tmp 6), guard := none },
  { dst := some 27, op := SOp.ib (BinOp.add) (Operand.tmp 25) (Operand.tmp 26), guard := none },
  { dst := some 28, op := SOp.slc 1 (Operand.tmp 23) (some (Operand.tmp 24)) (some (Operand.tmp 27)) none, guard := none },
  { dst := some 29, op := SOp.mv (Operand.tmp 5), guard := none },
  { dst := some 30, op := SOp.call 72 [Operand.tmp 28, Operand.tmp 29], guard := none },
  { dst := some 31, op := SOp.nt (Operand.tmp 30), guard := none }]
def c43_r7 : List SIns := [
  { dst := some 4, op := SOp.mv (Operand.const (Value.bool false)), guard := none }]
def c43_r8 : List SIns := [
  { dst := some 21, op := SOp.mv (Operand.tmp 7), guard := none },
  { dst := some 22, op := SOp.ib (BinOp.add) (Operand.tmp 21) (Operand.const (Value.int (IntKind.i64) 1)), guard := none },
  { dst := some 7, op := SOp.mv (Operand.tmp 22), guard := none }]
def c43_l0 : SCode := (.seq (.seq (.reg c43_r5 [1, 5, 6, 7, 8, 9, 10, 20]) (.cond (Operand.tmp 20) .skip (.exit 2))) (.seq (.block 3 (.seq (.reg c43_r6 [1, 5, 6, 7, 8, 9, 10, 31]) (.cond (Operand.tmp 31) (.seq (.reg c43_r7 [4]) .ret) .skip))) (.reg c43_r8 [1, 5, 6, 7, 8, 9, 10])))
def c43_r9 : List SIns := [
  { dst := some 32, op := SOp.ib (BinOp.add) (Operand.tmp 10) (Operand.const (Value.int (IntKind.i64) 1)), guard := none },
  { dst := some 10, op := SOp.mv (Operand.tmp 32), guard := none }]
def c43_l1 : SCode := (.seq (.reg c43_r2 [1, 8, 9, 10, 11]) (.seq (.cond (Operand.tmp 11) .skip (.exit 0)) (.seq (.block 1 (.seq (.reg c43_r3 [1, 5, 6, 8, 9, 10]) (.seq (.reg c43_r4 [1, 5, 6, 7, 8, 9, 10]) (.block 2 (.loop c43_l0))))) (.reg c43_r9 [1, 8, 9, 10]))))
def c43_r10 : List SIns := [
  { dst := some 4, op := SOp.mv (Operand.const (Value.bool true)), guard := none }]
def c43 : SCode := (.seq (.reg c43_r0 [0, 1]) (.seq (.seq (.reg c43_r1 [1, 8, 9, 10]) (.block 0 (.loop c43_l1))) (.seq (.reg c43_r10 [4]) .ret)))
theorem F43 : Fn Try.prog 43 c43 [SRes.tmp 4] 33 := ⟨Try.f43, Try.f43.body.getD .skip, [[0, 1], [1, 8, 9, 10], [1, 8, 9, 10, 11], [1, 5, 6, 8, 9, 10], [1, 5, 6, 7, 8, 9, 10], [1, 5, 6, 7, 8, 9, 10, 20], [1, 5, 6, 7, 8, 9, 10, 31], [4], [1, 5, 6, 7, 8, 9, 10], [1, 8, 9, 10], [4]], Try.func43, by kernel_rfl, by kernel_rfl, by kernel_rfl, by kernel_rfl, by decide⟩
end Go.Sx.Wk
/- The codes of the functions, written by a program (Gen.lean), and that they are the functions'. No conditions. -/
set_option linter.unusedVariables false
set_option maxRecDepth 100000
namespace Go.Sx.Wk
open Go Go.Sx Go.Proofs

def c44_r0 : List SIns := [
  { dst := some 4, op := SOp.alloc [Value.int (IntKind.i64) 0, Value.int (IntKind.i64) 0, Value.int (IntKind.i64) 0, Value.int (IntKind.i64) 0], guard := none }]
def c44_r1 : List SIns := [
  { dst := some 5, op := SOp.alloc [Value.int (IntKind.i64) 0, Value.int (IntKind.i64) 0, Value.int (IntKind.i64) 0, Value.int (IntKind.i64) 0], guard := none }]
def c44_r2 : List SIns := [
  { dst := some 11, op := SOp.mv (Operand.tmp 0), guard := none },
  { dst := some 12, op := SOp.lenSl (Operand.tmp 11), guard := none },
  { dst := some 13, op := SOp.mv (Operand.const (Value.int (IntKind.i64) 0)), guard := none }]
def c44_r3 : List SIns := [
  { dst := some 14, op := SOp.ib (BinOp.lss) (Operand.tmp 13) (Operand.tmp 12), guard := none }]
def c44_r4 : List SIns := [
  { dst := some 15, op := SOp.mv (Operand.tmp 13), guard := none },
  { dst := some 16, op := SOp.idx 1 (Operand.tmp 11) (Operand.tmp 13), guard := none },
  { dst := some 17, op := SOp.load1 (Operand.tmp 16), guard := none },
  { dst := some 6, op := SOp.mv (Operand.tmp 15), guard := none },
  { dst := some 7, op := SOp.mv (Operand.tmp 17), guard := none }]
def c44_r5 : List SIns := [
  { dst := some 18, op := SOp.mv (Operand.tmp 1), guard := none },
  { dst := some 19, op := SOp.lenSl (Operand.tmp 18), guard := none },
  { dst := some 8, op := SOp.mv (Operand.tmp 19), guard := none }]
def c44_r6 : List SIns := [
  { dst := some 20, op := SOp.mv (Operand.tmp 1), guard := none },
  { dst := some 21, op := SOp.lenSl (Operand.tmp 20), guard := none },
  { dst := some 22, op := SOp.mv (Operand.const (Value.int (IntKind.i64) 0)), guard := none }]
def c44_r7 : List SIns := [
  { dst := some 23, op := SOp.ib (BinOp.lss) (Operand.tmp 22) (Operand.tmp 21), guard := none }]
def c44_r8 : List SIns := [
  { dst := some 24, op := SOp.mv (Operand.tmp 22), guard := none },
  { dst := some 25, op := SOp.idx 1 (Operand.tmp 20) (Operand.tmp 22), guard := none },
  { dst := some 26, op := SOp.load1 (Operand.tmp 25), guard := none },
  { dst := some 9, op := SOp.mv (Operand.tmp 24), guard := none },
  { dst := some 10, op := SOp.mv (Operand.tmp 26), guard := none }]
def c44_r9 : List SIns := [
  { dst := some 27, op := SOp.mv (Operand.tmp 10), guard := none },
  { dst := some 28, op := SOp.mv (Operand.tmp 6), guard := none },
  { dst := some 29, op := SOp.ib (BinOp.eql) (Operand.tmp 27) (Operand.tmp 28), guard := none }]
def c44_r10 : List SIns := [
  { dst := some 30, op := SOp.mv (Operand.tmp 1), guard := none },
  { dst := some 31, op := SOp.lenSl (Operand.tmp 30), guard := none },
  { dst := some 32, op := SOp.ib (BinOp.sub) (Operand.tmp 31) (Operand.const (Value.int (IntKind.i64) 1)), guard := none },
  { dst := some 33, op := SOp.mv (Operand.tmp 9), guard := none },
  { dst := some 34, op := SOp.ib (BinOp.sub) (Operand.tmp 32) (Operand.tmp 33), guard := none },
  { dst := some 8, op := SOp.mv (Operand.tmp 34), guard := none }]
def c44_r11 : List SIns := [
  { dst := some 35, op := SOp.ib (BinOp.add) (Operand.tmp 22) (Operand.const (Value.int (IntKind.i64) 1)), guard := none },
  { dst := some 22, op := SOp.mv (Operand.tmp 35), guard := none }]
def c44_l0 : SCode := (.seq (.reg c44_r7 [1, 4, 5, 6, 7, 8, 11, 12, 13, 20, 21, 22, 23]) (.seq (.cond (Operand.tmp 23) .skip (.exit 2)) (.seq (.block 3 (.seq (.reg c44_r8 [1, 4, 5, 6, 7, 8, 9, 10, 11, 12, 13, 20, 21, 22]) (.seq (.reg c44_r9 [1, 4, 5, 6, 7, 8, 9, 11, 12, 13, 20, 21, 22, 29]) (.cond (Operand.tmp 29) (.reg c44_r10 [1, 4, 5, 6, 7, 8, 11, 12, 13, 20, 21, 22]) .skip)))) (.reg c44_r11 [1, 4, 5, 6, 7, 8, 11, 12, 13, 20, 21, 22]))))
def c44_r12 : List SIns := [
  { dst := some 36, op := SOp.mv (Operand.tmp 6), guard := none },
  { dst := some 37, op := SOp.mv (Operand.tmp 7), guard := none },
  { dst := some 38, op := SOp.mv (Operand.tmp 8), guard := none },
  { dst := some 39, op := SOp.ib (BinOp.sub) (Operand.tmp 37) (Operand.tmp 38), guard := none },
  { dst := some 40, op := SOp.idxA 4 1 (Operand.tmp 5) (Operand.tmp 36), guard := none },
  { dst := none, op := SOp.store 1 (Operand.tmp 40) (Operand.tmp 39), guard := none }]
def c44_r13 : List SIns := [
  { dst := some 41, op := SOp.ib (BinOp.add) (Operand.tmp 13) (Operand.const (Value.int (IntKind.i64) 1)), guard := none },
  { dst := some 13, op := SOp.mv (Operand.tmp 41), guard := none }]
def c44_l1 : SCode := (.seq (.reg c44_r3 [1, 4, 5, 11, 12, 13, 14]) (.seq (.cond (Operand.tmp 14) .skip (.exit 0)) (.seq (.block 1 (.seq (.reg c44_r4 [1, 4, 5, 6, 7, 11, 12, 13]) (.seq (.reg c44_r5 [1, 4, 5, 6, 7, 8, 11, 12, 13]) (.seq (.seq (.reg c44_r6 [1, 4, 5, 6, 7, 8, 11, 12, 13, 20, 21, 22]) (.block 2 (.loop c44_l0))) (.reg c44_r12 [1, 4, 5, 11, 12, 13]))))) (.reg c44_r13 [1, 4, 5, 11, 12, 13]))))
def c44_r14 : List SIns := [
  { dst := some 42, op := SOp.loadN 4 (Operand.tmp 5), guard := none },
  { dst := none, op := SOp.store 4 (Operand.tmp 4) (Operand.tmp 42), guard := none }]
def c44 : SCode := (.seq (.reg c44_r0 [0, 1, 4]) (.seq (.reg c44_r1 [0, 1, 4, 5]) (.seq (.seq (.reg c44_r2 [1, 4, 5, 11, 12, 13]) (.block 0 (.loop c44_l1))) (.seq (.reg c44_r14 [4]) .ret))))
theorem F44 : Fn Try.prog 44 c44 [SRes.cell 4 (some 4)] 43 := ⟨Try.f44, Try.f44.body.getD .skip, [[0, 1, 4], [0, 1, 4, 5], [1, 4, 5, 11, 12, 13], [1, 4, 5, 11, 12, 13, 14], [1, 4, 5, 6, 7, 11, 12, 13], [1, 4, 5, 6, 7, 8, 11, 12, 13], [1, 4, 5, 6, 7, 8, 11, 12, 13, 20, 21, 22], [1, 4, 5, 6, 7, 8, 11, 12, 13, 20, 21, 22, 23], [1, 4, 5, 6, 7, 8, 9, 10, 11, 12, 13, 20, 21, 22], [1, 4, 5, 6, 7, 8, 9, 11, 12, 13, 20, 21, 22, 29], [1, 4, 5, 6, 7, 8, 11, 12, 13, 20, 21, 22], [1, 4, 5, 6, 7, 8, 11, 12, 13, 20, 21, 22], [1, 4, 5, 11, 12, 13], [1, 4, 5, 11, 12, 13], [4]], Try.func44, by kernel_rfl, by kernel_rfl, by kernel_rfl, by kernel_rfl, by decide⟩
end Go.Sx.Wk
/- The codes of the functions, written by a program (Gen.lean), and that they are the functions'. No conditions. -/
set_option linter.unusedVariables false
set_option maxRecDepth 100000
namespace Go.Sx.Wk
open Go Go.Sx Go.Proofs

def c45_r0 : List SIns := [
  { dst := some 2, op := SOp.mv (Operand.const (Value.slice none 0 0)), guard := none }]
def c45_r1 : List SIns := [
  { dst := some 3, op := SOp.mv (Operand.tmp 0), guard := none },
  { dst := some 4, op := SOp.eqn false (TypeDesc.slice 3) (Operand.tmp 3), guard := none }]
def c45_r2 : List SIns := [
  { dst := some 2, op := SOp.mv (Operand.const (Value.slice none 0 0)), guard := none }]
def c45_r3 : List SIns := [
  { dst := some 5, op := SOp.mks0 1, guard := none },
  { dst := some 6, op := SOp.mv (Operand.tmp 0), guard := none },
  { dst := some 7, op := SOp.app 1 8 (Operand.tmp 5) (Operand.tmp 6), guard := none },
  { dst := some 2, op := SOp.mv (Operand.tmp 7), guard := none }]
def c45 : SCode := (.seq (.reg c45_r0 [0]) (.seq (.seq (.reg c45_r1 [0, 4]) (.cond (Operand.tmp 4) (.seq (.reg c45_r2 [2]) .ret) .skip)) (.seq (.reg c45_r3 [2]) .ret)))
theorem F45 : Fn Try.prog 45 c45 [SRes.tmp 2] 8 := ⟨Try.f45, Try.f45.body.getD .skip, [[0], [0, 4], [2], [2]], Try.func45, by kernel_rfl, by kernel_rfl, by kernel_rfl, by kernel_rfl, by decide⟩
end Go.Sx.Wk
/- The codes of the functions, written by a program (Gen.lean), and that they are the functions'. No conditions. -/
set_option linter.unusedVariables false
set_option maxRecDepth 100000
namespace Go.Sx.Wk
open Go Go.Sx Go.Proofs

def c72_r0 : List SIns := [
  { dst := some 4, op := SOp.mv (Operand.const (Value.bool false)), guard := none }]
def c72_r1 : List SIns := [
  { dst := some 5, op := SOp.mv (Operand.tmp 0), guard := none },
  { dst := some 6, op := SOp.mv (Operand.tmp 1), guard := none },
  { dst := some 7, op := SOp.call 67 [Operand.tmp 5, Operand.tmp 6], guard := none },
  { dst := some 8, op := SOp.ib (BinOp.geq) (Operand.tmp 7) (Operand.const (Value.int (IntKind.i64) 0)), guard := none },
  { dst := some 4, op := SOp.mv (Operand.tmp 8), guard := none }]
def c72 : SCode := (.seq (.reg c72_r0 [0, 1]) (.seq (.reg c72_r1 [4]) .ret))
theorem F72 : Fn Try.prog 72 c72 [SRes.tmp 4] 9 := ⟨Try.f72, Try.f72.body.getD .skip, [[0, 1], [4]], Try.func72, by kernel_rfl, by kernel_rfl, by kernel_rfl, by kernel_rfl, by decide⟩
end Go.Sx.Wk
