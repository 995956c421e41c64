/- The codes of the functions, written by a program (Gen.lean), and that they are the functions'. No conditions. -/
import Derived.Test.YtmakepdccccmaaaSxN
import Derived.KernelRfl
import Derived.Test.YtmakepdccccmaaaProg
set_option linter.unusedVariables false
set_option maxRecDepth 100000
namespace Go.Sx.Wk
open Go Go.Sx Go.Proofs

def c15_r0 : List SIns := [
  { dst := some 5, op := SOp.box (Operand.tmp 0), guard := none },
  { dst := some 7, op := SOp.box (Operand.tmp 2), guard := none },
  { dst := some 10, op := SOp.mv (Operand.const (Value.bool false)), guard := none }]
def c15_r1 : List SIns := [
  { dst := some 26, op := SOp.loadN 5 (Operand.tmp 5), guard := none },
  { dst := some 27, op := SOp.call 42 [Operand.tmp 26, Operand.const (Value.int (IntKind.i64) 3), Operand.const (Value.int (IntKind.i64) 7)], guard := none },
  { dst := some 11, op := SOp.mv (Operand.tmp 27), guard := none }]
def c15_r2 : List SIns := [
  { dst := some 12, op := SOp.mv (Operand.const (Value.slice none 0 0)), guard := none }]
def c15_r3 : List SIns := [
  { dst := some 28, op := SOp.mv (Operand.tmp 1), guard := none },
  { dst := some 29, op := SOp.ci (IntKind.i64) (Operand.tmp 28), guard := none },
  { dst := some 30, op := SOp.ib (BinOp.rem) (Operand.tmp 29) (Operand.const (Value.int (IntKind.i64) 12)), guard := none },
  { dst := some 31, op := SOp.ib (BinOp.add) (Operand.const (Value.int (IntKind.i64) 1)) (Operand.tmp 30), guard := none },
  { dst := some 32, op := SOp.slcA 12 1 (Operand.tmp 7) none (some (Operand.tmp 31)) none, guard := none },
  { dst := some 33, op := SOp.lenSl (Operand.tmp 32), guard := none },
  { dst := some 34, op := SOp.mv (Operand.const (Value.int (IntKind.i64) 0)), guard := none }]
def c15_r4 : List SIns := [
  { dst := some 35, op := SOp.ib (BinOp.lss) (Operand.tmp 34) (Operand.tmp 33), guard := none }]
def c15_r5 : List SIns := [
  { dst := some 36, op := SOp.idx 1 (Operand.tmp 32) (Operand.tmp 34), guard := none },
  { dst := some 37, op := SOp.load1 (Operand.tmp 36), guard := none },
  { dst := some 14, op := SOp.mv (Operand.tmp 37), guard := none }]
def c15_r6 : List SIns := [
  { dst := some 38, op := SOp.mv (Operand.tmp 12), guard := none },
  { dst := some 39, op := SOp.mv (Operand.tmp 14), guard := none },
  { dst := some 40, op := SOp.ci (IntKind.i64) (Operand.tmp 39), guard := none },
  { dst := some 41, op := SOp.mv (Operand.tmp 11), guard := none },
  { dst := some 42, op := SOp.lenSl (Operand.tmp 41), guard := none },
  { dst := some 43, op := SOp.ib (BinOp.rem) (Operand.tmp 40) (Operand.tmp 42), guard := none },
  { dst := some 44, op := SOp.mks 1 1 [Value.int (IntKind.i64) 0] [(0, 1, Operand.tmp 43)], guard := none },
  { dst := some 45, op := SOp.app 1 8 (Operand.tmp 38) (Operand.tmp 44), guard := none },
  { dst := some 12, op := SOp.mv (Operand.tmp 45), guard := none }]
def c15_r7 : List SIns := [
  { dst := some 46, op := SOp.ib (BinOp.add) (Operand.tmp 34) (Operand.const (Value.int (IntKind.i64) 1)), guard := none },
  { dst := some 34, op := SOp.mv (Operand.tmp 46), guard := none }]
def c15_l0 : SCode := (.seq (.reg c15_r4 [3, 4, 11, 12, 32, 33, 34, 35]) (.seq (.cond (Operand.tmp 35) .skip (.exit 0)) (.seq (.block 1 (.seq (.reg c15_r5 [3, 4, 11, 12, 14, 32, 33, 34]) (.reg c15_r6 [3, 4, 11, 12, 32, 33, 34]))) (.reg c15_r7 [3, 4, 11, 12, 32, 33, 34]))))
def c15_r8 : List SIns := [
  { dst := some 15, op := SOp.mv (Operand.const (Value.bool true)), guard := none }]
def c15_r9 : List SIns := [
  { dst := some 47, op := SOp.mv (Operand.tmp 11), guard := none },
  { dst := some 48, op := SOp.lenSl (Operand.tmp 47), guard := none },
  { dst := some 49, op := SOp.mv (Operand.const (Value.int (IntKind.i64) 0)), guard := none }]
def c15_r10 : List SIns := [
  { dst := some 50, op := SOp.ib (BinOp.lss) (Operand.tmp 49) (Operand.tmp 48), guard := none }]
def c15_r11 : List SIns := [
  { dst := some 51, op := SOp.mv (Operand.tmp 49), guard := none },
  { dst := some 52, op := SOp.idx 1 (Operand.tmp 47) (Operand.tmp 49), guard := none },
  { dst := some 53, op := SOp.load1 (Operand.tmp 52), guard := none },
  { dst := some 16, op := SOp.mv (Operand.tmp 51), guard := none },
  { dst := some 17, op := SOp.mv (Operand.tmp 53), guard := none }]
def c15_r12 : List SIns := [
  { dst := some 54, op := SOp.mv (Operand.tmp 12), guard := none },
  { dst := some 55, op := SOp.lenSl (Operand.tmp 54), guard := none },
  { dst := some 56, op := SOp.mv (Operand.const (Value.int (IntKind.i64) 0)), guard := none }]
def c15_r13 : List SIns := [
  { dst := some 57, op := SOp.ib (BinOp.lss) (Operand.tmp 56) (Operand.tmp 55), guard := none }]
def c15_r14 : List SIns := [
  { dst := some 58, op := SOp.mv (Operand.tmp 56), guard := none },
  { dst := some 18, op := SOp.mv (Operand.tmp 58), guard := none }]
def c15_r15 : List SIns := [
  { dst := some 19, op := SOp.mv (Operand.const (Value.bool false)), guard := none }]
def c15_r16 : List SIns := [
  { dst := some 59, op := SOp.mv (Operand.tmp 17), guard := none },
  { dst := some 60, op := SOp.mv (Operand.const (Value.int (IntKind.i64) 0)), guard := none }]
def c15_r17 : List SIns := [
  { dst := some 61, op := SOp.ib (BinOp.lss) (Operand.tmp 60) (Operand.tmp 59), guard := none }]
def c15_r18 : List SIns := [
  { dst := some 62, op := SOp.mv (Operand.tmp 60), guard := none },
  { dst := some 20, op := SOp.mv (Operand.tmp 62), guard := none }]
def c15_r19 : List SIns := [
  { dst := some 63, op := SOp.mv (Operand.tmp 19), guard := none },
  { dst := some 64, op := SOp.mv (Operand.tmp 63), guard := none },
  { dst := some 65, op := SOp.mv (Operand.tmp 12), guard := some (64, false) },
  { dst := some 66, op := SOp.mv (Operand.tmp 18), guard := some (64, false) },
  { dst := some 67, op := SOp.mv (Operand.tmp 20), guard := some (64, false) },
  { dst := some 68, op := SOp.ib (BinOp.add) (Operand.tmp 66) (Operand.tmp 67), guard := some (64, false) },
  { dst := some 69, op := SOp.mv (Operand.tmp 12), guard := some (64, false) },
  { dst := some 70, op := SOp.lenSl (Operand.tmp 69), guard := some (64, false) },
  { dst := some 71, op := SOp.ib (BinOp.rem) (Operand.tmp 68) (Operand.tmp 70), guard := some (64, false) },
  { dst := some 72, op := SOp.idx 1 (Operand.tmp 65) (Operand.tmp 71), guard := some (64, false) },
  { dst := some 73, op := SOp.load1 (Operand.tmp 72), guard := some (64, false) },
  { dst := some 74, op := SOp.mv (Operand.tmp 16), guard := some (64, false) },
  { dst := some 75, op := SOp.ib (BinOp.eql) (Operand.tmp 73) (Operand.tmp 74), guard := some (64, false) },
  { dst := some 76, op := SOp.pick (Operand.tmp 64) (Operand.const (Value.bool true)) (Operand.tmp 75), guard := none },
  { dst := some 19, op := SOp.mv (Operand.tmp 76), guard := none }]
def c15_r20 : List SIns := [
  { dst := some 77, op := SOp.ib (BinOp.add) (Operand.tmp 60) (Operand.const (Value.int (IntKind.i64) 1)), guard := none },
  { dst := some 60, op := SOp.mv (Operand.tmp 77), guard := none }]
def c15_l1 : SCode := (.seq (.reg c15_r17 [3, 4, 11, 12, 15, 16, 17, 18, 19, 47, 48, 49, 55, 56, 59, 60, 61]) (.seq (.cond (Operand.tmp 61) .skip (.exit 6)) (.seq (.block 7 (.seq (.reg c15_r18 [3, 4, 11, 12, 15, 16, 17, 18, 19, 20, 47, 48, 49, 55, 56, 59, 60]) (.reg c15_r19 [3, 4, 11, 12, 15, 16, 17, 18, 19, 47, 48, 49, 55, 56, 59, 60]))) (.reg c15_r20 [3, 4, 11, 12, 15, 16, 17, 18, 19, 47, 48, 49, 55, 56, 59, 60]))))
def c15_r21 : List SIns := [
  { dst := some 78, op := SOp.mv (Operand.tmp 15), guard := none },
  { dst := some 79, op := SOp.mv (Operand.tmp 78), guard := none },
  { dst := some 80, op := SOp.mv (Operand.tmp 19), guard := some (79, true) },
  { dst := some 81, op := SOp.pick (Operand.tmp 79) (Operand.tmp 80) (Operand.const (Value.bool false)), guard := none },
  { dst := some 15, op := SOp.mv (Operand.tmp 81), guard := none }]
def c15_r22 : List SIns := [
  { dst := some 82, op := SOp.ib (BinOp.add) (Operand.tmp 56) (Operand.const (Value.int (IntKind.i64) 1)), guard := none },
  { dst := some 56, op := SOp.mv (Operand.tmp 82), guard := none }]
def c15_l2 : SCode := (.seq (.reg c15_r13 [3, 4, 11, 12, 15, 16, 17, 47, 48, 49, 55, 56, 57]) (.seq (.cond (Operand.tmp 57) .skip (.exit 4)) (.seq (.block 5 (.seq (.reg c15_r14 [3, 4, 11, 12, 15, 16, 17, 18, 47, 48, 49, 55, 56]) (.seq (.reg c15_r15 [3, 4, 11, 12, 15, 16, 17, 18, 19, 47, 48, 49, 55, 56]) (.seq (.seq (.reg c15_r16 [3, 4, 11, 12, 15, 16, 17, 18, 19, 47, 48, 49, 55, 56, 59, 60]) (.block 6 (.loop c15_l1))) (.reg c15_r21 [3, 4, 11, 12, 15, 16, 17, 47, 48, 49, 55, 56]))))) (.reg c15_r22 [3, 4, 11, 12, 15, 16, 17, 47, 48, 49, 55, 56]))))
def c15_r23 : List SIns := [
  { dst := some 83, op := SOp.ib (BinOp.add) (Operand.tmp 49) (Operand.const (Value.int (IntKind.i64) 1)), guard := none },
  { dst := some 49, op := SOp.mv (Operand.tmp 83), guard := none }]
def c15_l3 : SCode := (.seq (.reg c15_r10 [3, 4, 11, 12, 15, 47, 48, 49, 50]) (.seq (.cond (Operand.tmp 50) .skip (.exit 2)) (.seq (.block 3 (.seq (.reg c15_r11 [3, 4, 11, 12, 15, 16, 17, 47, 48, 49]) (.seq (.reg c15_r12 [3, 4, 11, 12, 15, 16, 17, 47, 48, 49, 55, 56]) (.block 4 (.loop c15_l2))))) (.reg c15_r23 [3, 4, 11, 12, 15, 47, 48, 49]))))
def c15_r24 : List SIns := [
  { dst := some 21, op := SOp.mv (Operand.const (Value.int (IntKind.i64) 14)), guard := none }]
def c15_r25 : List SIns := [
  { dst := some 84, op := SOp.mv (Operand.tmp 15), guard := none }]
def c15_r26 : List SIns := [
  { dst := some 21, op := SOp.mv (Operand.const (Value.int (IntKind.i64) 0)), guard := none }]
def c15_r27 : List SIns := [
  { dst := some 85, op := SOp.mv (Operand.tmp 3), guard := none },
  { dst := some 86, op := SOp.ci (IntKind.i64) (Operand.tmp 85), guard := none },
  { dst := some 87, op := SOp.mv (Operand.tmp 12), guard := none },
  { dst := some 88, op := SOp.lenSl (Operand.tmp 87), guard := none },
  { dst := some 89, op := SOp.ib (BinOp.rem) (Operand.tmp 86) (Operand.tmp 88), guard := none },
  { dst := some 22, op := SOp.mv (Operand.tmp 89), guard := none }]
def c15_r28 : List SIns := [
  { dst := some 90, op := SOp.mv (Operand.tmp 12), guard := none },
  { dst := some 91, op := SOp.mv (Operand.tmp 22), guard := none },
  { dst := some 92, op := SOp.slc 1 (Operand.tmp 90) (some (Operand.tmp 91)) none none, guard := none },
  { dst := some 93, op := SOp.mv (Operand.tmp 12), guard := none },
  { dst := some 94, op := SOp.mv (Operand.tmp 22), guard := none },
  { dst := some 95, op := SOp.slc 1 (Operand.tmp 93) none (some (Operand.tmp 94)) none, guard := none },
  { dst := some 96, op := SOp.mks 2 1 [Value.slice none 0 0, Value.slice none 0 0] [(0, 1, Operand.tmp 92), (1, 1, Operand.tmp 95)], guard := none },
  { dst := some 97, op := SOp.call 51 [Operand.tmp 96], guard := none },
  { dst := some 23, op := SOp.mv (Operand.tmp 97), guard := none }]
def c15_r29 : List SIns := [
  { dst := some 98, op := SOp.mv (Operand.tmp 12), guard := none },
  { dst := some 99, op := SOp.call 45 [Operand.tmp 98], guard := none },
  { dst := some 24, op := SOp.mv (Operand.tmp 99), guard := none }]
def c15_r30 : List SIns := [
  { dst := some 100, op := SOp.mv (Operand.tmp 24), guard := none },
  { dst := some 101, op := SOp.call 52 [Operand.tmp 100], guard := none }]
def c15_r31 : List SIns := [
  { dst := some 102, op := SOp.mv (Operand.tmp 11), guard := none },
  { dst := some 103, op := SOp.call 45 [Operand.tmp 102], guard := none },
  { dst := some 25, op := SOp.mv (Operand.tmp 103), guard := none }]
def c15_r32 : List SIns := [
  { dst := some 104, op := SOp.mv (Operand.tmp 25), guard := none },
  { dst := some 105, op := SOp.mv (Operand.tmp 4), guard := none },
  { dst := some 106, op := SOp.ci (IntKind.i64) (Operand.tmp 105), guard := none },
  { dst := some 107, op := SOp.mv (Operand.tmp 25), guard := none },
  { dst := some 108, op := SOp.lenSl (Operand.tmp 107), guard := none },
  { dst := some 109, op := SOp.ib (BinOp.rem) (Operand.tmp 106) (Operand.tmp 108), guard := none },
  { dst := some 110, op := SOp.idx 1 (Operand.tmp 104) (Operand.tmp 109), guard := none },
  { dst := some 111, op := SOp.load1 (Operand.tmp 110), guard := none },
  { dst := some 112, op := SOp.ib (BinOp.add) (Operand.tmp 111) (Operand.const (Value.int (IntKind.i64) 1)), guard := none },
  { dst := some 113, op := SOp.idx 1 (Operand.tmp 104) (Operand.tmp 109), guard := none },
  { dst := none, op := SOp.store 1 (Operand.tmp 113) (Operand.tmp 112), guard := none }]
def c15_r33 : List SIns := [
  { dst := some 114, op := SOp.mv (Operand.tmp 11), guard := none },
  { dst := some 115, op := SOp.mv (Operand.tmp 12), guard := none },
  { dst := some 116, op := SOp.call 30 [Operand.tmp 114, Operand.tmp 115], guard := none },
  { dst := some 117, op := SOp.mv (Operand.tmp 21), guard := none },
  { dst := some 118, op := SOp.ib (BinOp.eql) (Operand.tmp 116) (Operand.tmp 117), guard := none },
  { dst := some 119, op := SOp.mv (Operand.tmp 118), guard := none },
  { dst := some 120, op := SOp.mv (Operand.tmp 11), guard := some (119, true) },
  { dst := some 121, op := SOp.mv (Operand.tmp 23), guard := some (119, true) },
  { dst := some 122, op := SOp.call 30 [Operand.tmp 120, Operand.tmp 121], guard := some (119, true) },
  { dst := some 123, op := SOp.mv (Operand.tmp 21), guard := some (119, true) },
  { dst := some 124, op := SOp.ib (BinOp.eql) (Operand.tmp 122) (Operand.tmp 123), guard := some (119, true) },
  { dst := some 125, op := SOp.pick (Operand.tmp 119) (Operand.tmp 124) (Operand.const (Value.bool false)), guard := none },
  { dst := some 126, op := SOp.mv (Operand.tmp 125), guard := none },
  { dst := some 127, op := SOp.mv (Operand.tmp 11), guard := some (126, true) },
  { dst := some 128, op := SOp.mv (Operand.tmp 24), guard := some (126, true) },
  { dst := some 129, op := SOp.call 30 [Operand.tmp 127, Operand.tmp 128], guard := some (126, true) },
  { dst := some 130, op := SOp.mv (Operand.tmp 21), guard := some (126, true) },
  { dst := some 131, op := SOp.ib (BinOp.eql) (Operand.tmp 129) (Operand.tmp 130), guard := some (126, true) },
  { dst := some 132, op := SOp.pick (Operand.tmp 126) (Operand.tmp 131) (Operand.const (Value.bool false)), guard := none },
  { dst := some 133, op := SOp.mv (Operand.tmp 132), guard := none },
  { dst := some 134, op := SOp.mv (Operand.tmp 15), guard := some (133, true) },
  { dst := some 135, op := SOp.nt (Operand.tmp 134), guard := some (133, true) },
  { dst := some 136, op := SOp.mv (Operand.tmp 135), guard := some (133, true) },
  { dst := some 137, op := SOp.mv (Operand.tmp 25), guard := some (136, false) },
  { dst := some 138, op := SOp.mv (Operand.tmp 12), guard := some (136, false) },
  { dst := some 139, op := SOp.call 30 [Operand.tmp 137, Operand.tmp 138], guard := some (136, false) },
  { dst := some 140, op := SOp.ib (BinOp.eql) (Operand.tmp 139) (Operand.const (Value.int (IntKind.i64) 0)), guard := some (136, false) },
  { dst := some 141, op := SOp.pick (Operand.tmp 136) (Operand.const (Value.bool true)) (Operand.tmp 140), guard := some (133, true) },
  { dst := some 142, op := SOp.pick (Operand.tmp 133) (Operand.tmp 141) (Operand.const (Value.bool false)), guard := none },
  { dst := some 143, op := SOp.mv (Operand.tmp 142), guard := none },
  { dst := some 144, op := SOp.call 16 [], guard := some (143, true) },
  { dst := some 145, op := SOp.pick (Operand.tmp 143) (Operand.tmp 144) (Operand.const (Value.bool false)), guard := none },
  { dst := some 10, op := SOp.mv (Operand.tmp 145), guard := none }]
def c15 : SCode := (.seq (.reg c15_r0 [1, 3, 4, 5, 7]) (.seq (.reg c15_r1 [1, 3, 4, 7, 11]) (.seq (.reg c15_r2 [1, 3, 4, 7, 11, 12]) (.seq (.seq (.reg c15_r3 [3, 4, 11, 12, 32, 33, 34]) (.block 0 (.loop c15_l0))) (.seq (.reg c15_r8 [3, 4, 11, 12, 15]) (.seq (.seq (.reg c15_r9 [3, 4, 11, 12, 15, 47, 48, 49]) (.block 2 (.loop c15_l3))) (.seq (.reg c15_r24 [3, 4, 11, 12, 15, 21]) (.seq (.seq (.reg c15_r25 [3, 4, 11, 12, 15, 21, 84]) (.cond (Operand.tmp 84) (.reg c15_r26 [3, 4, 11, 12, 15, 21]) .skip)) (.seq (.reg c15_r27 [4, 11, 12, 15, 21, 22]) (.seq (.draw c15_r28 [[], [], [0, 1], [], [], [3, 4], [2, 5, 0, 1, 3, 4], [6, 2, 5, 0, 1, 3, 4], [7, 7, 0, 1, 2, 3, 4, 5, 6, 7, 6, 2, 5, 0, 1, 3, 4, 6, 2, 5, 0, 1, 3, 4, 0, 1, 3, 4, 2, 5, 0, 1, 3, 4, 6, 2, 5, 0, 1, 3, 4]] [4, 11, 12, 15, 21, 23]) (.seq (.reg c15_r29 [4, 11, 12, 15, 21, 23, 24]) (.seq (.reg c15_r30 [4, 11, 12, 15, 21, 23, 24]) (.seq (.reg c15_r31 [4, 11, 12, 15, 21, 23, 24, 25]) (.seq (.reg c15_r32 [11, 12, 15, 21, 23, 24, 25]) (.seq (.reg c15_r33 [10]) .ret)))))))))))))))
theorem F15 : Fn Try.prog 15 c15 [SRes.tmp 10] 146 := ⟨Try.f15, Try.f15.body.getD .skip, [[1, 3, 4, 5, 7], [1, 3, 4, 7, 11], [1, 3, 4, 7, 11, 12], [3, 4, 11, 12, 32, 33, 34], [3, 4, 11, 12, 32, 33, 34, 35], [3, 4, 11, 12, 14, 32, 33, 34], [3, 4, 11, 12, 32, 33, 34], [3, 4, 11, 12, 32, 33, 34], [3, 4, 11, 12, 15], [3, 4, 11, 12, 15, 47, 48, 49], [3, 4, 11, 12, 15, 47, 48, 49, 50], [3, 4, 11, 12, 15, 16, 17, 47, 48, 49], [3, 4, 11, 12, 15, 16, 17, 47, 48, 49, 55, 56], [3, 4, 11, 12, 15, 16, 17, 47, 48, 49, 55, 56, 57], [3, 4, 11, 12, 15, 16, 17, 18, 47, 48, 49, 55, 56], [3, 4, 11, 12, 15, 16, 17, 18, 19, 47, 48, 49, 55, 56], [3, 4, 11, 12, 15, 16, 17, 18, 19, 47, 48, 49, 55, 56, 59, 60], [3, 4, 11, 12, 15, 16, 17, 18, 19, 47, 48, 49, 55, 56, 59, 60, 61], [3, 4, 11, 12, 15, 16, 17, 18, 19, 20, 47, 48, 49, 55, 56, 59, 60], [3, 4, 11, 12, 15, 16, 17, 18, 19, 47, 48, 49, 55, 56, 59, 60], [3, 4, 11, 12, 15, 16, 17, 18, 19, 47, 48, 49, 55, 56, 59, 60], [3, 4, 11, 12, 15, 16, 17, 47, 48, 49, 55, 56], [3, 4, 11, 12, 15, 16, 17, 47, 48, 49, 55, 56], [3, 4, 11, 12, 15, 47, 48, 49], [3, 4, 11, 12, 15, 21], [3, 4, 11, 12, 15, 21, 84], [3, 4, 11, 12, 15, 21], [4, 11, 12, 15, 21, 22], [4, 11, 12, 15, 21, 23], [4, 11, 12, 15, 21, 23, 24], [4, 11, 12, 15, 21, 23, 24], [4, 11, 12, 15, 21, 23, 24, 25], [11, 12, 15, 21, 23, 24, 25], [10]], Try.func15, by kernel_rfl, by kernel_rfl, by kernel_rfl, by kernel_rfl, by decide⟩
end Go.Sx.Wk
/- The codes of the functions, written by a program (Gen.lean), and that they are the functions'. No conditions. -/
set_option linter.unusedVariables false
set_option maxRecDepth 100000
namespace Go.Sx.Wk
open Go Go.Sx Go.Proofs

def c42_r0 : List SIns := [
  { dst := some 3, op := SOp.box (Operand.tmp 0), guard := none },
  { dst := some 6, op := SOp.mv (Operand.const (Value.slice none 0 0)), guard := none }]
def c42_r1 : List SIns := [
  { dst := some 7, op := SOp.mv (Operand.const (Value.slice none 0 0)), guard := none }]
def c42_r2 : List SIns := [
  { dst := some 10, op := SOp.off 1 (Operand.tmp 3), guard := none },
  { dst := some 11, op := SOp.off 0 (Operand.tmp 3), guard := none },
  { dst := some 12, op := SOp.load1 (Operand.tmp 11), guard := none },
  { dst := some 13, op := SOp.ci (IntKind.i64) (Operand.tmp 12), guard := none },
  { dst := some 14, op := SOp.mv (Operand.tmp 1), guard := none },
  { dst := some 15, op := SOp.ib (BinOp.rem) (Operand.tmp 13) (Operand.tmp 14), guard := none },
  { dst := some 16, op := SOp.ib (BinOp.add) (Operand.const (Value.int (IntKind.i64) 1)) (Operand.tmp 15), guard := none },
  { dst := some 17, op := SOp.slcA 4 1 (Operand.tmp 10) none (some (Operand.tmp 16)) none, guard := none },
  { dst := some 18, op := SOp.lenSl (Operand.tmp 17), guard := none },
  { dst := some 19, op := SOp.mv (Operand.const (Value.int (IntKind.i64) 0)), guard := none }]
def c42_r3 : List SIns := [
  { dst := some 20, op := SOp.ib (BinOp.lss) (Operand.tmp 19) (Operand.tmp 18), guard := none }]
def c42_r4 : List SIns := [
  { dst := some 21, op := SOp.idx 1 (Operand.tmp 17) (Operand.tmp 19), guard := none },
  { dst := some 22, op := SOp.load1 (Operand.tmp 21), guard := none },
  { dst := some 9, op := SOp.mv (Operand.tmp 22), guard := none }]
def c42_r5 : List SIns := [
  { dst := some 23, op := SOp.mv (Operand.tmp 7), guard := none },
  { dst := some 24, op := SOp.mv (Operand.tmp 9), guard := none },
  { dst := some 25, op := SOp.ci (IntKind.i64) (Operand.tmp 24), guard := none },
  { dst := some 26, op := SOp.mv (Operand.tmp 2), guard := none },
  { dst := some 27, op := SOp.ib (BinOp.rem) (Operand.tmp 25) (Operand.tmp 26), guard := none },
  { dst := some 28, op := SOp.ib (BinOp.add) (Operand.const (Value.int (IntKind.i64) 1)) (Operand.tmp 27), guard := none },
  { dst := some 29, op := SOp.mks 1 1 [Value.int (IntKind.i64) 0] [(0, 1, Operand.tmp 28)], guard := none },
  { dst := some 30, op := SOp.app 1 8 (Operand.tmp 23) (Operand.tmp 29), guard := none },
  { dst := some 7, op := SOp.mv (Operand.tmp 30), guard := none }]
def c42_r6 : List SIns := [
  { dst := some 31, op := SOp.ib (BinOp.add) (Operand.tmp 19) (Operand.const (Value.int (IntKind.i64) 1)), guard := none },
  { dst := some 19, op := SOp.mv (Operand.tmp 31), guard := none }]
def c42_l0 : SCode := (.seq (.reg c42_r3 [2, 7, 17, 18, 19, 20]) (.seq (.cond (Operand.tmp 20) .skip (.exit 0)) (.seq (.block 1 (.seq (.reg c42_r4 [2, 7, 9, 17, 18, 19]) (.reg c42_r5 [2, 7, 17, 18, 19]))) (.reg c42_r6 [2, 7, 17, 18, 19]))))
def c42_r7 : List SIns := [
  { dst := some 32, op := SOp.mv (Operand.tmp 7), guard := none },
  { dst := some 6, op := SOp.mv (Operand.tmp 32), guard := none }]
def c42 : SCode := (.seq (.reg c42_r0 [1, 2, 3]) (.seq (.reg c42_r1 [1, 2, 3, 7]) (.seq (.seq (.reg c42_r2 [2, 7, 17, 18, 19]) (.block 0 (.loop c42_l0))) (.seq (.reg c42_r7 [6]) .ret))))
theorem F42 : Fn Try.prog 42 c42 [SRes.tmp 6] 33 := ⟨Try.f42, Try.f42.body.getD .skip, [[1, 2, 3], [1, 2, 3, 7], [2, 7, 17, 18, 19], [2, 7, 17, 18, 19, 20], [2, 7, 9, 17, 18, 19], [2, 7, 17, 18, 19], [2, 7, 17, 18, 19], [6]], Try.func42, by kernel_rfl, by kernel_rfl, by kernel_rfl, by kernel_rfl, by decide⟩
end Go.Sx.Wk
/- The codes of the functions, written by a program (Gen.lean), and that they are the functions'. No conditions. -/
set_option linter.unusedVariables false
set_option maxRecDepth 100000
namespace Go.Sx.Wk
open Go Go.Sx Go.Proofs

def c43_r0 : List SIns := [
  { dst := some 4, op := SOp.mv (Operand.const (Value.bool false)), guard := none }]
def c43_r1 : List SIns := [
  { dst := some 8, op := SOp.mv (Operand.tmp 0), guard := none },
  { dst := some 9, op := SOp.lenSl (Operand.tmp 8), guard := none },
  { dst := some 10, op := SOp.mv (Operand.const (Value.int (IntKind.i64) 0)), guard := none }]
def c43_r2 : List SIns := [
  { dst := some 11, op := SOp.ib (BinOp.lss) (Operand.tmp 10) (Operand.tmp 9), guard := none }]
def c43_r3 : List SIns := [
  { dst := some 12, op := SOp.mv (Operand.tmp 10), guard := none },
  { dst := some 13, op := SOp.idx 1 (Operand.tmp 8) (Operand.tmp 10), guard := none },
  { dst := some 14, op := SOp.load1 (Operand.tmp 13), guard := none },
  { dst := some 5, op := SOp.mv (Operand.tmp 12), guard := none },
  { dst := some 6, op := SOp.mv (Operand.tmp 14), guard := none }]
def c43_r4 : List SIns := [
  { dst := some 7, op := SOp.mv (Operand.const (Value.int (IntKind.i64) 0)), guard := none }]
def c43_r5 : List SIns := [
  { dst := some 15, op := SOp.mv (Operand.tmp 7), guard := none },
  { dst := some 16, op := SOp.mv (Operand.tmp 6), guard := none },
  { dst := some 17, op := SOp.ib (BinOp.add) (Operand.tmp 15) (Operand.tmp 16), guard := none },
  { dst := some 18, op := SOp.mv (Operand.tmp 1), guard := none },
  { dst := some 19, op := SOp.lenSl (Operand.tmp 18), guard := none },
  { dst := some 20, op := SOp.ib (BinOp.leq) (Operand.tmp 17) (Operand.tmp 19), guard := none }]
def c43_r6 : List SIns := [
  { dst := some 23, op := SOp.mv (Operand.tmp 1), guard := none },
  { dst := some 24, op := SOp.mv (Operand.tmp 7), guard := none },
  { dst := some 25, op := SOp.mv (Operand.tmp 7), guard := none },
  { dst := some 26, op := SOp.mv (Operand.tmp 6), guard := none },
  { dst := some 27, op := SOp.ib (BinOp.add) (Operand.tmp 25) (Operand.tmp 26), guard := none },
  { dst := some 28, op := SOp.slc 1 (Operand.tmp 23) (some (Operand.tmp 24)) (some (Operand.tmp 27)) none, guard := none },
  { dst := some 29, op := SOp.mv (Operand.tmp 5), guard := none },
  { dst := some 30, op := SOp.call 72 [Operand.tmp 28, Operand.tmp 29], guard := none },
  { dst := some 31, op := SOp.nt (Operand.tmp 30), guard := none }]
def c43_r7 : List SIns := [
  { dst := some 4, op := SOp.mv (Operand.const (Value.bool false)), guard := none }]
def c43_r8 : List SIns := [
  { dst := some 21, op := SOp.mv (Operand.tmp 7), guard := none },
  { dst := some 22, op := SOp.ib (BinOp.add) (Operand.tmp 21) (Operand.const (Value.int (IntKind.i64) 1)), guard := none },
  { dst := some 7, op := SOp.mv (Operand.tmp 22), guard := none }]
def c43_l0 : SCode := (.seq (.seq (.reg c43_r5 [1, 5, 6, 7, 8, 9, 10, 20]) (.cond (Operand.tmp 20) .skip (.exit 2))) (.seq (.block 3 (.seq (.reg c43_r6 [1, 5, 6, 7, 8, 9, 10, 31]) (.cond (Operand.tmp 31) (.seq (.reg c43_r7 [4]) .ret) .skip))) (.reg c43_r8 [1, 5, 6, 7, 8, 9, 10])))
def c43_r9 : List SIns := [
  { dst := some 32, op := SOp.ib (BinOp.add) (Operand.tmp 10) (Operand.const (Value.int (IntKind.i64) 1)), guard := none },
  { dst := some 10, op := SOp.mv (Operand.tmp 32), guard := none }]
def c43_l1 : SCode := (.seq (.reg c43_r2 [1, 8, 9, 10, 11]) (.seq (.cond (Operand.tmp 11) .skip (.exit 0)) (.seq (.block 1 (.seq (.reg c43_r3 [1, 5, 6, 8, 9, 10]) (.seq (.reg c43_r4 [1, 5, 6, 7, 8, 9, 10]) (.block 2 (.loop c43_l0))))) (.reg c43_r9 [1, 8, 9, 10]))))
def c43_r10 : List SIns := [
  { dst := some 4, op := SOp.mv (Operand.const (Value.bool true)), guard := none }]
def c43 : SCode := (.seq (.reg c43_r0 [0, 1]) (.seq (.seq (.reg c43_r1 [1, 8, 9, 10]) (.block 0 (.loop c43_l1))) (.seq (.reg c43_r10 [4]) .ret)))
theorem F43 : Fn Try.prog 43 c43 [SRes.tmp 4] 33 := ⟨Try.f43, Try.f43.body.getD .skip, [[0, 1], [1, 8, 9, 10], [1, 8, 9, 10, 11], [1, 5, 6, 8, 9, 10], [1, 5, 6, 7, 8, 9, 10], [1, 5, 6, 7, 8, 9, 10, 20], [1, 5, 6, 7, 8, 9, 10, 31], [4], [1, 5, 6, 7, 8, 9, 10], [1, 8, 9, 10], [4]], Try.func43, by kernel_rfl, by kernel_rfl, by kernel_rfl, by kernel_rfl, by decide⟩
end Go.Sx.Wk
/- The codes of the functions, written by a program (Gen.lean), and that they are the functions'. No conditions. -/
set_option linter.unusedVariables false
set_option maxRecDepth 100000
namespace Go.Sx.Wk
open Go Go.Sx Go.Proofs

def c44_r0 : List SIns := [
  { dst := some 4, op := SOp.alloc [Value.int (IntKind.i64) 0, Value.int (IntKind.i64) 0, Value.int (IntKind.i64) 0, Value.int (IntKind.i64) 0], guard := none }]
def c44_r1 : List SIns := [
  { dst := some 5, op := SOp.alloc [Value.int (IntKind.i64) 0, Value.int (IntKind.i64) 0, Value.int (IntKind.i64) 0, Value.int (IntKind.i64) 0], guard := none }]
def c44_r2 : List SIns := [
  { dst := some 11, op := SOp.mv (Operand.tmp 0), guard := none },
  { dst := some 12, op := SOp.lenSl (Operand.tmp 11), guard := none },
  { dst := some 13, op := SOp.mv (Operand.const (Value.int (IntKind.i64) 0)), guard := none }]
def c44_r3 : List SIns := [
  { dst := some 14, op := SOp.ib (BinOp.lss) (Operand.tmp 13) (Operand.tmp 12), guard := none }]
def c44_r4 : List SIns := [
  { dst := some 15, op := SOp.mv (Operand.tmp 13), guard := none },
  { dst := some 16, op := SOp.idx 1 (Operand.tmp 11) (Operand.tmp 13), guard := none },
  { dst := some 17, op := SOp.load1 (Operand.tmp 16), guard := none },
  { dst := some 6, op := SOp.mv (Operand.tmp 15), guard := none },
  { dst := some 7, op := SOp.mv (Operand.tmp 17), guard := none }]
def c44_r5 : List SIns := [
  { dst := some 18, op := SOp.mv (Operand.tmp 1), guard := none },
  { dst := some 19, op := SOp.lenSl (Operand.tmp 18), guard := none },
  { dst := some 8, op := SOp.mv (Operand.tmp 19), guard := none }]
def c44_r6 : List SIns := [
  { dst := some 20, op := SOp.mv (Operand.tmp 1), guard := none },
  { dst := some 21, op := SOp.lenSl (Operand.tmp 20), guard := none },
  { dst := some 22, op := SOp.mv (Operand.const (Value.int (IntKind.i64) 0)), guard := none }]
def c44_r7 : List SIns := [
  { dst := some 23, op := SOp.ib (BinOp.lss) (Operand.tmp 22) (Operand.tmp 21), guard := none }]
def c44_r8 : List SIns := [
  { dst := some 24, op := SOp.mv (Operand.tmp 22), guard := none },
  { dst := some 25, op := SOp.idx 1 (Operand.tmp 20) (Operand.tmp 22), guard := none },
  { dst := some 26, op := SOp.load1 (Operand.tmp 25), guard := none },
  { dst := some 9, op := SOp.mv (Operand.tmp 24), guard := none },
  { dst := some 10, op := SOp.mv (Operand.tmp 26), guard := none }]
def c44_r9 : List SIns := [
  { dst := some 27, op := SOp.mv (Operand.tmp 10), guard := none },
  { dst := some 28, op := SOp.mv (Operand.tmp 6), guard := none },
  { dst := some 29, op := SOp.ib (BinOp.eql) (Operand.tmp 27) (Operand.tmp 28), guard := none }]
def c44_r10 : List SIns := [
  { dst := some 30, op := SOp.mv (Operand.tmp 1), guard := none },
  { dst := some 31, op := SOp.lenSl (Operand.tmp 30), guard := none },
  { dst := some 32, op := SOp.ib (BinOp.sub) (Operand.tmp 31) (Operand.const (Value.int (IntKind.i64) 1)), guard := none },
  { dst := some 33, op := SOp.mv (Operand.tmp 9), guard := none },
  { dst := some 34, op := SOp.ib (BinOp.sub) (Operand.tmp 32) (Operand.tmp 33), guard := none },
  { dst := some 8, op := SOp.mv (Operand.tmp 34), guard := none }]
def c44_r11 : List SIns := [
  { dst := some 35, op := SOp.ib (BinOp.add) (Operand.tmp 22) (Operand.const (Value.int (IntKind.i64) 1)), guard := none },
  { dst := some 22, op := SOp.mv (Operand.tmp 35), guard := none }]
def c44_l0 : SCode := (.seq (.reg c44_r7 [1, 4, 5, 6, 7, 8, 11, 12, 13, 20, 21, 22, 23]) (.seq (.cond (Operand.tmp 23) .skip (.exit 2)) (.seq (.block 3 (.seq (.reg c44_r8 [1, 4, 5, 6, 7, 8, 9, 10, 11, 12, 13, 20, 21, 22]) (.seq (.reg c44_r9 [1, 4, 5, 6, 7, 8, 9, 11, 12, 13, 20, 21, 22, 29]) (.cond (Operand.tmp 29) (.reg c44_r10 [1, 4, 5, 6, 7, 8, 11, 12, 13, 20, 21, 22]) .skip)))) (.reg c44_r11 [1, 4, 5, 6, 7, 8, 11, 12, 13, 20, 21, 22]))))
def c44_r12 : List SIns := [
  { dst := some 36, op := SOp.mv (Operand.tmp 6), guard := none },
  { dst := some 37, op := SOp.mv (Operand.tmp 7), guard := none },
  { dst := some 38, op := SOp.mv (Operand.tmp 8), guard := none },
  { dst := some 39, op := SOp.ib (BinOp.sub) (Operand.tmp 37) (Operand.tmp 38), guard := none },
  { dst := some 40, op := SOp.idxA 4 1 (Operand.tmp 5) (Operand.tmp 36), guard := none },
  { dst := none, op := SOp.store 1 (Operand.tmp 40) (Operand.tmp 39), guard := none }]
def c44_r13 : List SIns := [
  { dst := some 41, op := SOp.ib (BinOp.add) (Operand.tmp 13) (Operand.const (Value.int (IntKind.i64) 1)), guard := none },
  { dst := some 13, op := SOp.mv (Operand.tmp 41), guard := none }]
def c44_l1 : SCode := (.seq (.reg c44_r3 [1, 4, 5, 11, 12, 13, 14]) (.seq (.cond (Operand.tmp 14) .skip (.exit 0)) (.seq (.block 1 (.seq (.reg c44_r4 [1, 4, 5, 6, 7, 11, 12, 13]) (.seq (.reg c44_r5 [1, 4, 5, 6, 7, 8, 11, 12, 13]) (.seq (.seq (.reg c44_r6 [1, 4, 5, 6, 7, 8, 11, 12, 13, 20, 21, 22]) (.block 2 (.loop c44_l0))) (.reg c44_r12 [1, 4, 5, 11, 12, 13]))))) (.reg c44_r13 [1, 4, 5, 11, 12, 13]))))
def c44_r14 : List SIns := [
  { dst := some 42, op := SOp.loadN 4 (Operand.tmp 5), guard := none },
  { dst := none, op := SOp.store 4 (Operand.tmp 4) (Operand.tmp 42), guard := none }]
def c44 : SCode := (.seq (.reg c44_r0 [0, 1, 4]) (.seq (.reg c44_r1 [0, 1, 4, 5]) (.seq (.seq (.reg c44_r2 [1, 4, 5, 11, 12, 13]) (.block 0 (.loop c44_l1))) (.seq (.reg c44_r14 [4]) .ret))))
theorem F44 : Fn Try.prog 44 c44 [SRes.cell 4 (some 4)] 43 := ⟨Try.f44, Try.f44.body.getD .skip, [[0, 1, 4], [0, 1, 4, 5], [1, 4, 5, 11, 12, 13], [1, 4, 5, 11, 12, 13, 14], [1, 4, 5, 6, 7, 11, 12, 13], [1, 4, 5, 6, 7, 8, 11, 12, 13], [1, 4, 5, 6, 7, 8, 11, 12, 13, 20, 21, 22], [1, 4, 5, 6, 7, 8, 11, 12, 13, 20, 21, 22, 23], [1, 4, 5, 6, 7, 8, 9, 10, 11, 12, 13, 20, 21, 22], [1, 4, 5, 6, 7, 8, 9, 11, 12, 13, 20, 21, 22, 29], [1, 4, 5, 6, 7, 8, 11, 12, 13, 20, 21, 22], [1, 4, 5, 6, 7, 8, 11, 12, 13, 20, 21, 22], [1, 4, 5, 11, 12, 13], [1, 4, 5, 11, 12, 13], [4]], Try.func44, by kernel_rfl, by kernel_rfl, by kernel_rfl, by kernel_rfl, by decide⟩
end Go.Sx.Wk
/- The codes of the functions, written by a program (Gen.lean), and that they are the functions'. No conditions. -/
set_option linter.unusedVariables false
set_option maxRecDepth 100000
namespace Go.Sx.Wk
open Go Go.Sx Go.Proofs

def c45_r0 : List SIns := [
  { dst := some 2, op := SOp.mv (Operand.const (Value.slice none 0 0)), guard := none }]
def c45_r1 : List SIns := [
  { dst := some 3, op := SOp.mv (Operand.tmp 0), guard := none },
  { dst := some 4, op := SOp.eqn false (TypeDesc.slice 3) (Operand.tmp 3), guard := none }]
def c45_r2 : List SIns := [
  { dst := some 2, op := SOp.mv (Operand.const (Value.slice none 0 0)), guard := none }]
def c45_r3 : List SIns := [
  { dst := some 5, op := SOp.mks0 1, guard := none },
  { dst := some 6, op := SOp.mv (Operand.tmp 0), guard := none },
  { dst := some 7, op := SOp.app 1 8 (Operand.tmp 5) (Operand.tmp 6), guard := none },
  { dst := some 2, op := SOp.mv (Operand.tmp 7), guard := none }]
def c45 : SCode := (.seq (.reg c45_r0 [0]) (.seq (.seq (.reg c45_r1 [0, 4]) (.cond (Operand.tmp 4) (.seq (.reg c45_r2 [2]) .ret) .skip)) (.seq (.reg c45_r3 [2]) .ret)))
theorem F45 : Fn Try.prog 45 c45 [SRes.tmp 2] 8 := ⟨Try.f45, Try.f45.body.getD .skip, [[0], [0, 4], [2], [2]], Try.func45, by kernel_rfl, by kernel_rfl, by kernel_rfl, by kernel_rfl, by decide⟩
end Go.Sx.Wk
/- The codes of the functions, written by a program (Gen.lean), and that they are the functions'. No conditions. -/
set_option linter.unusedVariables false
set_option maxRecDepth 100000
namespace Go.Sx.Wk
open Go Go.Sx Go.Proofs

def c51_r0 : List SIns := [
  { dst := some 2, op := SOp.mv (Operand.const (Value.slice none 0 0)), guard := none }]
def c51_r1 : List SIns := [
  { dst := some 3, op := SOp.mv (Operand.const (Value.int (IntKind.i64) 0)), guard := none }]
def c51_r2 : List SIns := [
  { dst := some 9, op := SOp.mv (Operand.tmp 0), guard := none },
  { dst := some 10, op := SOp.lenSl (Operand.tmp 9), guard := none },
  { dst := some 11, op := SOp.mv (Operand.const (Value.int (IntKind.i64) 0)), guard := none }]
def c51_r3 : List SIns := [
  { dst := some 12, op := SOp.ib (BinOp.lss) (Operand.tmp 11) (Operand.tmp 10), guard := none }]
def c51_r4 : List SIns := [
  { dst := some 13, op := SOp.idx 1 (Operand.tmp 9) (Operand.tmp 11), guard := none },
  { dst := some 14, op := SOp.load1 (Operand.tmp 13), guard := none },
  { dst := some 5, op := SOp.mv (Operand.tmp 14), guard := none }]
def c51_r5 : List SIns := [
  { dst := some 15, op := SOp.mv (Operand.tmp 3), guard := none },
  { dst := some 16, op := SOp.mv (Operand.tmp 5), guard := none },
  { dst := some 17, op := SOp.lenSl (Operand.tmp 16), guard := none },
  { dst := some 18, op := SOp.ib (BinOp.add) (Operand.tmp 15) (Operand.tmp 17), guard := none },
  { dst := some 3, op := SOp.mv (Operand.tmp 18), guard := none }]
def c51_r6 : List SIns := [
  { dst := some 19, op := SOp.mv (Operand.tmp 3), guard := none },
  { dst := some 20, op := SOp.ib (BinOp.lss) (Operand.tmp 19) (Operand.const (Value.int (IntKind.i64) 0)), guard := none }]
def c51_r7 : List SIns := [
  { dst := some 21, op := SOp.mkifc 9 (Operand.const (Value.string (⟨#[108, 101, 110, 32, 111, 117, 116, 32, 111, 102, 32, 114, 97, 110, 103, 101]⟩ : ByteArray))), guard := none },
  { dst := none, op := SOp.fail, guard := none }]
def c51_r8 : List SIns := [
  { dst := some 22, op := SOp.ib (BinOp.add) (Operand.tmp 11) (Operand.const (Value.int (IntKind.i64) 1)), guard := none },
  { dst := some 11, op := SOp.mv (Operand.tmp 22), guard := none }]
def c51_l0 : SCode := (.seq (.reg c51_r3 [0, 3, 9, 10, 11, 12]) (.seq (.cond (Operand.tmp 12) .skip (.exit 0)) (.seq (.block 1 (.seq (.reg c51_r4 [0, 3, 5, 9, 10, 11]) (.seq (.reg c51_r5 [0, 3, 9, 10, 11]) (.seq (.reg c51_r6 [0, 3, 9, 10, 11, 20]) (.cond (Operand.tmp 20) (.reg c51_r7 [0, 3, 9, 10, 11]) .skip))))) (.reg c51_r8 [0, 3, 9, 10, 11]))))
def c51_r9 : List SIns := [
  { dst := some 23, op := SOp.mv (Operand.tmp 3), guard := none },
  { dst := some 24, op := SOp.call 76 [Operand.const (Value.slice none 0 0), Operand.tmp 23], guard := none },
  { dst := some 6, op := SOp.mv (Operand.tmp 24), guard := none }]
def c51_r10 : List SIns := [
  { dst := some 25, op := SOp.mv (Operand.tmp 0), guard := none },
  { dst := some 26, op := SOp.lenSl (Operand.tmp 25), guard := none },
  { dst := some 27, op := SOp.mv (Operand.const (Value.int (IntKind.i64) 0)), guard := none }]
def c51_r11 : List SIns := [
  { dst := some 28, op := SOp.ib (BinOp.lss) (Operand.tmp 27) (Operand.tmp 26), guard := none }]
def c51_r12 : List SIns := [
  { dst := some 29, op := SOp.idx 1 (Operand.tmp 25) (Operand.tmp 27), guard := none },
  { dst := some 30, op := SOp.load1 (Operand.tmp 29), guard := none },
  { dst := some 8, op := SOp.mv (Operand.tmp 30), guard := none }]
def c51_r13 : List SIns := [
  { dst := some 31, op := SOp.mv (Operand.tmp 6), guard := none },
  { dst := some 32, op := SOp.mv (Operand.tmp 8), guard := none },
  { dst := some 33, op := SOp.app 1 8 (Operand.tmp 31) (Operand.tmp 32), guard := none },
  { dst := some 6, op := SOp.mv (Operand.tmp 33), guard := none }]
def c51_r14 : List SIns := [
  { dst := some 34, op := SOp.ib (BinOp.add) (Operand.tmp 27) (Operand.const (Value.int (IntKind.i64) 1)), guard := none },
  { dst := some 27, op := SOp.mv (Operand.tmp 34), guard := none }]
def c51_l1 : SCode := (.seq (.reg c51_r11 [6, 25, 26, 27, 28]) (.seq (.cond (Operand.tmp 28) .skip (.exit 2)) (.seq (.block 3 (.seq (.reg c51_r12 [6, 8, 25, 26, 27]) (.reg c51_r13 [6, 25, 26, 27]))) (.reg c51_r14 [6, 25, 26, 27]))))
def c51_r15 : List SIns := [
  { dst := some 35, op := SOp.mv (Operand.tmp 6), guard := none },
  { dst := some 2, op := SOp.mv (Operand.tmp 35), guard := none }]
def c51 : SCode := (.seq (.reg c51_r0 [0]) (.seq (.reg c51_r1 [0, 3]) (.seq (.seq (.reg c51_r2 [0, 3, 9, 10, 11]) (.block 0 (.loop c51_l0))) (.seq (.reg c51_r9 [0, 6]) (.seq (.seq (.reg c51_r10 [6, 25, 26, 27]) (.block 2 (.loop c51_l1))) (.seq (.reg c51_r15 [2]) .ret))))))
theorem F51 : Fn Try.prog 51 c51 [SRes.tmp 2] 36 := ⟨Try.f51, Try.f51.body.getD .skip, [[0], [0, 3], [0, 3, 9, 10, 11], [0, 3, 9, 10, 11, 12], [0, 3, 5, 9, 10, 11], [0, 3, 9, 10, 11], [0, 3, 9, 10, 11, 20], [0, 3, 9, 10, 11], [0, 3, 9, 10, 11], [0, 6], [6, 25, 26, 27], [6, 25, 26, 27, 28], [6, 8, 25, 26, 27], [6, 25, 26, 27], [6, 25, 26, 27], [2]], Try.func51, by kernel_rfl, by kernel_rfl, by kernel_rfl, by kernel_rfl, by decide⟩
end Go.Sx.Wk
/- The codes of the functions, written by a program (Gen.lean), and that they are the functions'. No conditions. -/
set_option linter.unusedVariables false
set_option maxRecDepth 100000
namespace Go.Sx.Wk
open Go Go.Sx Go.Proofs

def c52_r0 : List SIns := [
  { dst := some 4, op := SOp.mv (Operand.tmp 0), guard := none },
  { dst := some 5, op := SOp.lenSl (Operand.tmp 4), guard := none },
  { dst := some 6, op := SOp.ib (BinOp.sub) (Operand.tmp 5) (Operand.const (Value.int (IntKind.i64) 1)), guard := none },
  { dst := some 2, op := SOp.mv (Operand.const (Value.int (IntKind.i64) 0)), guard := none },
  { dst := some 3, op := SOp.mv (Operand.tmp 6), guard := none }]
def c52_r1 : List SIns := [
  { dst := some 7, op := SOp.mv (Operand.tmp 2), guard := none },
  { dst := some 8, op := SOp.mv (Operand.tmp 3), guard := none },
  { dst := some 9, op := SOp.ib (BinOp.lss) (Operand.tmp 7) (Operand.tmp 8), guard := none }]
def c52_r2 : List SIns := [
  { dst := some 14, op := SOp.mv (Operand.tmp 0), guard := none },
  { dst := some 15, op := SOp.mv (Operand.tmp 2), guard := none },
  { dst := some 16, op := SOp.mv (Operand.tmp 0), guard := none },
  { dst := some 17, op := SOp.mv (Operand.tmp 3), guard := none },
  { dst := some 18, op := SOp.mv (Operand.tmp 0), guard := none },
  { dst := some 19, op := SOp.mv (Operand.tmp 3), guard := none },
  { dst := some 20, op := SOp.idx 1 (Operand.tmp 18) (Operand.tmp 19), guard := none },
  { dst := some 21, op := SOp.load1 (Operand.tmp 20), guard := none },
  { dst := some 22, op := SOp.mv (Operand.tmp 0), guard := none },
  { dst := some 23, op := SOp.mv (Operand.tmp 2), guard := none },
  { dst := some 24, op := SOp.idx 1 (Operand.tmp 22) (Operand.tmp 23), guard := none },
  { dst := some 25, op := SOp.load1 (Operand.tmp 24), guard := none },
  { dst := some 26, op := SOp.idx 1 (Operand.tmp 14) (Operand.tmp 15), guard := none },
  { dst := none, op := SOp.store 1 (Operand.tmp 26) (Operand.tmp 21), guard := none },
  { dst := some 27, op := SOp.idx 1 (Operand.tmp 16) (Operand.tmp 17), guard := none },
  { dst := none, op := SOp.store 1 (Operand.tmp 27) (Operand.tmp 25), guard := none }]
def c52_r3 : List SIns := [
  { dst := some 10, op := SOp.mv (Operand.tmp 2), guard := none },
  { dst := some 11, op := SOp.ib (BinOp.add) (Operand.tmp 10) (Operand.const (Value.int (IntKind.i64) 1)), guard := none },
  { dst := some 12, op := SOp.mv (Operand.tmp 3), guard := none },
  { dst := some 13, op := SOp.ib (BinOp.sub) (Operand.tmp 12) (Operand.const (Value.int (IntKind.i64) 1)), guard := none },
  { dst := some 2, op := SOp.mv (Operand.tmp 11), guard := none },
  { dst := some 3, op := SOp.mv (Operand.tmp 13), guard := none }]
def c52_l0 : SCode := (.seq (.seq (.reg c52_r1 [0, 2, 3, 9]) (.cond (Operand.tmp 9) .skip (.exit 0))) (.seq (.block 1 (.draw c52_r2 [[], [], [], [], [], [], [4, 5], [6, 4, 5], [], [], [8, 9], [10, 8, 9], [0, 1, 0, 1, 4, 5, 6, 7, 11, 4, 5, 6, 4, 5, 10, 8, 9], [12, 7, 0, 1, 4, 5, 6, 7, 11, 0, 1, 0, 1, 4, 5, 6, 7, 11, 4, 5, 6, 4, 5, 10, 8, 9, 6, 4, 5, 4, 5, 6, 4, 5, 10, 8, 9], [2, 3, 0, 1, 2, 3, 4, 5, 6, 7, 8, 9, 10, 11, 12, 13, 4, 5, 6, 4, 5, 8, 9, 10, 8, 9, 0, 1, 0, 1, 4, 5, 6, 7, 11, 4, 5, 6, 4, 5, 10, 8, 9, 12, 7, 0, 1, 4, 5, 6, 7, 11, 0, 1, 0, 1, 4, 5, 6, 7, 11, 4, 5, 6, 4, 5, 10, 8, 9, 6, 4, 5, 4, 5, 6, 4, 5, 10, 8, 9], [14, 11, 13, 0, 1, 2, 3, 4, 5, 6, 7, 8, 9, 10, 11, 12, 13, 2, 3, 0, 1, 2, 3, 4, 5, 6, 7, 8, 9, 10, 11, 12, 13, 4, 5, 6, 4, 5, 8, 9, 10, 8, 9, 0, 1, 0, 1, 4, 5, 6, 7, 11, 4, 5, 6, 4, 5, 10, 8, 9, 12, 7, 0, 1, 4, 5, 6, 7, 11, 0, 1, 0, 1, 4, 5, 6, 7, 11, 4, 5, 6, 4, 5, 10, 8, 9, 6, 4, 5, 4, 5, 6, 4, 5, 10, 8, 9, 10, 8, 9, 12, 7, 0, 1, 4, 5, 6, 7, 11, 0, 1, 0, 1, 4, 5, 6, 7, 11, 4, 5, 6, 4, 5, 10, 8, 9, 6, 4, 5, 4, 5, 6, 4, 5, 10, 8, 9, 4, 5, 6, 4, 5, 8, 9, 10, 8, 9, 0, 1, 0, 1, 4, 5, 6, 7, 11, 4, 5, 6, 4, 5, 10, 8, 9, 12, 7, 0, 1, 4, 5, 6, 7, 11, 0, 1, 0, 1, 4, 5, 6, 7, 11, 4, 5, 6, 4, 5, 10, 8, 9, 6, 4, 5, 4, 5, 6, 4, 5, 10, 8, 9]] [0, 2, 3])) (.reg c52_r3 [0, 2, 3])))
def c52 : SCode := (.seq (.reg c52_r0 [0, 2, 3]) (.block 0 (.loop c52_l0)))
theorem F52 : Fn Try.prog 52 c52 [] 28 := ⟨Try.f52, Try.f52.body.getD .skip, [[0, 2, 3], [0, 2, 3, 9], [0, 2, 3], [0, 2, 3]], Try.func52, by kernel_rfl, by kernel_rfl, by kernel_rfl, by kernel_rfl, by decide⟩
end Go.Sx.Wk
/- The codes of the functions, written by a program (Gen.lean), and that they are the functions'. No conditions. -/
set_option linter.unusedVariables false
set_option maxRecDepth 100000
namespace Go.Sx.Wk
open Go Go.Sx Go.Proofs

def c72_r0 : List SIns := [
  { dst := some 4, op := SOp.mv (Operand.const (Value.bool false)), guard := none }]
def c72_r1 : List SIns := [
  { dst := some 5, op := SOp.mv (Operand.tmp 0), guard := none },
  { dst := some 6, op := SOp.mv (Operand.tmp 1), guard := none },
  { dst := some 7, op := SOp.call 67 [Operand.tmp 5, Operand.tmp 6], guard := none },
  { dst := some 8, op := SOp.ib (BinOp.geq) (Operand.tmp 7) (Operand.const (Value.int (IntKind.i64) 0)), guard := none },
  { dst := some 4, op := SOp.mv (Operand.tmp 8), guard := none }]
def c72 : SCode := (.seq (.reg c72_r0 [0, 1]) (.seq (.reg c72_r1 [4]) .ret))
theorem F72 : Fn Try.prog 72 c72 [SRes.tmp 4] 9 := ⟨Try.f72, Try.f72.body.getD .skip, [[0, 1], [4]], Try.func72, by kernel_rfl, by kernel_rfl, by kernel_rfl, by kernel_rfl, by decide⟩
end Go.Sx.Wk
