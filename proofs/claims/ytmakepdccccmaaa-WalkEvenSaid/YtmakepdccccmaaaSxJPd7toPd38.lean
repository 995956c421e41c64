/- The codes of the functions, written by a program (Gen.lean), and that they are the functions'. No conditions. -/
import Derived.Test.YtmakepdccccmaaaSxJWd7toWd38
import Derived.KernelRfl
set_option linter.unusedVariables false
set_option maxRecDepth 100000
namespace Go.Sx.Wk
open Go Go.Sx Go.Proofs

noncomputable def p7_r0 : List PI := [
  ⟨none, some 1, [0], .eff fun e => effBox (e 0)⟩,
  ⟨none, some 2, [], .eff fun e => ret (.v (Value.bool false))⟩]
noncomputable def p7_r1 : List PI := [
  ⟨none, some 3, [], .eff fun e => ret (.v (Value.slice none 0 0))⟩]
noncomputable def p7_r2 : List PI := [
  ⟨none, some 8, [1], .eff fun e => effOff 1 (e 1)⟩,
  ⟨none, some 9, [1], .eff fun e => effOff 0 (e 1)⟩,
  ⟨none, some 10, [9], .eff fun e => effLoad1 (e 9)⟩,
  ⟨none, some 11, [10], .eff fun e => effCi (IntKind.i64) (e 10)⟩,
  ⟨none, some 12, [11], .eff fun e => effIb (BinOp.rem) (e 11) (.v (Value.int (IntKind.i64) 4))⟩,
  ⟨none, some 13, [12], .eff fun e => effIb (BinOp.add) (.v (Value.int (IntKind.i64) 1)) (e 12)⟩,
  ⟨none, some 14, [8, 13], .eff fun e => effSlcA 4 1 (e 8) none (some (e 13)) none⟩,
  ⟨none, some 15, [14], .eff fun e => effLenSl (e 14)⟩,
  ⟨none, some 16, [], .eff fun e => ret (.v (Value.int (IntKind.i64) 0))⟩]
noncomputable def p7_r3 : List PI := [
  ⟨none, some 17, [16, 15], .eff fun e => effIb (BinOp.lss) (e 16) (e 15)⟩]
noncomputable def p7_r4 : List PI := [
  ⟨none, some 18, [14, 16], .eff fun e => effIdx 1 (e 14) (e 16)⟩,
  ⟨none, some 19, [18], .eff fun e => effLoad1 (e 18)⟩,
  ⟨none, some 5, [19], .eff fun e => ret (e 19)⟩]
noncomputable def p7_r5 : List PI := [
  ⟨none, some 20, [3], .eff fun e => ret (e 3)⟩,
  ⟨none, some 21, [5], .eff fun e => ret (e 5)⟩,
  ⟨none, some 22, [21], .eff fun e => effIb (BinOp.rem) (e 21) (.v (Value.int (IntKind.u8) 4))⟩,
  ⟨none, some 23, [22], .eff fun e => SOp.eff Try.prog (evalA e) (SOp.bin (BinOp.shl) 3 (Operand.const (Value.int (IntKind.i64) 1)) (Operand.tmp 22))⟩,
  ⟨none, some 24, [23], .eff fun e => effMks 1 1 ([Value.int (IntKind.i64) 0]) [(0, 1, (e 23))]⟩,
  ⟨none, some 25, [20, 24], .eff fun e => effApp 1 8 (e 20) (e 24)⟩,
  ⟨none, some 3, [25], .eff fun e => ret (e 25)⟩]
noncomputable def p7_r6 : List PI := [
  ⟨none, some 26, [1], .eff fun e => effOff 0 (e 1)⟩,
  ⟨none, some 27, [26], .eff fun e => effLoad1 (e 26)⟩,
  ⟨none, some 28, [27], .eff fun e => effIb (BinOp.rem) (e 27) (.v (Value.int (IntKind.u8) 8))⟩,
  ⟨none, some 29, [28], .eff fun e => effIb (BinOp.gtr) (e 28) (.v (Value.int (IntKind.u8) 4))⟩]
noncomputable def p7_r7 : List PI := [
  ⟨none, some 30, [3], .eff fun e => ret (e 3)⟩,
  ⟨none, some 31, [3], .eff fun e => ret (e 3)⟩,
  ⟨none, some 32, [31], .eff fun e => effLenSl (e 31)⟩,
  ⟨none, some 33, [32], .eff fun e => effIb (BinOp.sub) (e 32) (.v (Value.int (IntKind.i64) 1))⟩,
  ⟨none, some 34, [], .eff fun e => effMks 4 1 ([Value.int (IntKind.i64) 0, Value.int (IntKind.i64) 0, Value.int (IntKind.i64) 0, Value.int (IntKind.i64) 0]) [(0, 1, (.v (Value.int (IntKind.i64) 1))), (1, 1, (.v (Value.int (IntKind.i64) 2))), (2, 1, (.v (Value.int (IntKind.i64) 6))), (3, 1, (.v (Value.int (IntKind.i64) 6)))]⟩,
  ⟨none, some 35, [5], .eff fun e => ret (e 5)⟩,
  ⟨none, some 36, [35], .eff fun e => effIb (BinOp.rem) (e 35) (.v (Value.int (IntKind.u8) 4))⟩,
  ⟨none, some 37, [34, 36], .eff fun e => effIdx 1 (e 34) (e 36)⟩,
  ⟨none, some 38, [37], .eff fun e => effLoad1 (e 37)⟩,
  ⟨none, some 39, [30, 33], .eff fun e => effIdx 1 (e 30) (e 33)⟩,
  ⟨none, none, [39, 38], .eff fun e => effStore 1 (e 39) (e 38)⟩]
noncomputable def p7_r8 : List PI := [
  ⟨none, some 40, [1], .eff fun e => effOff 0 (e 1)⟩,
  ⟨none, some 41, [40], .eff fun e => effLoad1 (e 40)⟩,
  ⟨none, some 42, [41], .eff fun e => effIb (BinOp.rem) (e 41) (.v (Value.int (IntKind.u8) 8))⟩,
  ⟨none, some 43, [42], .eff fun e => effIb (BinOp.eql) (e 42) (.v (Value.int (IntKind.u8) 4))⟩]
noncomputable def p7_r9 : List PI := [
  ⟨none, some 44, [3], .eff fun e => ret (e 3)⟩,
  ⟨none, some 45, [3], .eff fun e => ret (e 3)⟩,
  ⟨none, some 46, [45], .eff fun e => effLenSl (e 45)⟩,
  ⟨none, some 47, [46], .eff fun e => effIb (BinOp.sub) (e 46) (.v (Value.int (IntKind.i64) 1))⟩,
  ⟨none, some 48, [], .eff fun e => effMks 4 1 ([Value.int (IntKind.i64) 0, Value.int (IntKind.i64) 0, Value.int (IntKind.i64) 0, Value.int (IntKind.i64) 0]) [(0, 1, (.v (Value.int (IntKind.i64) 1))), (1, 1, (.v (Value.int (IntKind.i64) 3))), (2, 1, (.v (Value.int (IntKind.i64) 3))), (3, 1, (.v (Value.int (IntKind.i64) 6)))]⟩,
  ⟨none, some 49, [5], .eff fun e => ret (e 5)⟩,
  ⟨none, some 50, [49], .eff fun e => effIb (BinOp.rem) (e 49) (.v (Value.int (IntKind.u8) 4))⟩,
  ⟨none, some 51, [48, 50], .eff fun e => effIdx 1 (e 48) (e 50)⟩,
  ⟨none, some 52, [51], .eff fun e => effLoad1 (e 51)⟩,
  ⟨none, some 53, [44, 47], .eff fun e => effIdx 1 (e 44) (e 47)⟩,
  ⟨none, none, [53, 52], .eff fun e => effStore 1 (e 53) (e 52)⟩]
noncomputable def p7_r10 : List PI := [
  ⟨none, some 54, [16], .eff fun e => effIb (BinOp.add) (e 16) (.v (Value.int (IntKind.i64) 1))⟩,
  ⟨none, some 16, [54], .eff fun e => ret (e 54)⟩]
noncomputable def p7_l0 : PCode := (.seq (.reg p7_r3 [1, 3, 14, 15, 16, 17]) (.seq (.cond (Operand.tmp 17) .skip (.exit 0)) (.seq (.block 1 (.seq (.reg p7_r4 [1, 3, 5, 14, 15, 16]) (.seq (.reg p7_r5 [1, 3, 5, 14, 15, 16]) (.seq (.seq (.reg p7_r6 [1, 3, 5, 14, 15, 16, 29]) (.cond (Operand.tmp 29) (.reg p7_r7 [1, 3, 5, 14, 15, 16]) .skip)) (.seq (.reg p7_r8 [1, 3, 5, 14, 15, 16, 43]) (.cond (Operand.tmp 43) (.reg p7_r9 [1, 3, 14, 15, 16]) .skip)))))) (.reg p7_r10 [1, 3, 14, 15, 16]))))
noncomputable def p7_r11 : List PI := [
  ⟨none, some 56, [3], .eff fun e => ret (e 3)⟩,
  ⟨none, some 57, [56], .call 19 ([Operand.tmp 56])⟩,
  ⟨none, some 55, [57], .eff fun e => ret (e 57)⟩,
  ⟨none, some 58, [55], .eff fun e => effExt 0 (e 55)⟩,
  ⟨none, some 59, [55], .eff fun e => effExt 1 (e 55)⟩,
  ⟨none, some 6, [58], .eff fun e => ret (e 58)⟩,
  ⟨none, some 7, [59], .eff fun e => ret (e 59)⟩]
noncomputable def p7_r12 : List PI := [
  ⟨none, some 60, [7], .eff fun e => ret (e 7)⟩,
  ⟨none, some 61, [60], .eff fun e => effIb (BinOp.eql) (e 60) (.v (Value.int (IntKind.i64) 0))⟩,
  ⟨none, some 62, [61], .eff fun e => ret (e 61)⟩,
  ⟨some (62, true), some 63, [6], .eff fun e => ret (e 6)⟩,
  ⟨some (62, true), some 64, [3], .eff fun e => ret (e 3)⟩,
  ⟨some (62, true), some 65, [64], .call 38 ([Operand.tmp 64, Operand.const (Value.int (IntKind.i64) 1), Operand.const (Value.int (IntKind.i64) 1)])⟩,
  ⟨some (62, true), some 66, [65], .eff fun e => effIb (BinOp.leq) (e 65) (.v (Value.int (IntKind.i64) 0))⟩,
  ⟨some (62, true), some 67, [63, 66], .eff fun e => effBb false (e 63) (e 66)⟩,
  ⟨none, some 68, [62, 67], .eff fun e => effPick (e 62) (e 67) (.v (Value.bool false))⟩,
  ⟨none, some 69, [68], .eff fun e => ret (e 68)⟩,
  ⟨some (69, true), some 70, [], .call 16 ([])⟩,
  ⟨none, some 71, [69, 70], .eff fun e => effPick (e 69) (e 70) (.v (Value.bool false))⟩,
  ⟨none, some 2, [71], .eff fun e => ret (e 71)⟩]
noncomputable def p7 : PCode := (.seq (.reg p7_r0 [1]) (.seq (.reg p7_r1 [1, 3]) (.seq (.seq (.reg p7_r2 [1, 3, 14, 15, 16]) (.block 0 (.loop p7_l0))) (.seq (.reg p7_r11 [3, 6, 7]) (.seq (.reg p7_r12 [2]) .ret)))))
theorem P7 : PFn Try.prog 7 ⟨p7, [SRes.tmp 2], 72⟩ := ⟨c7, F7, by kernel_rfl⟩
end Go.Sx.Wk
/- The codes of the functions, written by a program (Gen.lean), and that they are the functions'. No conditions. -/
set_option linter.unusedVariables false
set_option maxRecDepth 100000
namespace Go.Sx.Wk
open Go Go.Sx Go.Proofs

noncomputable def p38_r0 : List PI := [
  ⟨none, some 6, [], .eff fun e => ret (.v (Value.int (IntKind.i64) 0))⟩]
noncomputable def p38_r1 : List PI := [
  ⟨none, some 7, [], .eff fun e => ret (.v (Value.int (IntKind.i64) 0))⟩]
noncomputable def p38_r2 : List PI := [
  ⟨none, some 10, [0], .eff fun e => ret (e 0)⟩,
  ⟨none, some 11, [10], .eff fun e => effLenSl (e 10)⟩,
  ⟨none, some 12, [], .eff fun e => ret (.v (Value.int (IntKind.i64) 0))⟩]
noncomputable def p38_r3 : List PI := [
  ⟨none, some 13, [12, 11], .eff fun e => effIb (BinOp.lss) (e 12) (e 11)⟩]
noncomputable def p38_r4 : List PI := [
  ⟨none, some 14, [10, 12], .eff fun e => effIdx 1 (e 10) (e 12)⟩,
  ⟨none, some 15, [14], .eff fun e => effLoad1 (e 14)⟩,
  ⟨none, some 9, [15], .eff fun e => ret (e 15)⟩]
noncomputable def p38_r5 : List PI := [
  ⟨none, some 16, [7], .eff fun e => ret (e 7)⟩,
  ⟨none, some 17, [9], .eff fun e => ret (e 9)⟩,
  ⟨none, some 18, [17], .eff fun e => effIb (BinOp.quo) (.v (Value.int (IntKind.i64) 840)) (e 17)⟩,
  ⟨none, some 19, [2], .eff fun e => ret (e 2)⟩,
  ⟨none, some 20, [18, 19], .eff fun e => effIb (BinOp.mul) (e 18) (e 19)⟩,
  ⟨none, some 21, [16, 20], .eff fun e => effIb (BinOp.add) (e 16) (e 20)⟩,
  ⟨none, some 7, [21], .eff fun e => ret (e 21)⟩]
noncomputable def p38_r6 : List PI := [
  ⟨none, some 22, [12], .eff fun e => effIb (BinOp.add) (e 12) (.v (Value.int (IntKind.i64) 1))⟩,
  ⟨none, some 12, [22], .eff fun e => ret (e 22)⟩]
noncomputable def p38_l0 : PCode := (.seq (.reg p38_r3 [1, 2, 7, 10, 11, 12, 13]) (.seq (.cond (Operand.tmp 13) .skip (.exit 0)) (.seq (.block 1 (.seq (.reg p38_r4 [1, 2, 7, 9, 10, 11, 12]) (.reg p38_r5 [1, 2, 7, 10, 11, 12]))) (.reg p38_r6 [1, 2, 7, 10, 11, 12]))))
noncomputable def p38_r7 : List PI := [
  ⟨none, some 23, [7], .eff fun e => ret (e 7)⟩,
  ⟨none, some 24, [1], .eff fun e => ret (e 1)⟩,
  ⟨none, some 25, [24], .eff fun e => effIb (BinOp.mul) (.v (Value.int (IntKind.i64) 840)) (e 24)⟩,
  ⟨none, some 26, [23, 25], .eff fun e => effIb (BinOp.sub) (e 23) (e 25)⟩,
  ⟨none, some 27, [26], .eff fun e => effBig true [(.v (Value.int (IntKind.i64) (-1))), (e 26)]⟩,
  ⟨none, some 28, [27], .eff fun e => effBig false [(.v (Value.int (IntKind.i64) 1)), (e 27)]⟩,
  ⟨none, some 6, [28], .eff fun e => ret (e 28)⟩]
noncomputable def p38 : PCode := (.seq (.reg p38_r0 [0, 1, 2]) (.seq (.reg p38_r1 [0, 1, 2, 7]) (.seq (.seq (.reg p38_r2 [1, 2, 7, 10, 11, 12]) (.block 0 (.loop p38_l0))) (.seq (.reg p38_r7 [6]) .ret))))
theorem P38 : PFn Try.prog 38 ⟨p38, [SRes.tmp 6], 29⟩ := ⟨c38, F38, by kernel_rfl⟩
end Go.Sx.Wk
