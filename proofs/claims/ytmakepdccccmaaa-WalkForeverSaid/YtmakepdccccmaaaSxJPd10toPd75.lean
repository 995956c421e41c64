/- The codes of the functions, written by a program (Gen.lean), and that they are the functions'. No conditions. -/
import Derived.Test.YtmakepdccccmaaaSxJWd10toWd75
import Derived.KernelRfl
set_option linter.unusedVariables false
set_option maxRecDepth 100000
namespace Go.Sx.Wk
open Go Go.Sx Go.Proofs

noncomputable def p10_r0 : List PI := [
  ⟨none, some 1, [0], .eff fun e => effBox (e 0)⟩,
  ⟨none, some 2, [], .eff fun e => ret (.v (Value.bool false))⟩]
noncomputable def p10_r1 : List PI := [
  ⟨none, some 9, [1], .eff fun e => effLoadN 5 (e 1)⟩,
  ⟨none, some 10, [9], .call 42 ([Operand.tmp 9, Operand.const (Value.int (IntKind.i64) 3), Operand.const (Value.int (IntKind.i64) 6)])⟩,
  ⟨none, some 3, [10], .eff fun e => ret (e 10)⟩]
noncomputable def p10_r2 : List PI := [
  ⟨none, some 11, [3], .eff fun e => ret (e 3)⟩,
  ⟨none, some 12, [11], .call 46 ([Operand.tmp 11])⟩,
  ⟨none, some 4, [12], .eff fun e => ret (e 12)⟩]
noncomputable def p10_r3 : List PI := [
  ⟨none, some 14, [3], .eff fun e => ret (e 3)⟩,
  ⟨none, some 15, [14], .call 19 ([Operand.tmp 14])⟩,
  ⟨none, some 13, [15], .eff fun e => ret (e 15)⟩,
  ⟨none, some 16, [13], .eff fun e => effExt 0 (e 13)⟩,
  ⟨none, some 17, [13], .eff fun e => effExt 1 (e 13)⟩,
  ⟨none, some 5, [16], .eff fun e => ret (e 16)⟩,
  ⟨none, some 6, [17], .eff fun e => ret (e 17)⟩]
noncomputable def p10_r4 : List PI := [
  ⟨none, some 19, [3], .eff fun e => ret (e 3)⟩,
  ⟨none, some 20, [19], .call 21 ([Operand.tmp 19])⟩,
  ⟨none, some 18, [20], .eff fun e => ret (e 20)⟩,
  ⟨none, some 21, [18], .eff fun e => effExt 0 (e 18)⟩,
  ⟨none, some 22, [18], .eff fun e => effExt 1 (e 18)⟩,
  ⟨none, some 7, [21], .eff fun e => ret (e 21)⟩,
  ⟨none, some 8, [22], .eff fun e => ret (e 22)⟩]
noncomputable def p10_r5 : List PI := [
  ⟨none, some 23, [6], .eff fun e => ret (e 6)⟩,
  ⟨none, some 24, [23], .eff fun e => effIb (BinOp.neq) (e 23) (.v (Value.int (IntKind.i64) 0))⟩,
  ⟨none, some 25, [24], .eff fun e => ret (e 24)⟩,
  ⟨some (25, false), some 26, [5], .eff fun e => ret (e 5)⟩,
  ⟨some (25, false), some 27, [4], .eff fun e => ret (e 4)⟩,
  ⟨some (25, false), some 28, [27], .eff fun e => effIb (BinOp.lss) (e 27) (.v (Value.int (IntKind.i64) 0))⟩,
  ⟨some (25, false), some 29, [26, 28], .eff fun e => effBb true (e 26) (e 28)⟩,
  ⟨none, some 30, [25, 29], .eff fun e => effPick (e 25) (.v (Value.bool true)) (e 29)⟩]
noncomputable def p10_r6 : List PI := [
  ⟨none, some 2, [], .eff fun e => ret (.v (Value.bool false))⟩]
noncomputable def p10_r7 : List PI := [
  ⟨none, some 31, [5], .eff fun e => ret (e 5)⟩]
noncomputable def p10_r8 : List PI := [
  ⟨none, some 32, [8], .eff fun e => ret (e 8)⟩,
  ⟨none, some 33, [32], .eff fun e => effIb (BinOp.eql) (e 32) (.v (Value.int (IntKind.i64) 13))⟩,
  ⟨none, some 34, [33], .eff fun e => ret (e 33)⟩,
  ⟨some (34, true), some 35, [7], .eff fun e => ret (e 7)⟩,
  ⟨some (34, true), some 36, [35], .eff fun e => effIb (BinOp.eql) (e 35) (.v (Value.int (IntKind.i64) 0))⟩,
  ⟨none, some 37, [34, 36], .eff fun e => effPick (e 34) (e 36) (.v (Value.bool false))⟩,
  ⟨none, some 38, [37], .eff fun e => ret (e 37)⟩,
  ⟨some (38, true), some 39, [], .call 16 ([])⟩,
  ⟨none, some 40, [38, 39], .eff fun e => effPick (e 38) (e 39) (.v (Value.bool false))⟩,
  ⟨none, some 2, [40], .eff fun e => ret (e 40)⟩]
noncomputable def p10_r9 : List PI := [
  ⟨none, some 41, [8], .eff fun e => ret (e 8)⟩,
  ⟨none, some 42, [41], .eff fun e => effIb (BinOp.eql) (e 41) (.v (Value.int (IntKind.i64) 0))⟩,
  ⟨none, some 43, [42], .eff fun e => ret (e 42)⟩,
  ⟨some (43, true), some 44, [7], .eff fun e => ret (e 7)⟩,
  ⟨some (43, true), some 45, [4], .eff fun e => ret (e 4)⟩,
  ⟨some (43, true), some 46, [44, 45], .eff fun e => effIb (BinOp.eql) (e 44) (e 45)⟩,
  ⟨none, some 47, [43, 46], .eff fun e => effPick (e 43) (e 46) (.v (Value.bool false))⟩,
  ⟨none, some 48, [47], .eff fun e => ret (e 47)⟩,
  ⟨some (48, true), some 49, [], .call 16 ([])⟩,
  ⟨none, some 50, [48, 49], .eff fun e => effPick (e 48) (e 49) (.v (Value.bool false))⟩,
  ⟨none, some 2, [50], .eff fun e => ret (e 50)⟩]
noncomputable def p10 : PCode := (.seq (.reg p10_r0 [1]) (.seq (.reg p10_r1 [3]) (.seq (.reg p10_r2 [3, 4]) (.seq (.reg p10_r3 [3, 4, 5, 6]) (.seq (.reg p10_r4 [4, 5, 6, 7, 8]) (.seq (.seq (.reg p10_r5 [4, 5, 7, 8, 30]) (.cond (Operand.tmp 30) (.seq (.reg p10_r6 [2]) .ret) .skip)) (.seq (.seq (.reg p10_r7 [4, 7, 8, 31]) (.cond (Operand.tmp 31) (.seq (.reg p10_r8 [2]) .ret) .skip)) (.seq (.reg p10_r9 [2]) .ret))))))))
theorem P10 : PFn Try.prog 10 ⟨p10, [SRes.tmp 2], 51⟩ := ⟨c10, F10, by kernel_rfl⟩
end Go.Sx.Wk
/- The codes of the functions, written by a program (Gen.lean), and that they are the functions'. No conditions. -/
set_option linter.unusedVariables false
set_option maxRecDepth 100000
namespace Go.Sx.Wk
open Go Go.Sx Go.Proofs

noncomputable def p42_r0 : List PI := [
  ⟨none, some 3, [0], .eff fun e => effBox (e 0)⟩,
  ⟨none, some 6, [], .eff fun e => ret (.v (Value.slice none 0 0))⟩]
noncomputable def p42_r1 : List PI := [
  ⟨none, some 7, [], .eff fun e => ret (.v (Value.slice none 0 0))⟩]
noncomputable def p42_r2 : List PI := [
  ⟨none, some 10, [3], .eff fun e => effOff 1 (e 3)⟩,
  ⟨none, some 11, [3], .eff fun e => effOff 0 (e 3)⟩,
  ⟨none, some 12, [11], .eff fun e => effLoad1 (e 11)⟩,
  ⟨none, some 13, [12], .eff fun e => effCi (IntKind.i64) (e 12)⟩,
  ⟨none, some 14, [1], .eff fun e => ret (e 1)⟩,
  ⟨none, some 15, [13, 14], .eff fun e => effIb (BinOp.rem) (e 13) (e 14)⟩,
  ⟨none, some 16, [15], .eff fun e => effIb (BinOp.add) (.v (Value.int (IntKind.i64) 1)) (e 15)⟩,
  ⟨none, some 17, [10, 16], .eff fun e => effSlcA 4 1 (e 10) none (some (e 16)) none⟩,
  ⟨none, some 18, [17], .eff fun e => effLenSl (e 17)⟩,
  ⟨none, some 19, [], .eff fun e => ret (.v (Value.int (IntKind.i64) 0))⟩]
noncomputable def p42_r3 : List PI := [
  ⟨none, some 20, [19, 18], .eff fun e => effIb (BinOp.lss) (e 19) (e 18)⟩]
noncomputable def p42_r4 : List PI := [
  ⟨none, some 21, [17, 19], .eff fun e => effIdx 1 (e 17) (e 19)⟩,
  ⟨none, some 22, [21], .eff fun e => effLoad1 (e 21)⟩,
  ⟨none, some 9, [22], .eff fun e => ret (e 22)⟩]
noncomputable def p42_r5 : List PI := [
  ⟨none, some 23, [7], .eff fun e => ret (e 7)⟩,
  ⟨none, some 24, [9], .eff fun e => ret (e 9)⟩,
  ⟨none, some 25, [24], .eff fun e => effCi (IntKind.i64) (e 24)⟩,
  ⟨none, some 26, [2], .eff fun e => ret (e 2)⟩,
  ⟨none, some 27, [25, 26], .eff fun e => effIb (BinOp.rem) (e 25) (e 26)⟩,
  ⟨none, some 28, [27], .eff fun e => effIb (BinOp.add) (.v (Value.int (IntKind.i64) 1)) (e 27)⟩,
  ⟨none, some 29, [28], .eff fun e => effMks 1 1 ([Value.int (IntKind.i64) 0]) [(0, 1, (e 28))]⟩,
  ⟨none, some 30, [23, 29], .eff fun e => effApp 1 8 (e 23) (e 29)⟩,
  ⟨none, some 7, [30], .eff fun e => ret (e 30)⟩]
noncomputable def p42_r6 : List PI := [
  ⟨none, some 31, [19], .eff fun e => effIb (BinOp.add) (e 19) (.v (Value.int (IntKind.i64) 1))⟩,
  ⟨none, some 19, [31], .eff fun e => ret (e 31)⟩]
noncomputable def p42_l0 : PCode := (.seq (.reg p42_r3 [2, 7, 17, 18, 19, 20]) (.seq (.cond (Operand.tmp 20) .skip (.exit 0)) (.seq (.block 1 (.seq (.reg p42_r4 [2, 7, 9, 17, 18, 19]) (.reg p42_r5 [2, 7, 17, 18, 19]))) (.reg p42_r6 [2, 7, 17, 18, 19]))))
noncomputable def p42_r7 : List PI := [
  ⟨none, some 32, [7], .eff fun e => ret (e 7)⟩,
  ⟨none, some 6, [32], .eff fun e => ret (e 32)⟩]
noncomputable def p42 : PCode := (.seq (.reg p42_r0 [1, 2, 3]) (.seq (.reg p42_r1 [1, 2, 3, 7]) (.seq (.seq (.reg p42_r2 [2, 7, 17, 18, 19]) (.block 0 (.loop p42_l0))) (.seq (.reg p42_r7 [6]) .ret))))
theorem P42 : PFn Try.prog 42 ⟨p42, [SRes.tmp 6], 33⟩ := ⟨c42, F42, by kernel_rfl⟩
end Go.Sx.Wk
/- The codes of the functions, written by a program (Gen.lean), and that they are the functions'. No conditions. -/
set_option linter.unusedVariables false
set_option maxRecDepth 100000
namespace Go.Sx.Wk
open Go Go.Sx Go.Proofs

noncomputable def p46_r0 : List PI := [
  ⟨none, some 2, [], .eff fun e => ret (.v (Value.int (IntKind.i64) 0))⟩]
noncomputable def p46_r1 : List PI := [
  ⟨none, some 3, [], .eff fun e => effAlloc ([Value.int (IntKind.i64) 0, Value.int (IntKind.i64) 0, Value.int (IntKind.i64) 0, Value.int (IntKind.i64) 0])⟩]
noncomputable def p46_r2 : List PI := [
  ⟨none, some 20, [3], .eff fun e => effSlcA 4 1 (e 3) none none none⟩,
  ⟨none, some 21, [0], .eff fun e => ret (e 0)⟩,
  ⟨none, some 22, [20, 21], .eff fun e => effCopy 1 (e 20) (e 21)⟩]
noncomputable def p46_r3 : List PI := [
  ⟨none, some 23, [3], .eff fun e => effLoadN 4 (e 3)⟩,
  ⟨none, some 24, [23], .eff fun e => effMks 1 4 ([Value.int (IntKind.i64) 0, Value.int (IntKind.i64) 0, Value.int (IntKind.i64) 0, Value.int (IntKind.i64) 0]) [(0, 4, (e 23))]⟩,
  ⟨none, some 4, [24], .eff fun e => ret (e 24)⟩]
noncomputable def p46_r4 : List PI := [
  ⟨none, some 25, [], .eff fun e => effMkmap⟩,
  ⟨none, some 26, [3], .eff fun e => effLoadN 4 (e 3)⟩,
  ⟨none, none, [25, 26], .eff fun e => effMset (KTy.ar 4 (IntKind.i64)) (e 25) (e 26) (.v (Value.int (IntKind.i64) 0))⟩,
  ⟨none, some 27, [25], .eff fun e => ret (e 25)⟩,
  ⟨none, some 5, [27], .eff fun e => ret (e 27)⟩]
noncomputable def p46_r5 : List PI := [
  ⟨none, some 6, [], .eff fun e => ret (.v (Value.slice none 0 0))⟩]
noncomputable def p46_r6 : List PI := [
  ⟨none, some 7, [], .eff fun e => ret (.v (Value.int (IntKind.i64) 0))⟩]
noncomputable def p46_r7 : List PI := [
  ⟨none, some 28, [7], .eff fun e => ret (e 7)⟩,
  ⟨none, some 29, [4], .eff fun e => ret (e 4)⟩,
  ⟨none, some 30, [29], .eff fun e => effLenSl (e 29)⟩,
  ⟨none, some 31, [28, 30], .eff fun e => effIb (BinOp.lss) (e 28) (e 30)⟩]
noncomputable def p46_r8 : List PI := [
  ⟨none, some 8, [], .eff fun e => ret (.v (Value.slice none 0 0))⟩]
noncomputable def p46_r9 : List PI := [
  ⟨none, some 34, [0], .eff fun e => ret (e 0)⟩,
  ⟨none, some 35, [34], .eff fun e => effLenSl (e 34)⟩,
  ⟨none, some 36, [], .eff fun e => ret (.v (Value.int (IntKind.i64) 0))⟩]
noncomputable def p46_r10 : List PI := [
  ⟨none, some 37, [36, 35], .eff fun e => effIb (BinOp.lss) (e 36) (e 35)⟩]
noncomputable def p46_r11 : List PI := [
  ⟨none, some 38, [36], .eff fun e => ret (e 36)⟩,
  ⟨none, some 9, [38], .eff fun e => ret (e 38)⟩]
noncomputable def p46_r12 : List PI := [
  ⟨none, some 39, [4], .eff fun e => ret (e 4)⟩,
  ⟨none, some 40, [7], .eff fun e => ret (e 7)⟩,
  ⟨none, some 41, [39, 40], .eff fun e => effIdx 4 (e 39) (e 40)⟩,
  ⟨none, some 42, [41], .eff fun e => effLoadN 4 (e 41)⟩,
  ⟨none, some 10, [], .eff fun e => effAlloc ([Value.int (IntKind.i64) 0, Value.int (IntKind.i64) 0, Value.int (IntKind.i64) 0, Value.int (IntKind.i64) 0])⟩,
  ⟨none, none, [10, 42], .eff fun e => effStore 4 (e 10) (e 42)⟩]
noncomputable def p46_r13 : List PI := [
  ⟨none, some 11, [], .eff fun e => ret (.v (Value.bool true))⟩]
noncomputable def p46_r14 : List PI := [
  ⟨none, some 43, [0], .eff fun e => ret (e 0)⟩,
  ⟨none, some 44, [43], .eff fun e => effLenSl (e 43)⟩,
  ⟨none, some 45, [], .eff fun e => ret (.v (Value.int (IntKind.i64) 0))⟩]
noncomputable def p46_r15 : List PI := [
  ⟨none, some 46, [45, 44], .eff fun e => effIb (BinOp.lss) (e 45) (e 44)⟩]
noncomputable def p46_r16 : List PI := [
  ⟨none, some 47, [45], .eff fun e => ret (e 45)⟩,
  ⟨none, some 12, [47], .eff fun e => ret (e 47)⟩]
noncomputable def p46_r17 : List PI := [
  ⟨none, some 48, [12], .eff fun e => ret (e 12)⟩,
  ⟨none, some 49, [10, 48], .eff fun e => effIdxA 4 1 (e 10) (e 48)⟩,
  ⟨none, some 50, [49], .eff fun e => effLoad1 (e 49)⟩,
  ⟨none, some 51, [50], .eff fun e => effIb (BinOp.sub) (e 50) (.v (Value.int (IntKind.i64) 1))⟩,
  ⟨none, some 52, [10, 48], .eff fun e => effIdxA 4 1 (e 10) (e 48)⟩,
  ⟨none, none, [52, 51], .eff fun e => effStore 1 (e 52) (e 51)⟩]
noncomputable def p46_r18 : List PI := [
  ⟨none, some 53, [12], .eff fun e => ret (e 12)⟩,
  ⟨none, some 54, [9], .eff fun e => ret (e 9)⟩,
  ⟨none, some 55, [53, 54], .eff fun e => effIb (BinOp.neq) (e 53) (e 54)⟩,
  ⟨none, some 56, [55], .eff fun e => ret (e 55)⟩,
  ⟨some (56, true), some 57, [12], .eff fun e => ret (e 12)⟩,
  ⟨some (56, true), some 58, [10, 57], .eff fun e => effIdxA 4 1 (e 10) (e 57)⟩,
  ⟨some (56, true), some 59, [58], .eff fun e => effLoad1 (e 58)⟩,
  ⟨some (56, true), some 60, [59], .eff fun e => effIb (BinOp.eql) (e 59) (.v (Value.int (IntKind.i64) 0))⟩,
  ⟨none, some 61, [56, 60], .eff fun e => effPick (e 56) (e 60) (.v (Value.bool false))⟩]
noncomputable def p46_r19 : List PI := [
  ⟨none, some 11, [], .eff fun e => ret (.v (Value.bool false))⟩]
noncomputable def p46_r20 : List PI := [
  ⟨none, some 62, [45], .eff fun e => effIb (BinOp.add) (e 45) (.v (Value.int (IntKind.i64) 1))⟩,
  ⟨none, some 45, [62], .eff fun e => ret (e 62)⟩]
noncomputable def p46_l0 : PCode := (.seq (.reg p46_r15 [0, 4, 5, 6, 7, 8, 9, 10, 11, 35, 36, 44, 45, 46]) (.seq (.cond (Operand.tmp 46) .skip (.exit 4)) (.seq (.block 5 (.seq (.reg p46_r16 [0, 4, 5, 6, 7, 8, 9, 10, 11, 12, 35, 36, 44, 45]) (.seq (.reg p46_r17 [0, 4, 5, 6, 7, 8, 9, 10, 11, 12, 35, 36, 44, 45]) (.seq (.reg p46_r18 [0, 4, 5, 6, 7, 8, 9, 10, 11, 35, 36, 44, 45, 61]) (.cond (Operand.tmp 61) (.reg p46_r19 [0, 4, 5, 6, 7, 8, 9, 10, 11, 35, 36, 44, 45]) .skip))))) (.reg p46_r20 [0, 4, 5, 6, 7, 8, 9, 10, 11, 35, 36, 44, 45]))))
noncomputable def p46_r21 : List PI := [
  ⟨none, some 63, [9], .eff fun e => ret (e 9)⟩,
  ⟨none, some 64, [0], .eff fun e => ret (e 0)⟩,
  ⟨none, some 65, [9], .eff fun e => ret (e 9)⟩,
  ⟨none, some 66, [64, 65], .eff fun e => effIdx 1 (e 64) (e 65)⟩,
  ⟨none, some 67, [66], .eff fun e => effLoad1 (e 66)⟩,
  ⟨none, some 68, [10, 63], .eff fun e => effIdxA 4 1 (e 10) (e 63)⟩,
  ⟨none, none, [68, 67], .eff fun e => effStore 1 (e 68) (e 67)⟩]
noncomputable def p46_r22 : List PI := [
  ⟨none, some 69, [11], .eff fun e => ret (e 11)⟩,
  ⟨none, some 70, [69], .eff fun e => effNt (e 69)⟩]
noncomputable def p46_r23 : List PI := [
  ⟨none, some 72, [5], .eff fun e => ret (e 5)⟩,
  ⟨none, some 73, [10], .eff fun e => effLoadN 4 (e 10)⟩,
  ⟨none, some 74, [72, 73], .eff fun e => effLook (KTy.ar 4 (IntKind.i64)) (Value.int (IntKind.i64) 0) true (e 72) (e 73)⟩,
  ⟨none, some 71, [74], .eff fun e => ret (e 74)⟩,
  ⟨none, some 75, [71], .eff fun e => effExt 0 (e 71)⟩,
  ⟨none, some 76, [71], .eff fun e => effExt 1 (e 71)⟩,
  ⟨none, some 13, [75], .eff fun e => ret (e 75)⟩,
  ⟨none, some 14, [76], .eff fun e => ret (e 76)⟩]
noncomputable def p46_r24 : List PI := [
  ⟨none, some 77, [14], .eff fun e => ret (e 14)⟩,
  ⟨none, some 78, [77], .eff fun e => effNt (e 77)⟩]
noncomputable def p46_r25 : List PI := [
  ⟨none, some 79, [5], .eff fun e => ret (e 5)⟩,
  ⟨none, some 80, [10], .eff fun e => effLoadN 4 (e 10)⟩,
  ⟨none, some 81, [4], .eff fun e => ret (e 4)⟩,
  ⟨none, some 82, [81], .eff fun e => effLenSl (e 81)⟩,
  ⟨none, none, [79, 80, 82], .eff fun e => effMset (KTy.ar 4 (IntKind.i64)) (e 79) (e 80) (e 82)⟩]
noncomputable def p46_r26 : List PI := [
  ⟨none, some 83, [4], .eff fun e => ret (e 4)⟩,
  ⟨none, some 84, [10], .eff fun e => effLoadN 4 (e 10)⟩,
  ⟨none, some 85, [84], .eff fun e => effMks 1 4 ([Value.int (IntKind.i64) 0, Value.int (IntKind.i64) 0, Value.int (IntKind.i64) 0, Value.int (IntKind.i64) 0]) [(0, 4, (e 84))]⟩,
  ⟨none, some 86, [83, 85], .eff fun e => effApp 4 32 (e 83) (e 85)⟩,
  ⟨none, some 4, [86], .eff fun e => ret (e 86)⟩]
noncomputable def p46_r27 : List PI := [
  ⟨none, some 87, [8], .eff fun e => ret (e 8)⟩,
  ⟨none, some 88, [5], .eff fun e => ret (e 5)⟩,
  ⟨none, some 89, [10], .eff fun e => effLoadN 4 (e 10)⟩,
  ⟨none, some 90, [88, 89], .eff fun e => effLook (KTy.ar 4 (IntKind.i64)) (Value.int (IntKind.i64) 0) false (e 88) (e 89)⟩,
  ⟨none, some 91, [90], .eff fun e => effMks 1 1 ([Value.int (IntKind.i64) 0]) [(0, 1, (e 90))]⟩,
  ⟨none, some 92, [87, 91], .eff fun e => effApp 1 8 (e 87) (e 91)⟩,
  ⟨none, some 8, [92], .eff fun e => ret (e 92)⟩]
noncomputable def p46_r28 : List PI := [
  ⟨none, some 93, [36], .eff fun e => effIb (BinOp.add) (e 36) (.v (Value.int (IntKind.i64) 1))⟩,
  ⟨none, some 36, [93], .eff fun e => ret (e 93)⟩]
noncomputable def p46_l1 : PCode := (.seq (.reg p46_r10 [0, 4, 5, 6, 7, 8, 35, 36, 37]) (.seq (.cond (Operand.tmp 37) .skip (.exit 2)) (.seq (.block 3 (.seq (.reg p46_r11 [0, 4, 5, 6, 7, 8, 9, 35, 36]) (.seq (.reg p46_r12 [0, 4, 5, 6, 7, 8, 9, 10, 35, 36]) (.seq (.reg p46_r13 [0, 4, 5, 6, 7, 8, 9, 10, 11, 35, 36]) (.seq (.seq (.reg p46_r14 [0, 4, 5, 6, 7, 8, 9, 10, 11, 35, 36, 44, 45]) (.block 4 (.loop p46_l0))) (.seq (.seq (.reg p46_r21 [0, 4, 5, 6, 7, 8, 10, 11, 35, 36]) (.seq (.reg p46_r22 [0, 4, 5, 6, 7, 8, 10, 35, 36, 70]) (.cond (Operand.tmp 70) (.exit 3) .skip))) (.seq (.seq (.reg p46_r23 [0, 4, 5, 6, 7, 8, 10, 14, 35, 36]) (.seq (.reg p46_r24 [0, 4, 5, 6, 7, 8, 10, 35, 36, 78]) (.cond (Operand.tmp 78) (.seq (.reg p46_r25 [0, 4, 5, 6, 7, 8, 10, 35, 36]) (.reg p46_r26 [0, 4, 5, 6, 7, 8, 10, 35, 36])) .skip))) (.reg p46_r27 [0, 4, 5, 6, 7, 8, 35, 36])))))))) (.reg p46_r28 [0, 4, 5, 6, 7, 8, 35, 36]))))
noncomputable def p46_r29 : List PI := [
  ⟨none, some 94, [6], .eff fun e => ret (e 6)⟩,
  ⟨none, some 95, [8], .eff fun e => ret (e 8)⟩,
  ⟨none, some 96, [95], .eff fun e => effMks 1 1 ([Value.slice none 0 0]) [(0, 1, (e 95))]⟩,
  ⟨none, some 97, [94, 96], .eff fun e => effApp 1 24 (e 94) (e 96)⟩,
  ⟨none, some 6, [97], .eff fun e => ret (e 97)⟩]
noncomputable def p46_r30 : List PI := [
  ⟨none, some 32, [7], .eff fun e => ret (e 7)⟩,
  ⟨none, some 33, [32], .eff fun e => effIb (BinOp.add) (e 32) (.v (Value.int (IntKind.i64) 1))⟩,
  ⟨none, some 7, [33], .eff fun e => ret (e 33)⟩]
noncomputable def p46_l2 : PCode := (.seq (.seq (.reg p46_r7 [0, 4, 5, 6, 7, 31]) (.cond (Operand.tmp 31) .skip (.exit 0))) (.seq (.block 1 (.seq (.reg p46_r8 [0, 4, 5, 6, 7, 8]) (.seq (.seq (.reg p46_r9 [0, 4, 5, 6, 7, 8, 35, 36]) (.block 2 (.loop p46_l1))) (.reg p46_r29 [0, 4, 5, 6, 7])))) (.reg p46_r30 [0, 4, 5, 6, 7])))
noncomputable def p46_r31 : List PI := [
  ⟨none, some 98, [4], .eff fun e => ret (e 4)⟩,
  ⟨none, some 99, [98], .eff fun e => effLenSl (e 98)⟩,
  ⟨none, some 100, [99, 99], .eff fun e => effMk 1 (Value.bool false) (e 99) (e 99)⟩,
  ⟨none, some 15, [], .eff fun e => effAlloc ([Value.slice none 0 0])⟩,
  ⟨none, none, [15, 100], .eff fun e => effStore 1 (e 15) (e 100)⟩]
noncomputable def p46_r32 : List PI := [
  ⟨none, some 16, [], .eff fun e => ret (.v (Value.int (IntKind.i64) 0))⟩]
noncomputable def p46_r33 : List PI := [
  ⟨none, some 103, [15], .eff fun e => effLoad1 (e 15)⟩,
  ⟨none, some 104, [103], .call 73 ([Operand.tmp 103])⟩,
  ⟨none, some 17, [104], .eff fun e => ret (e 104)⟩]
noncomputable def p46_r34 : List PI := [
  ⟨none, some 105, [6], .eff fun e => ret (e 6)⟩,
  ⟨none, some 106, [105], .eff fun e => effLenSl (e 105)⟩,
  ⟨none, some 107, [], .eff fun e => ret (.v (Value.int (IntKind.i64) 0))⟩]
noncomputable def p46_r35 : List PI := [
  ⟨none, some 108, [107, 106], .eff fun e => effIb (BinOp.lss) (e 107) (e 106)⟩]
noncomputable def p46_r36 : List PI := [
  ⟨none, some 109, [107], .eff fun e => ret (e 107)⟩,
  ⟨none, some 110, [105, 107], .eff fun e => effIdx 1 (e 105) (e 107)⟩,
  ⟨none, some 111, [110], .eff fun e => effLoad1 (e 110)⟩,
  ⟨none, some 18, [109], .eff fun e => ret (e 109)⟩,
  ⟨none, some 19, [111], .eff fun e => ret (e 111)⟩]
noncomputable def p46_r37 : List PI := [
  ⟨none, some 112, [17], .eff fun e => ret (e 17)⟩,
  ⟨none, some 113, [18], .eff fun e => ret (e 18)⟩,
  ⟨none, some 114, [19], .eff fun e => ret (e 19)⟩,
  ⟨none, some 115, [15], .eff fun e => effMkfn (Fn.func 74) [] [(e 15)]⟩,
  ⟨none, some 116, [114, 115], .call 58 ([Operand.tmp 114, Operand.tmp 115])⟩,
  ⟨none, some 117, [116], .eff fun e => effNt (e 116)⟩,
  ⟨none, some 118, [112, 113], .eff fun e => effIdx 1 (e 112) (e 113)⟩,
  ⟨none, none, [118, 117], .eff fun e => effStore 1 (e 118) (e 117)⟩]
noncomputable def p46_r38 : List PI := [
  ⟨none, some 119, [107], .eff fun e => effIb (BinOp.add) (e 107) (.v (Value.int (IntKind.i64) 1))⟩,
  ⟨none, some 107, [119], .eff fun e => ret (e 119)⟩]
noncomputable def p46_l3 : PCode := (.seq (.reg p46_r35 [6, 15, 16, 17, 105, 106, 107, 108]) (.seq (.cond (Operand.tmp 108) .skip (.exit 8)) (.seq (.block 9 (.seq (.reg p46_r36 [6, 15, 16, 17, 18, 19, 105, 106, 107]) (.reg p46_r37 [6, 15, 16, 17, 105, 106, 107]))) (.reg p46_r38 [6, 15, 16, 17, 105, 106, 107]))))
noncomputable def p46_r39 : List PI := [
  ⟨none, some 121, [17], .eff fun e => ret (e 17)⟩,
  ⟨none, some 122, [121], .eff fun e => effIdx 1 (e 121) (.v (Value.int (IntKind.i64) 0))⟩,
  ⟨none, some 123, [122], .eff fun e => effLoad1 (e 122)⟩,
  ⟨none, some 120, [123], .eff fun e => ret (e 123)⟩]
noncomputable def p46_r40 : List PI := [
  ⟨none, some 124, [16], .eff fun e => ret (e 16)⟩,
  ⟨none, some 2, [124], .eff fun e => ret (e 124)⟩]
noncomputable def p46_r41 : List PI := [
  ⟨none, some 126, [17], .eff fun e => ret (e 17)⟩,
  ⟨none, some 127, [15], .eff fun e => effLoad1 (e 15)⟩,
  ⟨none, some 128, [126, 127], .call 75 ([Operand.tmp 126, Operand.tmp 127])⟩,
  ⟨none, some 125, [128], .eff fun e => ret (e 128)⟩]
noncomputable def p46_r42 : List PI := [
  ⟨none, some 2, [], .eff fun e => ret (.v (Value.int (IntKind.i64) (-1)))⟩]
noncomputable def p46_r43 : List PI := [
  ⟨none, some 129, [17], .eff fun e => ret (e 17)⟩,
  ⟨none, none, [15, 129], .eff fun e => effStore 1 (e 15) (e 129)⟩]
noncomputable def p46_r44 : List PI := [
  ⟨none, some 101, [16], .eff fun e => ret (e 16)⟩,
  ⟨none, some 102, [101], .eff fun e => effIb (BinOp.add) (e 101) (.v (Value.int (IntKind.i64) 1))⟩,
  ⟨none, some 16, [102], .eff fun e => ret (e 102)⟩]
noncomputable def p46_l4 : PCode := (.seq (.block 7 (.seq (.reg p46_r33 [6, 15, 16, 17]) (.seq (.seq (.reg p46_r34 [6, 15, 16, 17, 105, 106, 107]) (.block 8 (.loop p46_l3))) (.seq (.block 10 (.seq (.reg p46_r39 [6, 15, 16, 17, 120]) (.cond (Operand.tmp 120) (.seq (.reg p46_r40 [2]) .ret) (.seq (.reg p46_r41 [6, 15, 16, 17, 125]) (.cond (Operand.tmp 125) (.seq (.reg p46_r42 [2]) .ret) .skip))))) (.reg p46_r43 [6, 15, 16]))))) (.reg p46_r44 [6, 15, 16]))
noncomputable def p46 : PCode := (.seq (.reg p46_r0 [0]) (.seq (.reg p46_r1 [0, 3]) (.seq (.reg p46_r2 [0, 3]) (.seq (.reg p46_r3 [0, 3, 4]) (.seq (.reg p46_r4 [0, 4, 5]) (.seq (.reg p46_r5 [0, 4, 5, 6]) (.seq (.seq (.reg p46_r6 [0, 4, 5, 6, 7]) (.block 0 (.loop p46_l2))) (.seq (.reg p46_r31 [6, 15]) (.seq (.reg p46_r32 [6, 15, 16]) (.block 6 (.loop p46_l4)))))))))))
theorem P46 : PFn Try.prog 46 ⟨p46, [SRes.tmp 2], 130⟩ := ⟨c46, F46, by kernel_rfl⟩
end Go.Sx.Wk
/- The codes of the functions, written by a program (Gen.lean), and that they are the functions'. No conditions. -/
set_option linter.unusedVariables false
set_option maxRecDepth 100000
namespace Go.Sx.Wk
open Go Go.Sx Go.Proofs

noncomputable def p73_r0 : List PI := [
  ⟨none, some 2, [], .eff fun e => ret (.v (Value.slice none 0 0))⟩]
noncomputable def p73_r1 : List PI := [
  ⟨none, some 3, [0], .eff fun e => ret (e 0)⟩,
  ⟨none, some 4, [3], .eff fun e => effEqn false (TypeDesc.slice 4) (e 3)⟩]
noncomputable def p73_r2 : List PI := [
  ⟨none, some 2, [], .eff fun e => ret (.v (Value.slice none 0 0))⟩]
noncomputable def p73_r3 : List PI := [
  ⟨none, some 5, [], .eff fun e => effMks0 1⟩,
  ⟨none, some 6, [0], .eff fun e => ret (e 0)⟩,
  ⟨none, some 7, [5, 6], .eff fun e => effApp 1 1 (e 5) (e 6)⟩,
  ⟨none, some 2, [7], .eff fun e => ret (e 7)⟩]
noncomputable def p73 : PCode := (.seq (.reg p73_r0 [0]) (.seq (.seq (.reg p73_r1 [0, 4]) (.cond (Operand.tmp 4) (.seq (.reg p73_r2 [2]) .ret) .skip)) (.seq (.reg p73_r3 [2]) .ret)))
theorem P73 : PFn Try.prog 73 ⟨p73, [SRes.tmp 2], 8⟩ := ⟨c73, F73, by kernel_rfl⟩
end Go.Sx.Wk
/- The codes of the functions, written by a program (Gen.lean), and that they are the functions'. No conditions. -/
set_option linter.unusedVariables false
set_option maxRecDepth 100000
namespace Go.Sx.Wk
open Go Go.Sx Go.Proofs

noncomputable def p74_r0 : List PI := [
  ⟨none, some 3, [], .eff fun e => ret (.v (Value.bool false))⟩]
noncomputable def p74_r1 : List PI := [
  ⟨none, some 4, [1], .eff fun e => effLoad1 (e 1)⟩,
  ⟨none, some 5, [0], .eff fun e => ret (e 0)⟩,
  ⟨none, some 6, [4, 5], .eff fun e => effIdx 1 (e 4) (e 5)⟩,
  ⟨none, some 7, [6], .eff fun e => effLoad1 (e 6)⟩,
  ⟨none, some 8, [7], .eff fun e => effNt (e 7)⟩,
  ⟨none, some 3, [8], .eff fun e => ret (e 8)⟩]
noncomputable def p74 : PCode := (.seq (.reg p74_r0 [0, 1]) (.seq (.reg p74_r1 [3]) .ret))
theorem P74 : PFn Try.prog 74 ⟨p74, [SRes.tmp 3], 9⟩ := ⟨c74, F74, by kernel_rfl⟩
end Go.Sx.Wk
/- The codes of the functions, written by a program (Gen.lean), and that they are the functions'. No conditions. -/
set_option linter.unusedVariables false
set_option maxRecDepth 100000
namespace Go.Sx.Wk
open Go Go.Sx Go.Proofs

noncomputable def p75_r0 : List PI := [
  ⟨none, some 4, [], .eff fun e => ret (.v (Value.bool false))⟩]
noncomputable def p75_r1 : List PI := [
  ⟨none, some 6, [0], .eff fun e => ret (e 0)⟩,
  ⟨none, some 7, [6], .eff fun e => effLenSl (e 6)⟩,
  ⟨none, some 8, [1], .eff fun e => ret (e 1)⟩,
  ⟨none, some 9, [8], .eff fun e => effLenSl (e 8)⟩,
  ⟨none, some 10, [7, 9], .eff fun e => effIb (BinOp.neq) (e 7) (e 9)⟩]
noncomputable def p75_r2 : List PI := [
  ⟨none, some 4, [], .eff fun e => ret (.v (Value.bool false))⟩]
noncomputable def p75_r3 : List PI := [
  ⟨none, some 11, [0], .eff fun e => ret (e 0)⟩,
  ⟨none, some 12, [11], .eff fun e => effLenSl (e 11)⟩,
  ⟨none, some 13, [], .eff fun e => ret (.v (Value.int (IntKind.i64) 0))⟩]
noncomputable def p75_r4 : List PI := [
  ⟨none, some 14, [13, 12], .eff fun e => effIb (BinOp.lss) (e 13) (e 12)⟩]
noncomputable def p75_r5 : List PI := [
  ⟨none, some 15, [13], .eff fun e => ret (e 13)⟩,
  ⟨none, some 5, [15], .eff fun e => ret (e 15)⟩]
noncomputable def p75_r6 : List PI := [
  ⟨none, some 16, [0], .eff fun e => ret (e 0)⟩,
  ⟨none, some 17, [5], .eff fun e => ret (e 5)⟩,
  ⟨none, some 18, [16, 17], .eff fun e => effIdx 1 (e 16) (e 17)⟩,
  ⟨none, some 19, [18], .eff fun e => effLoad1 (e 18)⟩,
  ⟨none, some 20, [1], .eff fun e => ret (e 1)⟩,
  ⟨none, some 21, [5], .eff fun e => ret (e 5)⟩,
  ⟨none, some 22, [20, 21], .eff fun e => effIdx 1 (e 20) (e 21)⟩,
  ⟨none, some 23, [22], .eff fun e => effLoad1 (e 22)⟩,
  ⟨none, some 24, [19, 23], .eff fun e => effBb true (e 19) (e 23)⟩]
noncomputable def p75_r7 : List PI := [
  ⟨none, some 4, [], .eff fun e => ret (.v (Value.bool false))⟩]
noncomputable def p75_r8 : List PI := [
  ⟨none, some 25, [13], .eff fun e => effIb (BinOp.add) (e 13) (.v (Value.int (IntKind.i64) 1))⟩,
  ⟨none, some 13, [25], .eff fun e => ret (e 25)⟩]
noncomputable def p75_l0 : PCode := (.seq (.reg p75_r4 [0, 1, 12, 13, 14]) (.seq (.cond (Operand.tmp 14) .skip (.exit 0)) (.seq (.block 1 (.seq (.reg p75_r5 [0, 1, 5, 12, 13]) (.seq (.draw p75_r6 [[], [], [0, 1], [2, 0, 1], [], [], [4, 5], [6, 4, 5], [3, 7, 2, 0, 1, 6, 4, 5]] [0, 1, 12, 13, 24]) (.cond (Operand.tmp 24) (.seq (.reg p75_r7 [4]) .ret) .skip)))) (.reg p75_r8 [0, 1, 12, 13]))))
noncomputable def p75_r9 : List PI := [
  ⟨none, some 4, [], .eff fun e => ret (.v (Value.bool true))⟩]
noncomputable def p75 : PCode := (.seq (.reg p75_r0 [0, 1]) (.seq (.seq (.reg p75_r1 [0, 1, 10]) (.cond (Operand.tmp 10) (.seq (.reg p75_r2 [4]) .ret) .skip)) (.seq (.seq (.reg p75_r3 [0, 1, 12, 13]) (.block 0 (.loop p75_l0))) (.seq (.reg p75_r9 [4]) .ret))))
theorem P75 : PFn Try.prog 75 ⟨p75, [SRes.tmp 4], 26⟩ := ⟨c75, F75, by kernel_rfl⟩
end Go.Sx.Wk
