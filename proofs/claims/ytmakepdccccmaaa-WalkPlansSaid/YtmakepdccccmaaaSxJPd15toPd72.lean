/- The codes of the functions, written by a program (Gen.lean), and that they are the functions'. No conditions. -/
import Derived.Test.YtmakepdccccmaaaSxJWd15toWd72
import Derived.KernelRfl
set_option linter.unusedVariables false
set_option maxRecDepth 100000
namespace Go.Sx.Wk
open Go Go.Sx Go.Proofs

noncomputable def p15_r0 : List PI := [
  ⟨none, some 5, [0], .eff fun e => effBox (e 0)⟩,
  ⟨none, some 7, [2], .eff fun e => effBox (e 2)⟩,
  ⟨none, some 10, [], .eff fun e => ret (.v (Value.bool false))⟩]
noncomputable def p15_r1 : List PI := [
  ⟨none, some 26, [5], .eff fun e => effLoadN 5 (e 5)⟩,
  ⟨none, some 27, [26], .call 42 ([Operand.tmp 26, Operand.const (Value.int (IntKind.i64) 3), Operand.const (Value.int (IntKind.i64) 7)])⟩,
  ⟨none, some 11, [27], .eff fun e => ret (e 27)⟩]
noncomputable def p15_r2 : List PI := [
  ⟨none, some 12, [], .eff fun e => ret (.v (Value.slice none 0 0))⟩]
noncomputable def p15_r3 : List PI := [
  ⟨none, some 28, [1], .eff fun e => ret (e 1)⟩,
  ⟨none, some 29, [28], .eff fun e => effCi (IntKind.i64) (e 28)⟩,
  ⟨none, some 30, [29], .eff fun e => effIb (BinOp.rem) (e 29) (.v (Value.int (IntKind.i64) 12))⟩,
  ⟨none, some 31, [30], .eff fun e => effIb (BinOp.add) (.v (Value.int (IntKind.i64) 1)) (e 30)⟩,
  ⟨none, some 32, [7, 31], .eff fun e => effSlcA 12 1 (e 7) none (some (e 31)) none⟩,
  ⟨none, some 33, [32], .eff fun e => effLenSl (e 32)⟩,
  ⟨none, some 34, [], .eff fun e => ret (.v (Value.int (IntKind.i64) 0))⟩]
noncomputable def p15_r4 : List PI := [
  ⟨none, some 35, [34, 33], .eff fun e => effIb (BinOp.lss) (e 34) (e 33)⟩]
noncomputable def p15_r5 : List PI := [
  ⟨none, some 36, [32, 34], .eff fun e => effIdx 1 (e 32) (e 34)⟩,
  ⟨none, some 37, [36], .eff fun e => effLoad1 (e 36)⟩,
  ⟨none, some 14, [37], .eff fun e => ret (e 37)⟩]
noncomputable def p15_r6 : List PI := [
  ⟨none, some 38, [12], .eff fun e => ret (e 12)⟩,
  ⟨none, some 39, [14], .eff fun e => ret (e 14)⟩,
  ⟨none, some 40, [39], .eff fun e => effCi (IntKind.i64) (e 39)⟩,
  ⟨none, some 41, [11], .eff fun e => ret (e 11)⟩,
  ⟨none, some 42, [41], .eff fun e => effLenSl (e 41)⟩,
  ⟨none, some 43, [40, 42], .eff fun e => effIb (BinOp.rem) (e 40) (e 42)⟩,
  ⟨none, some 44, [43], .eff fun e => effMks 1 1 ([Value.int (IntKind.i64) 0]) [(0, 1, (e 43))]⟩,
  ⟨none, some 45, [38, 44], .eff fun e => effApp 1 8 (e 38) (e 44)⟩,
  ⟨none, some 12, [45], .eff fun e => ret (e 45)⟩]
noncomputable def p15_r7 : List PI := [
  ⟨none, some 46, [34], .eff fun e => effIb (BinOp.add) (e 34) (.v (Value.int (IntKind.i64) 1))⟩,
  ⟨none, some 34, [46], .eff fun e => ret (e 46)⟩]
noncomputable def p15_l0 : PCode := (.seq (.reg p15_r4 [3, 4, 11, 12, 32, 33, 34, 35]) (.seq (.cond (Operand.tmp 35) .skip (.exit 0)) (.seq (.block 1 (.seq (.reg p15_r5 [3, 4, 11, 12, 14, 32, 33, 34]) (.reg p15_r6 [3, 4, 11, 12, 32, 33, 34]))) (.reg p15_r7 [3, 4, 11, 12, 32, 33, 34]))))
noncomputable def p15_r8 : List PI := [
  ⟨none, some 15, [], .eff fun e => ret (.v (Value.bool true))⟩]
noncomputable def p15_r9 : List PI := [
  ⟨none, some 47, [11], .eff fun e => ret (e 11)⟩,
  ⟨none, some 48, [47], .eff fun e => effLenSl (e 47)⟩,
  ⟨none, some 49, [], .eff fun e => ret (.v (Value.int (IntKind.i64) 0))⟩]
noncomputable def p15_r10 : List PI := [
  ⟨none, some 50, [49, 48], .eff fun e => effIb (BinOp.lss) (e 49) (e 48)⟩]
noncomputable def p15_r11 : List PI := [
  ⟨none, some 51, [49], .eff fun e => ret (e 49)⟩,
  ⟨none, some 52, [47, 49], .eff fun e => effIdx 1 (e 47) (e 49)⟩,
  ⟨none, some 53, [52], .eff fun e => effLoad1 (e 52)⟩,
  ⟨none, some 16, [51], .eff fun e => ret (e 51)⟩,
  ⟨none, some 17, [53], .eff fun e => ret (e 53)⟩]
noncomputable def p15_r12 : List PI := [
  ⟨none, some 54, [12], .eff fun e => ret (e 12)⟩,
  ⟨none, some 55, [54], .eff fun e => effLenSl (e 54)⟩,
  ⟨none, some 56, [], .eff fun e => ret (.v (Value.int (IntKind.i64) 0))⟩]
noncomputable def p15_r13 : List PI := [
  ⟨none, some 57, [56, 55], .eff fun e => effIb (BinOp.lss) (e 56) (e 55)⟩]
noncomputable def p15_r14 : List PI := [
  ⟨none, some 58, [56], .eff fun e => ret (e 56)⟩,
  ⟨none, some 18, [58], .eff fun e => ret (e 58)⟩]
noncomputable def p15_r15 : List PI := [
  ⟨none, some 19, [], .eff fun e => ret (.v (Value.bool false))⟩]
noncomputable def p15_r16 : List PI := [
  ⟨none, some 59, [17], .eff fun e => ret (e 17)⟩,
  ⟨none, some 60, [], .eff fun e => ret (.v (Value.int (IntKind.i64) 0))⟩]
noncomputable def p15_r17 : List PI := [
  ⟨none, some 61, [60, 59], .eff fun e => effIb (BinOp.lss) (e 60) (e 59)⟩]
noncomputable def p15_r18 : List PI := [
  ⟨none, some 62, [60], .eff fun e => ret (e 60)⟩,
  ⟨none, some 20, [62], .eff fun e => ret (e 62)⟩]
noncomputable def p15_r19 : List PI := [
  ⟨none, some 63, [19], .eff fun e => ret (e 19)⟩,
  ⟨none, some 64, [63], .eff fun e => ret (e 63)⟩,
  ⟨some (64, false), some 65, [12], .eff fun e => ret (e 12)⟩,
  ⟨some (64, false), some 66, [18], .eff fun e => ret (e 18)⟩,
  ⟨some (64, false), some 67, [20], .eff fun e => ret (e 20)⟩,
  ⟨some (64, false), some 68, [66, 67], .eff fun e => effIb (BinOp.add) (e 66) (e 67)⟩,
  ⟨some (64, false), some 69, [12], .eff fun e => ret (e 12)⟩,
  ⟨some (64, false), some 70, [69], .eff fun e => effLenSl (e 69)⟩,
  ⟨some (64, false), some 71, [68, 70], .eff fun e => effIb (BinOp.rem) (e 68) (e 70)⟩,
  ⟨some (64, false), some 72, [65, 71], .eff fun e => effIdx 1 (e 65) (e 71)⟩,
  ⟨some (64, false), some 73, [72], .eff fun e => effLoad1 (e 72)⟩,
  ⟨some (64, false), some 74, [16], .eff fun e => ret (e 16)⟩,
  ⟨some (64, false), some 75, [73, 74], .eff fun e => effIb (BinOp.eql) (e 73) (e 74)⟩,
  ⟨none, some 76, [64, 75], .eff fun e => effPick (e 64) (.v (Value.bool true)) (e 75)⟩,
  ⟨none, some 19, [76], .eff fun e => ret (e 76)⟩]
noncomputable def p15_r20 : List PI := [
  ⟨none, some 77, [60], .eff fun e => effIb (BinOp.add) (e 60) (.v (Value.int (IntKind.i64) 1))⟩,
  ⟨none, some 60, [77], .eff fun e => ret (e 77)⟩]
noncomputable def p15_l1 : PCode := (.seq (.reg p15_r17 [3, 4, 11, 12, 15, 16, 17, 18, 19, 47, 48, 49, 55, 56, 59, 60, 61]) (.seq (.cond (Operand.tmp 61) .skip (.exit 6)) (.seq (.block 7 (.seq (.reg p15_r18 [3, 4, 11, 12, 15, 16, 17, 18, 19, 20, 47, 48, 49, 55, 56, 59, 60]) (.reg p15_r19 [3, 4, 11, 12, 15, 16, 17, 18, 19, 47, 48, 49, 55, 56, 59, 60]))) (.reg p15_r20 [3, 4, 11, 12, 15, 16, 17, 18, 19, 47, 48, 49, 55, 56, 59, 60]))))
noncomputable def p15_r21 : List PI := [
  ⟨none, some 78, [15], .eff fun e => ret (e 15)⟩,
  ⟨none, some 79, [78], .eff fun e => ret (e 78)⟩,
  ⟨some (79, true), some 80, [19], .eff fun e => ret (e 19)⟩,
  ⟨none, some 81, [79, 80], .eff fun e => effPick (e 79) (e 80) (.v (Value.bool false))⟩,
  ⟨none, some 15, [81], .eff fun e => ret (e 81)⟩]
noncomputable def p15_r22 : List PI := [
  ⟨none, some 82, [56], .eff fun e => effIb (BinOp.add) (e 56) (.v (Value.int (IntKind.i64) 1))⟩,
  ⟨none, some 56, [82], .eff fun e => ret (e 82)⟩]
noncomputable def p15_l2 : PCode := (.seq (.reg p15_r13 [3, 4, 11, 12, 15, 16, 17, 47, 48, 49, 55, 56, 57]) (.seq (.cond (Operand.tmp 57) .skip (.exit 4)) (.seq (.block 5 (.seq (.reg p15_r14 [3, 4, 11, 12, 15, 16, 17, 18, 47, 48, 49, 55, 56]) (.seq (.reg p15_r15 [3, 4, 11, 12, 15, 16, 17, 18, 19, 47, 48, 49, 55, 56]) (.seq (.seq (.reg p15_r16 [3, 4, 11, 12, 15, 16, 17, 18, 19, 47, 48, 49, 55, 56, 59, 60]) (.block 6 (.loop p15_l1))) (.reg p15_r21 [3, 4, 11, 12, 15, 16, 17, 47, 48, 49, 55, 56]))))) (.reg p15_r22 [3, 4, 11, 12, 15, 16, 17, 47, 48, 49, 55, 56]))))
noncomputable def p15_r23 : List PI := [
  ⟨none, some 83, [49], .eff fun e => effIb (BinOp.add) (e 49) (.v (Value.int (IntKind.i64) 1))⟩,
  ⟨none, some 49, [83], .eff fun e => ret (e 83)⟩]
noncomputable def p15_l3 : PCode := (.seq (.reg p15_r10 [3, 4, 11, 12, 15, 47, 48, 49, 50]) (.seq (.cond (Operand.tmp 50) .skip (.exit 2)) (.seq (.block 3 (.seq (.reg p15_r11 [3, 4, 11, 12, 15, 16, 17, 47, 48, 49]) (.seq (.reg p15_r12 [3, 4, 11, 12, 15, 16, 17, 47, 48, 49, 55, 56]) (.block 4 (.loop p15_l2))))) (.reg p15_r23 [3, 4, 11, 12, 15, 47, 48, 49]))))
noncomputable def p15_r24 : List PI := [
  ⟨none, some 21, [], .eff fun e => ret (.v (Value.int (IntKind.i64) 14))⟩]
noncomputable def p15_r25 : List PI := [
  ⟨none, some 84, [15], .eff fun e => ret (e 15)⟩]
noncomputable def p15_r26 : List PI := [
  ⟨none, some 21, [], .eff fun e => ret (.v (Value.int (IntKind.i64) 0))⟩]
noncomputable def p15_r27 : List PI := [
  ⟨none, some 85, [3], .eff fun e => ret (e 3)⟩,
  ⟨none, some 86, [85], .eff fun e => effCi (IntKind.i64) (e 85)⟩,
  ⟨none, some 87, [12], .eff fun e => ret (e 12)⟩,
  ⟨none, some 88, [87], .eff fun e => effLenSl (e 87)⟩,
  ⟨none, some 89, [86, 88], .eff fun e => effIb (BinOp.rem) (e 86) (e 88)⟩,
  ⟨none, some 22, [89], .eff fun e => ret (e 89)⟩]
noncomputable def p15_r28 : List PI := [
  ⟨none, some 90, [12], .eff fun e => ret (e 12)⟩,
  ⟨none, some 91, [22], .eff fun e => ret (e 22)⟩,
  ⟨none, some 92, [90, 91], .eff fun e => effSlc 1 (e 90) (some (e 91)) none none⟩,
  ⟨none, some 93, [12], .eff fun e => ret (e 12)⟩,
  ⟨none, some 94, [22], .eff fun e => ret (e 22)⟩,
  ⟨none, some 95, [93, 94], .eff fun e => effSlc 1 (e 93) none (some (e 94)) none⟩,
  ⟨none, some 96, [92, 95], .eff fun e => effMks 2 1 ([Value.slice none 0 0, Value.slice none 0 0]) [(0, 1, (e 92)), (1, 1, (e 95))]⟩,
  ⟨none, some 97, [96], .call 51 ([Operand.tmp 96])⟩,
  ⟨none, some 23, [97], .eff fun e => ret (e 97)⟩]
noncomputable def p15_r29 : List PI := [
  ⟨none, some 98, [12], .eff fun e => ret (e 12)⟩,
  ⟨none, some 99, [98], .call 45 ([Operand.tmp 98])⟩,
  ⟨none, some 24, [99], .eff fun e => ret (e 99)⟩]
noncomputable def p15_r30 : List PI := [
  ⟨none, some 100, [24], .eff fun e => ret (e 24)⟩,
  ⟨none, some 101, [100], .call 52 ([Operand.tmp 100])⟩]
noncomputable def p15_r31 : List PI := [
  ⟨none, some 102, [11], .eff fun e => ret (e 11)⟩,
  ⟨none, some 103, [102], .call 45 ([Operand.tmp 102])⟩,
  ⟨none, some 25, [103], .eff fun e => ret (e 103)⟩]
noncomputable def p15_r32 : List PI := [
  ⟨none, some 104, [25], .eff fun e => ret (e 25)⟩,
  ⟨none, some 105, [4], .eff fun e => ret (e 4)⟩,
  ⟨none, some 106, [105], .eff fun e => effCi (IntKind.i64) (e 105)⟩,
  ⟨none, some 107, [25], .eff fun e => ret (e 25)⟩,
  ⟨none, some 108, [107], .eff fun e => effLenSl (e 107)⟩,
  ⟨none, some 109, [106, 108], .eff fun e => effIb (BinOp.rem) (e 106) (e 108)⟩,
  ⟨none, some 110, [104, 109], .eff fun e => effIdx 1 (e 104) (e 109)⟩,
  ⟨none, some 111, [110], .eff fun e => effLoad1 (e 110)⟩,
  ⟨none, some 112, [111], .eff fun e => effIb (BinOp.add) (e 111) (.v (Value.int (IntKind.i64) 1))⟩,
  ⟨none, some 113, [104, 109], .eff fun e => effIdx 1 (e 104) (e 109)⟩,
  ⟨none, none, [113, 112], .eff fun e => effStore 1 (e 113) (e 112)⟩]
noncomputable def p15_r33 : List PI := [
  ⟨none, some 114, [11], .eff fun e => ret (e 11)⟩,
  ⟨none, some 115, [12], .eff fun e => ret (e 12)⟩,
  ⟨none, some 116, [114, 115], .call 30 ([Operand.tmp 114, Operand.tmp 115])⟩,
  ⟨none, some 117, [21], .eff fun e => ret (e 21)⟩,
  ⟨none, some 118, [116, 117], .eff fun e => effIb (BinOp.eql) (e 116) (e 117)⟩,
  ⟨none, some 119, [118], .eff fun e => ret (e 118)⟩,
  ⟨some (119, true), some 120, [11], .eff fun e => ret (e 11)⟩,
  ⟨some (119, true), some 121, [23], .eff fun e => ret (e 23)⟩,
  ⟨some (119, true), some 122, [120, 121], .call 30 ([Operand.tmp 120, Operand.tmp 121])⟩,
  ⟨some (119, true), some 123, [21], .eff fun e => ret (e 21)⟩,
  ⟨some (119, true), some 124, [122, 123], .eff fun e => effIb (BinOp.eql) (e 122) (e 123)⟩,
  ⟨none, some 125, [119, 124], .eff fun e => effPick (e 119) (e 124) (.v (Value.bool false))⟩,
  ⟨none, some 126, [125], .eff fun e => ret (e 125)⟩,
  ⟨some (126, true), some 127, [11], .eff fun e => ret (e 11)⟩,
  ⟨some (126, true), some 128, [24], .eff fun e => ret (e 24)⟩,
  ⟨some (126, true), some 129, [127, 128], .call 30 ([Operand.tmp 127, Operand.tmp 128])⟩,
  ⟨some (126, true), some 130, [21], .eff fun e => ret (e 21)⟩,
  ⟨some (126, true), some 131, [129, 130], .eff fun e => effIb (BinOp.eql) (e 129) (e 130)⟩,
  ⟨none, some 132, [126, 131], .eff fun e => effPick (e 126) (e 131) (.v (Value.bool false))⟩,
  ⟨none, some 133, [132], .eff fun e => ret (e 132)⟩,
  ⟨some (133, true), some 134, [15], .eff fun e => ret (e 15)⟩,
  ⟨some (133, true), some 135, [134], .eff fun e => effNt (e 134)⟩,
  ⟨some (133, true), some 136, [135], .eff fun e => ret (e 135)⟩,
  ⟨some (136, false), some 137, [25], .eff fun e => ret (e 25)⟩,
  ⟨some (136, false), some 138, [12], .eff fun e => ret (e 12)⟩,
  ⟨some (136, false), some 139, [137, 138], .call 30 ([Operand.tmp 137, Operand.tmp 138])⟩,
  ⟨some (136, false), some 140, [139], .eff fun e => effIb (BinOp.eql) (e 139) (.v (Value.int (IntKind.i64) 0))⟩,
  ⟨some (133, true), some 141, [136, 140], .eff fun e => effPick (e 136) (.v (Value.bool true)) (e 140)⟩,
  ⟨none, some 142, [133, 141], .eff fun e => effPick (e 133) (e 141) (.v (Value.bool false))⟩,
  ⟨none, some 143, [142], .eff fun e => ret (e 142)⟩,
  ⟨some (143, true), some 144, [], .call 16 ([])⟩,
  ⟨none, some 145, [143, 144], .eff fun e => effPick (e 143) (e 144) (.v (Value.bool false))⟩,
  ⟨none, some 10, [145], .eff fun e => ret (e 145)⟩]
noncomputable def p15 : PCode := (.seq (.reg p15_r0 [1, 3, 4, 5, 7]) (.seq (.reg p15_r1 [1, 3, 4, 7, 11]) (.seq (.reg p15_r2 [1, 3, 4, 7, 11, 12]) (.seq (.seq (.reg p15_r3 [3, 4, 11, 12, 32, 33, 34]) (.block 0 (.loop p15_l0))) (.seq (.reg p15_r8 [3, 4, 11, 12, 15]) (.seq (.seq (.reg p15_r9 [3, 4, 11, 12, 15, 47, 48, 49]) (.block 2 (.loop p15_l3))) (.seq (.reg p15_r24 [3, 4, 11, 12, 15, 21]) (.seq (.seq (.reg p15_r25 [3, 4, 11, 12, 15, 21, 84]) (.cond (Operand.tmp 84) (.reg p15_r26 [3, 4, 11, 12, 15, 21]) .skip)) (.seq (.reg p15_r27 [4, 11, 12, 15, 21, 22]) (.seq (.draw p15_r28 [[], [], [0, 1], [], [], [3, 4], [2, 5, 0, 1, 3, 4], [6, 2, 5, 0, 1, 3, 4], [7, 7, 0, 1, 2, 3, 4, 5, 6, 7, 6, 2, 5, 0, 1, 3, 4, 6, 2, 5, 0, 1, 3, 4, 0, 1, 3, 4, 2, 5, 0, 1, 3, 4, 6, 2, 5, 0, 1, 3, 4]] [4, 11, 12, 15, 21, 23]) (.seq (.reg p15_r29 [4, 11, 12, 15, 21, 23, 24]) (.seq (.reg p15_r30 [4, 11, 12, 15, 21, 23, 24]) (.seq (.reg p15_r31 [4, 11, 12, 15, 21, 23, 24, 25]) (.seq (.reg p15_r32 [11, 12, 15, 21, 23, 24, 25]) (.seq (.reg p15_r33 [10]) .ret)))))))))))))))
theorem P15 : PFn Try.prog 15 ⟨p15, [SRes.tmp 10], 146⟩ := ⟨c15, F15, by kernel_rfl⟩
end Go.Sx.Wk
/- The codes of the functions, written by a program (Gen.lean), and that they are the functions'. No conditions. -/
set_option linter.unusedVariables false
set_option maxRecDepth 100000
namespace Go.Sx.Wk
open Go Go.Sx Go.Proofs

noncomputable def p42_r0 : List PI := [
  ⟨none, some 3, [0], .eff fun e => effBox (e 0)⟩,
  ⟨none, some 6, [], .eff fun e => ret (.v (Value.slice none 0 0))⟩]
noncomputable def p42_r1 : List PI := [
  ⟨none, some 7, [], .eff fun e => ret (.v (Value.slice none 0 0))⟩]
noncomputable def p42_r2 : List PI := [
  ⟨none, some 10, [3], .eff fun e => effOff 1 (e 3)⟩,
  ⟨none, some 11, [3], .eff fun e => effOff 0 (e 3)⟩,
  ⟨none, some 12, [11], .eff fun e => effLoad1 (e 11)⟩,
  ⟨none, some 13, [12], .eff fun e => effCi (IntKind.i64) (e 12)⟩,
  ⟨none, some 14, [1], .eff fun e => ret (e 1)⟩,
  ⟨none, some 15, [13, 14], .eff fun e => effIb (BinOp.rem) (e 13) (e 14)⟩,
  ⟨none, some 16, [15], .eff fun e => effIb (BinOp.add) (.v (Value.int (IntKind.i64) 1)) (e 15)⟩,
  ⟨none, some 17, [10, 16], .eff fun e => effSlcA 4 1 (e 10) none (some (e 16)) none⟩,
  ⟨none, some 18, [17], .eff fun e => effLenSl (e 17)⟩,
  ⟨none, some 19, [], .eff fun e => ret (.v (Value.int (IntKind.i64) 0))⟩]
noncomputable def p42_r3 : List PI := [
  ⟨none, some 20, [19, 18], .eff fun e => effIb (BinOp.lss) (e 19) (e 18)⟩]
noncomputable def p42_r4 : List PI := [
  ⟨none, some 21, [17, 19], .eff fun e => effIdx 1 (e 17) (e 19)⟩,
  ⟨none, some 22, [21], .eff fun e => effLoad1 (e 21)⟩,
  ⟨none, some 9, [22], .eff fun e => ret (e 22)⟩]
noncomputable def p42_r5 : List PI := [
  ⟨none, some 23, [7], .eff fun e => ret (e 7)⟩,
  ⟨none, some 24, [9], .eff fun e => ret (e 9)⟩,
  ⟨none, some 25, [24], .eff fun e => effCi (IntKind.i64) (e 24)⟩,
  ⟨none, some 26, [2], .eff fun e => ret (e 2)⟩,
  ⟨none, some 27, [25, 26], .eff fun e => effIb (BinOp.rem) (e 25) (e 26)⟩,
  ⟨none, some 28, [27], .eff fun e => effIb (BinOp.add) (.v (Value.int (IntKind.i64) 1)) (e 27)⟩,
  ⟨none, some 29, [28], .eff fun e => effMks 1 1 ([Value.int (IntKind.i64) 0]) [(0, 1, (e 28))]⟩,
  ⟨none, some 30, [23, 29], .eff fun e => effApp 1 8 (e 23) (e 29)⟩,
  ⟨none, some 7, [30], .eff fun e => ret (e 30)⟩]
noncomputable def p42_r6 : List PI := [
  ⟨none, some 31, [19], .eff fun e => effIb (BinOp.add) (e 19) (.v (Value.int (IntKind.i64) 1))⟩,
  ⟨none, some 19, [31], .eff fun e => ret (e 31)⟩]
noncomputable def p42_l0 : PCode := (.seq (.reg p42_r3 [2, 7, 17, 18, 19, 20]) (.seq (.cond (Operand.tmp 20) .skip (.exit 0)) (.seq (.block 1 (.seq (.reg p42_r4 [2, 7, 9, 17, 18, 19]) (.reg p42_r5 [2, 7, 17, 18, 19]))) (.reg p42_r6 [2, 7, 17, 18, 19]))))
noncomputable def p42_r7 : List PI := [
  ⟨none, some 32, [7], .eff fun e => ret (e 7)⟩,
  ⟨none, some 6, [32], .eff fun e => ret (e 32)⟩]
noncomputable def p42 : PCode := (.seq (.reg p42_r0 [1, 2, 3]) (.seq (.reg p42_r1 [1, 2, 3, 7]) (.seq (.seq (.reg p42_r2 [2, 7, 17, 18, 19]) (.block 0 (.loop p42_l0))) (.seq (.reg p42_r7 [6]) .ret))))
theorem P42 : PFn Try.prog 42 ⟨p42, [SRes.tmp 6], 33⟩ := ⟨c42, F42, by kernel_rfl⟩
end Go.Sx.Wk
/- The codes of the functions, written by a program (Gen.lean), and that they are the functions'. No conditions. -/
set_option linter.unusedVariables false
set_option maxRecDepth 100000
namespace Go.Sx.Wk
open Go Go.Sx Go.Proofs

noncomputable def p43_r0 : List PI := [
  ⟨none, some 4, [], .eff fun e => ret (.v (Value.bool false))⟩]
noncomputable def p43_r1 : List PI := [
  ⟨none, some 8, [0], .eff fun e => ret (e 0)⟩,
  ⟨none, some 9, [8], .eff fun e => effLenSl (e 8)⟩,
  ⟨none, some 10, [], .eff fun e => ret (.v (Value.int (IntKind.i64) 0))⟩]
noncomputable def p43_r2 : List PI := [
  ⟨none, some 11, [10, 9], .eff fun e => effIb (BinOp.lss) (e 10) (e 9)⟩]
noncomputable def p43_r3 : List PI := [
  ⟨none, some 12, [10], .eff fun e => ret (e 10)⟩,
  ⟨none, some 13, [8, 10], .eff fun e => effIdx 1 (e 8) (e 10)⟩,
  ⟨none, some 14, [13], .eff fun e => effLoad1 (e 13)⟩,
  ⟨none, some 5, [12], .eff fun e => ret (e 12)⟩,
  ⟨none, some 6, [14], .eff fun e => ret (e 14)⟩]
noncomputable def p43_r4 : List PI := [
  ⟨none, some 7, [], .eff fun e => ret (.v (Value.int (IntKind.i64) 0))⟩]
noncomputable def p43_r5 : List PI := [
  ⟨none, some 15, [7], .eff fun e => ret (e 7)⟩,
  ⟨none, some 16, [6], .eff fun e => ret (e 6)⟩,
  ⟨none, some 17, [15, 16], .eff fun e => effIb (BinOp.add) (e 15) (e 16)⟩,
  ⟨none, some 18, [1], .eff fun e => ret (e 1)⟩,
  ⟨none, some 19, [18], .eff fun e => effLenSl (e 18)⟩,
  ⟨none, some 20, [17, 19], .eff fun e => effIb (BinOp.leq) (e 17) (e 19)⟩]
noncomputable def p43_r6 : List PI := [
  ⟨none, some 23, [1], .eff fun e => ret (e 1)⟩,
  ⟨none, some 24, [7], .eff fun e => ret (e 7)⟩,
  ⟨none, some 25, [7], .eff fun e => ret (e 7)⟩,
  ⟨none, some 26, [6], .eff fun e => ret (e 6)⟩,
  ⟨none, some 27, [25, 26], .eff fun e => effIb (BinOp.add) (e 25) (e 26)⟩,
  ⟨none, some 28, [23, 24, 27], .eff fun e => effSlc 1 (e 23) (some (e 24)) (some (e 27)) none⟩,
  ⟨none, some 29, [5], .eff fun e => ret (e 5)⟩,
  ⟨none, some 30, [28, 29], .call 72 ([Operand.tmp 28, Operand.tmp 29])⟩,
  ⟨none, some 31, [30], .eff fun e => effNt (e 30)⟩]
noncomputable def p43_r7 : List PI := [
  ⟨none, some 4, [], .eff fun e => ret (.v (Value.bool false))⟩]
noncomputable def p43_r8 : List PI := [
  ⟨none, some 21, [7], .eff fun e => ret (e 7)⟩,
  ⟨none, some 22, [21], .eff fun e => effIb (BinOp.add) (e 21) (.v (Value.int (IntKind.i64) 1))⟩,
  ⟨none, some 7, [22], .eff fun e => ret (e 22)⟩]
noncomputable def p43_l0 : PCode := (.seq (.seq (.reg p43_r5 [1, 5, 6, 7, 8, 9, 10, 20]) (.cond (Operand.tmp 20) .skip (.exit 2))) (.seq (.block 3 (.seq (.reg p43_r6 [1, 5, 6, 7, 8, 9, 10, 31]) (.cond (Operand.tmp 31) (.seq (.reg p43_r7 [4]) .ret) .skip))) (.reg p43_r8 [1, 5, 6, 7, 8, 9, 10])))
noncomputable def p43_r9 : List PI := [
  ⟨none, some 32, [10], .eff fun e => effIb (BinOp.add) (e 10) (.v (Value.int (IntKind.i64) 1))⟩,
  ⟨none, some 10, [32], .eff fun e => ret (e 32)⟩]
noncomputable def p43_l1 : PCode := (.seq (.reg p43_r2 [1, 8, 9, 10, 11]) (.seq (.cond (Operand.tmp 11) .skip (.exit 0)) (.seq (.block 1 (.seq (.reg p43_r3 [1, 5, 6, 8, 9, 10]) (.seq (.reg p43_r4 [1, 5, 6, 7, 8, 9, 10]) (.block 2 (.loop p43_l0))))) (.reg p43_r9 [1, 8, 9, 10]))))
noncomputable def p43_r10 : List PI := [
  ⟨none, some 4, [], .eff fun e => ret (.v (Value.bool true))⟩]
noncomputable def p43 : PCode := (.seq (.reg p43_r0 [0, 1]) (.seq (.seq (.reg p43_r1 [1, 8, 9, 10]) (.block 0 (.loop p43_l1))) (.seq (.reg p43_r10 [4]) .ret)))
theorem P43 : PFn Try.prog 43 ⟨p43, [SRes.tmp 4], 33⟩ := ⟨c43, F43, by kernel_rfl⟩
end Go.Sx.Wk
/- The codes of the functions, written by a program (Gen.lean), and that they are the functions'. No conditions. -/
set_option linter.unusedVariables false
set_option maxRecDepth 100000
namespace Go.Sx.Wk
open Go Go.Sx Go.Proofs

noncomputable def p44_r0 : List PI := [
  ⟨none, some 4, [], .eff fun e => effAlloc ([Value.int (IntKind.i64) 0, Value.int (IntKind.i64) 0, Value.int (IntKind.i64) 0, Value.int (IntKind.i64) 0])⟩]
noncomputable def p44_r1 : List PI := [
  ⟨none, some 5, [], .eff fun e => effAlloc ([Value.int (IntKind.i64) 0, Value.int (IntKind.i64) 0, Value.int (IntKind.i64) 0, Value.int (IntKind.i64) 0])⟩]
noncomputable def p44_r2 : List PI := [
  ⟨none, some 11, [0], .eff fun e => ret (e 0)⟩,
  ⟨none, some 12, [11], .eff fun e => effLenSl (e 11)⟩,
  ⟨none, some 13, [], .eff fun e => ret (.v (Value.int (IntKind.i64) 0))⟩]
noncomputable def p44_r3 : List PI := [
  ⟨none, some 14, [13, 12], .eff fun e => effIb (BinOp.lss) (e 13) (e 12)⟩]
noncomputable def p44_r4 : List PI := [
  ⟨none, some 15, [13], .eff fun e => ret (e 13)⟩,
  ⟨none, some 16, [11, 13], .eff fun e => effIdx 1 (e 11) (e 13)⟩,
  ⟨none, some 17, [16], .eff fun e => effLoad1 (e 16)⟩,
  ⟨none, some 6, [15], .eff fun e => ret (e 15)⟩,
  ⟨none, some 7, [17], .eff fun e => ret (e 17)⟩]
noncomputable def p44_r5 : List PI := [
  ⟨none, some 18, [1], .eff fun e => ret (e 1)⟩,
  ⟨none, some 19, [18], .eff fun e => effLenSl (e 18)⟩,
  ⟨none, some 8, [19], .eff fun e => ret (e 19)⟩]
noncomputable def p44_r6 : List PI := [
  ⟨none, some 20, [1], .eff fun e => ret (e 1)⟩,
  ⟨none, some 21, [20], .eff fun e => effLenSl (e 20)⟩,
  ⟨none, some 22, [], .eff fun e => ret (.v (Value.int (IntKind.i64) 0))⟩]
noncomputable def p44_r7 : List PI := [
  ⟨none, some 23, [22, 21], .eff fun e => effIb (BinOp.lss) (e 22) (e 21)⟩]
noncomputable def p44_r8 : List PI := [
  ⟨none, some 24, [22], .eff fun e => ret (e 22)⟩,
  ⟨none, some 25, [20, 22], .eff fun e => effIdx 1 (e 20) (e 22)⟩,
  ⟨none, some 26, [25], .eff fun e => effLoad1 (e 25)⟩,
  ⟨none, some 9, [24], .eff fun e => ret (e 24)⟩,
  ⟨none, some 10, [26], .eff fun e => ret (e 26)⟩]
noncomputable def p44_r9 : List PI := [
  ⟨none, some 27, [10], .eff fun e => ret (e 10)⟩,
  ⟨none, some 28, [6], .eff fun e => ret (e 6)⟩,
  ⟨none, some 29, [27, 28], .eff fun e => effIb (BinOp.eql) (e 27) (e 28)⟩]
noncomputable def p44_r10 : List PI := [
  ⟨none, some 30, [1], .eff fun e => ret (e 1)⟩,
  ⟨none, some 31, [30], .eff fun e => effLenSl (e 30)⟩,
  ⟨none, some 32, [31], .eff fun e => effIb (BinOp.sub) (e 31) (.v (Value.int (IntKind.i64) 1))⟩,
  ⟨none, some 33, [9], .eff fun e => ret (e 9)⟩,
  ⟨none, some 34, [32, 33], .eff fun e => effIb (BinOp.sub) (e 32) (e 33)⟩,
  ⟨none, some 8, [34], .eff fun e => ret (e 34)⟩]
noncomputable def p44_r11 : List PI := [
  ⟨none, some 35, [22], .eff fun e => effIb (BinOp.add) (e 22) (.v (Value.int (IntKind.i64) 1))⟩,
  ⟨none, some 22, [35], .eff fun e => ret (e 35)⟩]
noncomputable def p44_l0 : PCode := (.seq (.reg p44_r7 [1, 4, 5, 6, 7, 8, 11, 12, 13, 20, 21, 22, 23]) (.seq (.cond (Operand.tmp 23) .skip (.exit 2)) (.seq (.block 3 (.seq (.reg p44_r8 [1, 4, 5, 6, 7, 8, 9, 10, 11, 12, 13, 20, 21, 22]) (.seq (.reg p44_r9 [1, 4, 5, 6, 7, 8, 9, 11, 12, 13, 20, 21, 22, 29]) (.cond (Operand.tmp 29) (.reg p44_r10 [1, 4, 5, 6, 7, 8, 11, 12, 13, 20, 21, 22]) .skip)))) (.reg p44_r11 [1, 4, 5, 6, 7, 8, 11, 12, 13, 20, 21, 22]))))
noncomputable def p44_r12 : List PI := [
  ⟨none, some 36, [6], .eff fun e => ret (e 6)⟩,
  ⟨none, some 37, [7], .eff fun e => ret (e 7)⟩,
  ⟨none, some 38, [8], .eff fun e => ret (e 8)⟩,
  ⟨none, some 39, [37, 38], .eff fun e => effIb (BinOp.sub) (e 37) (e 38)⟩,
  ⟨none, some 40, [5, 36], .eff fun e => effIdxA 4 1 (e 5) (e 36)⟩,
  ⟨none, none, [40, 39], .eff fun e => effStore 1 (e 40) (e 39)⟩]
noncomputable def p44_r13 : List PI := [
  ⟨none, some 41, [13], .eff fun e => effIb (BinOp.add) (e 13) (.v (Value.int (IntKind.i64) 1))⟩,
  ⟨none, some 13, [41], .eff fun e => ret (e 41)⟩]
noncomputable def p44_l1 : PCode := (.seq (.reg p44_r3 [1, 4, 5, 11, 12, 13, 14]) (.seq (.cond (Operand.tmp 14) .skip (.exit 0)) (.seq (.block 1 (.seq (.reg p44_r4 [1, 4, 5, 6, 7, 11, 12, 13]) (.seq (.reg p44_r5 [1, 4, 5, 6, 7, 8, 11, 12, 13]) (.seq (.seq (.reg p44_r6 [1, 4, 5, 6, 7, 8, 11, 12, 13, 20, 21, 22]) (.block 2 (.loop p44_l0))) (.reg p44_r12 [1, 4, 5, 11, 12, 13]))))) (.reg p44_r13 [1, 4, 5, 11, 12, 13]))))
noncomputable def p44_r14 : List PI := [
  ⟨none, some 42, [5], .eff fun e => effLoadN 4 (e 5)⟩,
  ⟨none, none, [4, 42], .eff fun e => effStore 4 (e 4) (e 42)⟩]
noncomputable def p44 : PCode := (.seq (.reg p44_r0 [0, 1, 4]) (.seq (.reg p44_r1 [0, 1, 4, 5]) (.seq (.seq (.reg p44_r2 [1, 4, 5, 11, 12, 13]) (.block 0 (.loop p44_l1))) (.seq (.reg p44_r14 [4]) .ret))))
theorem P44 : PFn Try.prog 44 ⟨p44, [SRes.cell 4 (some 4)], 43⟩ := ⟨c44, F44, by kernel_rfl⟩
end Go.Sx.Wk
/- The codes of the functions, written by a program (Gen.lean), and that they are the functions'. No conditions. -/
set_option linter.unusedVariables false
set_option maxRecDepth 100000
namespace Go.Sx.Wk
open Go Go.Sx Go.Proofs

noncomputable def p45_r0 : List PI := [
  ⟨none, some 2, [], .eff fun e => ret (.v (Value.slice none 0 0))⟩]
noncomputable def p45_r1 : List PI := [
  ⟨none, some 3, [0], .eff fun e => ret (e 0)⟩,
  ⟨none, some 4, [3], .eff fun e => effEqn false (TypeDesc.slice 3) (e 3)⟩]
noncomputable def p45_r2 : List PI := [
  ⟨none, some 2, [], .eff fun e => ret (.v (Value.slice none 0 0))⟩]
noncomputable def p45_r3 : List PI := [
  ⟨none, some 5, [], .eff fun e => effMks0 1⟩,
  ⟨none, some 6, [0], .eff fun e => ret (e 0)⟩,
  ⟨none, some 7, [5, 6], .eff fun e => effApp 1 8 (e 5) (e 6)⟩,
  ⟨none, some 2, [7], .eff fun e => ret (e 7)⟩]
noncomputable def p45 : PCode := (.seq (.reg p45_r0 [0]) (.seq (.seq (.reg p45_r1 [0, 4]) (.cond (Operand.tmp 4) (.seq (.reg p45_r2 [2]) .ret) .skip)) (.seq (.reg p45_r3 [2]) .ret)))
theorem P45 : PFn Try.prog 45 ⟨p45, [SRes.tmp 2], 8⟩ := ⟨c45, F45, by kernel_rfl⟩
end Go.Sx.Wk
/- The codes of the functions, written by a program (Gen.lean), and that they are the functions'. No conditions. -/
set_option linter.unusedVariables false
set_option maxRecDepth 100000
namespace Go.Sx.Wk
open Go Go.Sx Go.Proofs

noncomputable def p51_r0 : List PI := [
  ⟨none, some 2, [], .eff fun e => ret (.v (Value.slice none 0 0))⟩]
noncomputable def p51_r1 : List PI := [
  ⟨none, some 3, [], .eff fun e => ret (.v (Value.int (IntKind.i64) 0))⟩]
noncomputable def p51_r2 : List PI := [
  ⟨none, some 9, [0], .eff fun e => ret (e 0)⟩,
  ⟨none, some 10, [9], .eff fun e => effLenSl (e 9)⟩,
  ⟨none, some 11, [], .eff fun e => ret (.v (Value.int (IntKind.i64) 0))⟩]
noncomputable def p51_r3 : List PI := [
  ⟨none, some 12, [11, 10], .eff fun e => effIb (BinOp.lss) (e 11) (e 10)⟩]
noncomputable def p51_r4 : List PI := [
  ⟨none, some 13, [9, 11], .eff fun e => effIdx 1 (e 9) (e 11)⟩,
  ⟨none, some 14, [13], .eff fun e => effLoad1 (e 13)⟩,
  ⟨none, some 5, [14], .eff fun e => ret (e 14)⟩]
noncomputable def p51_r5 : List PI := [
  ⟨none, some 15, [3], .eff fun e => ret (e 3)⟩,
  ⟨none, some 16, [5], .eff fun e => ret (e 5)⟩,
  ⟨none, some 17, [16], .eff fun e => effLenSl (e 16)⟩,
  ⟨none, some 18, [15, 17], .eff fun e => effIb (BinOp.add) (e 15) (e 17)⟩,
  ⟨none, some 3, [18], .eff fun e => ret (e 18)⟩]
noncomputable def p51_r6 : List PI := [
  ⟨none, some 19, [3], .eff fun e => ret (e 3)⟩,
  ⟨none, some 20, [19], .eff fun e => effIb (BinOp.lss) (e 19) (.v (Value.int (IntKind.i64) 0))⟩]
noncomputable def p51_r7 : List PI := [
  ⟨none, some 21, [], .eff fun e => effMkifc 9 (.v (Value.string (⟨#[108, 101, 110, 32, 111, 117, 116, 32, 111, 102, 32, 114, 97, 110, 103, 101]⟩ : ByteArray)))⟩,
  ⟨none, none, [], .eff fun e => none⟩]
noncomputable def p51_r8 : List PI := [
  ⟨none, some 22, [11], .eff fun e => effIb (BinOp.add) (e 11) (.v (Value.int (IntKind.i64) 1))⟩,
  ⟨none, some 11, [22], .eff fun e => ret (e 22)⟩]
noncomputable def p51_l0 : PCode := (.seq (.reg p51_r3 [0, 3, 9, 10, 11, 12]) (.seq (.cond (Operand.tmp 12) .skip (.exit 0)) (.seq (.block 1 (.seq (.reg p51_r4 [0, 3, 5, 9, 10, 11]) (.seq (.reg p51_r5 [0, 3, 9, 10, 11]) (.seq (.reg p51_r6 [0, 3, 9, 10, 11, 20]) (.cond (Operand.tmp 20) (.reg p51_r7 [0, 3, 9, 10, 11]) .skip))))) (.reg p51_r8 [0, 3, 9, 10, 11]))))
noncomputable def p51_r9 : List PI := [
  ⟨none, some 23, [3], .eff fun e => ret (e 3)⟩,
  ⟨none, some 24, [23], .call 76 ([Operand.const (Value.slice none 0 0), Operand.tmp 23])⟩,
  ⟨none, some 6, [24], .eff fun e => ret (e 24)⟩]
noncomputable def p51_r10 : List PI := [
  ⟨none, some 25, [0], .eff fun e => ret (e 0)⟩,
  ⟨none, some 26, [25], .eff fun e => effLenSl (e 25)⟩,
  ⟨none, some 27, [], .eff fun e => ret (.v (Value.int (IntKind.i64) 0))⟩]
noncomputable def p51_r11 : List PI := [
  ⟨none, some 28, [27, 26], .eff fun e => effIb (BinOp.lss) (e 27) (e 26)⟩]
noncomputable def p51_r12 : List PI := [
  ⟨none, some 29, [25, 27], .eff fun e => effIdx 1 (e 25) (e 27)⟩,
  ⟨none, some 30, [29], .eff fun e => effLoad1 (e 29)⟩,
  ⟨none, some 8, [30], .eff fun e => ret (e 30)⟩]
noncomputable def p51_r13 : List PI := [
  ⟨none, some 31, [6], .eff fun e => ret (e 6)⟩,
  ⟨none, some 32, [8], .eff fun e => ret (e 8)⟩,
  ⟨none, some 33, [31, 32], .eff fun e => effApp 1 8 (e 31) (e 32)⟩,
  ⟨none, some 6, [33], .eff fun e => ret (e 33)⟩]
noncomputable def p51_r14 : List PI := [
  ⟨none, some 34, [27], .eff fun e => effIb (BinOp.add) (e 27) (.v (Value.int (IntKind.i64) 1))⟩,
  ⟨none, some 27, [34], .eff fun e => ret (e 34)⟩]
noncomputable def p51_l1 : PCode := (.seq (.reg p51_r11 [6, 25, 26, 27, 28]) (.seq (.cond (Operand.tmp 28) .skip (.exit 2)) (.seq (.block 3 (.seq (.reg p51_r12 [6, 8, 25, 26, 27]) (.reg p51_r13 [6, 25, 26, 27]))) (.reg p51_r14 [6, 25, 26, 27]))))
noncomputable def p51_r15 : List PI := [
  ⟨none, some 35, [6], .eff fun e => ret (e 6)⟩,
  ⟨none, some 2, [35], .eff fun e => ret (e 35)⟩]
noncomputable def p51 : PCode := (.seq (.reg p51_r0 [0]) (.seq (.reg p51_r1 [0, 3]) (.seq (.seq (.reg p51_r2 [0, 3, 9, 10, 11]) (.block 0 (.loop p51_l0))) (.seq (.reg p51_r9 [0, 6]) (.seq (.seq (.reg p51_r10 [6, 25, 26, 27]) (.block 2 (.loop p51_l1))) (.seq (.reg p51_r15 [2]) .ret))))))
theorem P51 : PFn Try.prog 51 ⟨p51, [SRes.tmp 2], 36⟩ := ⟨c51, F51, by kernel_rfl⟩
end Go.Sx.Wk
/- The codes of the functions, written by a program (Gen.lean), and that they are the functions'. No conditions. -/
set_option linter.unusedVariables false
set_option maxRecDepth 100000
namespace Go.Sx.Wk
open Go Go.Sx Go.Proofs

noncomputable def p52_r0 : List PI := [
  ⟨none, some 4, [0], .eff fun e => ret (e 0)⟩,
  ⟨none, some 5, [4], .eff fun e => effLenSl (e 4)⟩,
  ⟨none, some 6, [5], .eff fun e => effIb (BinOp.sub) (e 5) (.v (Value.int (IntKind.i64) 1))⟩,
  ⟨none, some 2, [], .eff fun e => ret (.v (Value.int (IntKind.i64) 0))⟩,
  ⟨none, some 3, [6], .eff fun e => ret (e 6)⟩]
noncomputable def p52_r1 : List PI := [
  ⟨none, some 7, [2], .eff fun e => ret (e 2)⟩,
  ⟨none, some 8, [3], .eff fun e => ret (e 3)⟩,
  ⟨none, some 9, [7, 8], .eff fun e => effIb (BinOp.lss) (e 7) (e 8)⟩]
noncomputable def p52_r2 : List PI := [
  ⟨none, some 14, [0], .eff fun e => ret (e 0)⟩,
  ⟨none, some 15, [2], .eff fun e => ret (e 2)⟩,
  ⟨none, some 16, [0], .eff fun e => ret (e 0)⟩,
  ⟨none, some 17, [3], .eff fun e => ret (e 3)⟩,
  ⟨none, some 18, [0], .eff fun e => ret (e 0)⟩,
  ⟨none, some 19, [3], .eff fun e => ret (e 3)⟩,
  ⟨none, some 20, [18, 19], .eff fun e => effIdx 1 (e 18) (e 19)⟩,
  ⟨none, some 21, [20], .eff fun e => effLoad1 (e 20)⟩,
  ⟨none, some 22, [0], .eff fun e => ret (e 0)⟩,
  ⟨none, some 23, [2], .eff fun e => ret (e 2)⟩,
  ⟨none, some 24, [22, 23], .eff fun e => effIdx 1 (e 22) (e 23)⟩,
  ⟨none, some 25, [24], .eff fun e => effLoad1 (e 24)⟩,
  ⟨none, some 26, [14, 15], .eff fun e => effIdx 1 (e 14) (e 15)⟩,
  ⟨none, none, [26, 21], .eff fun e => effStore 1 (e 26) (e 21)⟩,
  ⟨none, some 27, [16, 17], .eff fun e => effIdx 1 (e 16) (e 17)⟩,
  ⟨none, none, [27, 25], .eff fun e => effStore 1 (e 27) (e 25)⟩]
noncomputable def p52_r3 : List PI := [
  ⟨none, some 10, [2], .eff fun e => ret (e 2)⟩,
  ⟨none, some 11, [10], .eff fun e => effIb (BinOp.add) (e 10) (.v (Value.int (IntKind.i64) 1))⟩,
  ⟨none, some 12, [3], .eff fun e => ret (e 3)⟩,
  ⟨none, some 13, [12], .eff fun e => effIb (BinOp.sub) (e 12) (.v (Value.int (IntKind.i64) 1))⟩,
  ⟨none, some 2, [11], .eff fun e => ret (e 11)⟩,
  ⟨none, some 3, [13], .eff fun e => ret (e 13)⟩]
noncomputable def p52_l0 : PCode := (.seq (.seq (.reg p52_r1 [0, 2, 3, 9]) (.cond (Operand.tmp 9) .skip (.exit 0))) (.seq (.block 1 (.draw p52_r2 [[], [], [], [], [], [], [4, 5], [6, 4, 5], [], [], [8, 9], [10, 8, 9], [0, 1, 0, 1, 4, 5, 6, 7, 11, 4, 5, 6, 4, 5, 10, 8, 9], [12, 7, 0, 1, 4, 5, 6, 7, 11, 0, 1, 0, 1, 4, 5, 6, 7, 11, 4, 5, 6, 4, 5, 10, 8, 9, 6, 4, 5, 4, 5, 6, 4, 5, 10, 8, 9], [2, 3, 0, 1, 2, 3, 4, 5, 6, 7, 8, 9, 10, 11, 12, 13, 4, 5, 6, 4, 5, 8, 9, 10, 8, 9, 0, 1, 0, 1, 4, 5, 6, 7, 11, 4, 5, 6, 4, 5, 10, 8, 9, 12, 7, 0, 1, 4, 5, 6, 7, 11, 0, 1, 0, 1, 4, 5, 6, 7, 11, 4, 5, 6, 4, 5, 10, 8, 9, 6, 4, 5, 4, 5, 6, 4, 5, 10, 8, 9], [14, 11, 13, 0, 1, 2, 3, 4, 5, 6, 7, 8, 9, 10, 11, 12, 13, 2, 3, 0, 1, 2, 3, 4, 5, 6, 7, 8, 9, 10, 11, 12, 13, 4, 5, 6, 4, 5, 8, 9, 10, 8, 9, 0, 1, 0, 1, 4, 5, 6, 7, 11, 4, 5, 6, 4, 5, 10, 8, 9, 12, 7, 0, 1, 4, 5, 6, 7, 11, 0, 1, 0, 1, 4, 5, 6, 7, 11, 4, 5, 6, 4, 5, 10, 8, 9, 6, 4, 5, 4, 5, 6, 4, 5, 10, 8, 9, 10, 8, 9, 12, 7, 0, 1, 4, 5, 6, 7, 11, 0, 1, 0, 1, 4, 5, 6, 7, 11, 4, 5, 6, 4, 5, 10, 8, 9, 6, 4, 5, 4, 5, 6, 4, 5, 10, 8, 9, 4, 5, 6, 4, 5, 8, 9, 10, 8, 9, 0, 1, 0, 1, 4, 5, 6, 7, 11, 4, 5, 6, 4, 5, 10, 8, 9, 12, 7, 0, 1, 4, 5, 6, 7, 11, 0, 1, 0, 1, 4, 5, 6, 7, 11, 4, 5, 6, 4, 5, 10, 8, 9, 6, 4, 5, 4, 5, 6, 4, 5, 10, 8, 9]] [0, 2, 3])) (.reg p52_r3 [0, 2, 3])))
noncomputable def p52 : PCode := (.seq (.reg p52_r0 [0, 2, 3]) (.block 0 (.loop p52_l0)))
theorem P52 : PFn Try.prog 52 ⟨p52, [], 28⟩ := ⟨c52, F52, by kernel_rfl⟩
end Go.Sx.Wk
/- The codes of the functions, written by a program (Gen.lean), and that they are the functions'. No conditions. -/
set_option linter.unusedVariables false
set_option maxRecDepth 100000
namespace Go.Sx.Wk
open Go Go.Sx Go.Proofs

noncomputable def p72_r0 : List PI := [
  ⟨none, some 4, [], .eff fun e => ret (.v (Value.bool false))⟩]
noncomputable def p72_r1 : List PI := [
  ⟨none, some 5, [0], .eff fun e => ret (e 0)⟩,
  ⟨none, some 6, [1], .eff fun e => ret (e 1)⟩,
  ⟨none, some 7, [5, 6], .call 67 ([Operand.tmp 5, Operand.tmp 6])⟩,
  ⟨none, some 8, [7], .eff fun e => effIb (BinOp.geq) (e 7) (.v (Value.int (IntKind.i64) 0))⟩,
  ⟨none, some 4, [8], .eff fun e => ret (e 8)⟩]
noncomputable def p72 : PCode := (.seq (.reg p72_r0 [0, 1]) (.seq (.reg p72_r1 [4]) .ret))
theorem P72 : PFn Try.prog 72 ⟨p72, [SRes.tmp 4], 9⟩ := ⟨c72, F72, by kernel_rfl⟩
end Go.Sx.Wk
