/- The codes of the functions, written by a program (Gen.lean), and that they are the functions'. No conditions. -/
import Derived.Test.YtmakepdccccmaaaSxJWd13toWd75
import Derived.KernelRfl
set_option linter.unusedVariables false
set_option maxRecDepth 100000
namespace Go.Sx.Wk
open Go Go.Sx Go.Proofs

noncomputable def p13_r0 : List PI := [
  ⟨none, some 2, [0], .eff fun e => effBox (e 0)⟩,
  ⟨none, some 4, [], .eff fun e => ret (.v (Value.bool false))⟩]
noncomputable def p13_r1 : List PI := [
  ⟨none, some 20, [2], .eff fun e => effLoadN 5 (e 2)⟩,
  ⟨none, some 21, [20], .call 42 ([Operand.tmp 20, Operand.const (Value.int (IntKind.i64) 3), Operand.const (Value.int (IntKind.i64) 6)])⟩,
  ⟨none, some 5, [21], .eff fun e => ret (e 21)⟩]
noncomputable def p13_r2 : List PI := [
  ⟨none, some 22, [1], .eff fun e => ret (e 1)⟩,
  ⟨none, some 23, [22], .eff fun e => effCi (IntKind.i64) (e 22)⟩,
  ⟨none, some 24, [23], .eff fun e => effIb (BinOp.rem) (e 23) (.v (Value.int (IntKind.i64) 21))⟩,
  ⟨none, some 6, [24], .eff fun e => ret (e 24)⟩]
noncomputable def p13_r3 : List PI := [
  ⟨none, some 26, [5], .eff fun e => ret (e 5)⟩,
  ⟨none, some 27, [6], .eff fun e => ret (e 6)⟩,
  ⟨none, some 28, [26, 27], .call 32 ([Operand.tmp 26, Operand.tmp 27])⟩,
  ⟨none, some 25, [28], .eff fun e => ret (e 28)⟩,
  ⟨none, some 29, [25], .eff fun e => effExt 0 (e 25)⟩,
  ⟨none, some 30, [25], .eff fun e => effExt 1 (e 25)⟩,
  ⟨none, some 7, [29], .eff fun e => ret (e 29)⟩,
  ⟨none, some 8, [30], .eff fun e => ret (e 30)⟩]
noncomputable def p13_r4 : List PI := [
  ⟨none, some 31, [5], .eff fun e => ret (e 5)⟩,
  ⟨none, some 32, [31], .call 46 ([Operand.tmp 31])⟩,
  ⟨none, some 33, [32], .eff fun e => effIb (BinOp.geq) (e 32) (.v (Value.int (IntKind.i64) 0))⟩]
noncomputable def p13_r5 : List PI := [
  ⟨none, some 35, [5], .eff fun e => ret (e 5)⟩,
  ⟨none, some 36, [35], .call 27 ([Operand.tmp 35, Operand.const (Value.slice none 0 0)])⟩,
  ⟨none, some 34, [36], .eff fun e => ret (e 36)⟩,
  ⟨none, some 37, [34], .eff fun e => effExt 0 (e 34)⟩,
  ⟨none, some 38, [34], .eff fun e => effExt 1 (e 34)⟩,
  ⟨none, some 9, [37], .eff fun e => ret (e 37)⟩,
  ⟨none, some 10, [38], .eff fun e => ret (e 38)⟩]
noncomputable def p13_r6 : List PI := [
  ⟨none, some 39, [8], .eff fun e => ret (e 8)⟩,
  ⟨none, some 40, [39], .eff fun e => effIb (BinOp.eql) (e 39) (.v (Value.int (IntKind.i64) 12))⟩,
  ⟨none, some 41, [40], .eff fun e => ret (e 40)⟩,
  ⟨some (41, true), some 42, [7], .eff fun e => ret (e 7)⟩,
  ⟨some (41, true), some 43, [42], .eff fun e => effLenSl (e 42)⟩,
  ⟨some (41, true), some 44, [43], .eff fun e => effIb (BinOp.eql) (e 43) (.v (Value.int (IntKind.i64) 0))⟩,
  ⟨none, some 45, [41, 44], .eff fun e => effPick (e 41) (e 44) (.v (Value.bool false))⟩,
  ⟨none, some 46, [45], .eff fun e => ret (e 45)⟩,
  ⟨some (46, true), some 47, [10], .eff fun e => ret (e 10)⟩,
  ⟨some (46, true), some 48, [47], .eff fun e => effIb (BinOp.eql) (e 47) (.v (Value.int (IntKind.i64) 0))⟩,
  ⟨none, some 49, [46, 48], .eff fun e => effPick (e 46) (e 48) (.v (Value.bool false))⟩,
  ⟨none, some 50, [49], .eff fun e => ret (e 49)⟩,
  ⟨some (50, true), some 51, [9], .eff fun e => ret (e 9)⟩,
  ⟨some (50, true), some 52, [51], .eff fun e => effNt (e 51)⟩,
  ⟨none, some 53, [50, 52], .eff fun e => effPick (e 50) (e 52) (.v (Value.bool false))⟩,
  ⟨none, some 54, [53], .eff fun e => ret (e 53)⟩,
  ⟨some (54, true), some 55, [], .call 16 ([])⟩,
  ⟨none, some 56, [54, 55], .eff fun e => effPick (e 54) (e 55) (.v (Value.bool false))⟩,
  ⟨none, some 4, [56], .eff fun e => ret (e 56)⟩]
noncomputable def p13_r7 : List PI := [
  ⟨none, some 57, [8], .eff fun e => ret (e 8)⟩,
  ⟨none, some 58, [57], .eff fun e => effIb (BinOp.neq) (e 57) (.v (Value.int (IntKind.i64) 0))⟩,
  ⟨none, some 59, [58], .eff fun e => ret (e 58)⟩,
  ⟨some (59, false), some 60, [7], .eff fun e => ret (e 7)⟩,
  ⟨some (59, false), some 61, [60], .eff fun e => effLenSl (e 60)⟩,
  ⟨some (59, false), some 62, [6], .eff fun e => ret (e 6)⟩,
  ⟨some (59, false), some 63, [61, 62], .eff fun e => effIb (BinOp.neq) (e 61) (e 62)⟩,
  ⟨none, some 64, [59, 63], .eff fun e => effPick (e 59) (.v (Value.bool true)) (e 63)⟩,
  ⟨none, some 65, [64], .eff fun e => ret (e 64)⟩,
  ⟨some (65, false), some 66, [5], .eff fun e => ret (e 5)⟩,
  ⟨some (65, false), some 67, [7], .eff fun e => ret (e 7)⟩,
  ⟨some (65, false), some 68, [66, 67], .call 43 ([Operand.tmp 66, Operand.tmp 67])⟩,
  ⟨some (65, false), some 69, [68], .eff fun e => effNt (e 68)⟩,
  ⟨none, some 70, [65, 69], .eff fun e => effPick (e 65) (.v (Value.bool true)) (e 69)⟩]
noncomputable def p13_r8 : List PI := [
  ⟨none, some 4, [], .eff fun e => ret (.v (Value.bool false))⟩]
noncomputable def p13_r9 : List PI := [
  ⟨none, some 71, [7], .eff fun e => ret (e 7)⟩,
  ⟨none, some 72, [71], .eff fun e => effLenSl (e 71)⟩,
  ⟨none, some 73, [], .eff fun e => ret (.v (Value.int (IntKind.i64) 0))⟩]
noncomputable def p13_r10 : List PI := [
  ⟨none, some 74, [73, 72], .eff fun e => effIb (BinOp.lss) (e 73) (e 72)⟩]
noncomputable def p13_r11 : List PI := [
  ⟨none, some 75, [73], .eff fun e => ret (e 73)⟩,
  ⟨none, some 76, [71, 73], .eff fun e => effIdx 1 (e 71) (e 73)⟩,
  ⟨none, some 77, [76], .eff fun e => effLoad1 (e 76)⟩,
  ⟨none, some 11, [75], .eff fun e => ret (e 75)⟩,
  ⟨none, some 12, [77], .eff fun e => ret (e 77)⟩]
noncomputable def p13_r12 : List PI := [
  ⟨none, some 78, [12], .eff fun e => ret (e 12)⟩,
  ⟨none, some 79, [78], .eff fun e => effIb (BinOp.lss) (e 78) (.v (Value.int (IntKind.i64) 0))⟩,
  ⟨none, some 80, [79], .eff fun e => ret (e 79)⟩,
  ⟨some (80, false), some 81, [12], .eff fun e => ret (e 12)⟩,
  ⟨some (80, false), some 82, [5], .eff fun e => ret (e 5)⟩,
  ⟨some (80, false), some 83, [82], .eff fun e => effLenSl (e 82)⟩,
  ⟨some (80, false), some 84, [81, 83], .eff fun e => effIb (BinOp.geq) (e 81) (e 83)⟩,
  ⟨none, some 85, [80, 84], .eff fun e => effPick (e 80) (.v (Value.bool true)) (e 84)⟩]
noncomputable def p13_r13 : List PI := [
  ⟨none, some 4, [], .eff fun e => ret (.v (Value.bool false))⟩]
noncomputable def p13_r14 : List PI := [
  ⟨none, some 86, [12], .eff fun e => ret (e 12)⟩,
  ⟨none, some 87, [86], .eff fun e => effIb (BinOp.add) (e 86) (.v (Value.int (IntKind.i64) 1))⟩,
  ⟨none, some 88, [], .eff fun e => ret (.v (Value.int (IntKind.i64) 0))⟩]
noncomputable def p13_r15 : List PI := [
  ⟨none, some 89, [88, 87], .eff fun e => effIb (BinOp.lss) (e 88) (e 87)⟩]
noncomputable def p13_r16 : List PI := [
  ⟨none, some 90, [88], .eff fun e => ret (e 88)⟩,
  ⟨none, some 13, [90], .eff fun e => ret (e 90)⟩]
noncomputable def p13_r17 : List PI := [
  ⟨none, some 91, [7], .eff fun e => ret (e 7)⟩,
  ⟨none, some 92, [11], .eff fun e => ret (e 11)⟩,
  ⟨none, some 93, [91, 92], .eff fun e => effSlc 1 (e 91) none (some (e 92)) none⟩,
  ⟨none, some 94, [93], .call 45 ([Operand.tmp 93])⟩,
  ⟨none, some 95, [13], .eff fun e => ret (e 13)⟩,
  ⟨none, some 96, [95], .eff fun e => effMks 1 1 ([Value.int (IntKind.i64) 0]) [(0, 1, (e 95))]⟩,
  ⟨none, some 97, [94, 96], .eff fun e => effApp 1 8 (e 94) (e 96)⟩,
  ⟨none, some 14, [97], .eff fun e => ret (e 97)⟩]
noncomputable def p13_r18 : List PI := [
  ⟨none, some 99, [5], .eff fun e => ret (e 5)⟩,
  ⟨none, some 100, [14], .eff fun e => ret (e 14)⟩,
  ⟨none, some 101, [99, 100], .call 27 ([Operand.tmp 99, Operand.tmp 100])⟩,
  ⟨none, some 98, [101], .eff fun e => ret (e 101)⟩,
  ⟨none, some 102, [98], .eff fun e => effExt 0 (e 98)⟩,
  ⟨none, some 103, [98], .eff fun e => effExt 1 (e 98)⟩,
  ⟨none, some 15, [102], .eff fun e => ret (e 102)⟩,
  ⟨none, some 16, [103], .eff fun e => ret (e 103)⟩]
noncomputable def p13_r19 : List PI := [
  ⟨none, some 104, [5], .eff fun e => ret (e 5)⟩,
  ⟨none, some 105, [14], .eff fun e => ret (e 14)⟩,
  ⟨none, some 106, [104, 105], .call 43 ([Operand.tmp 104, Operand.tmp 105])⟩,
  ⟨none, some 107, [106], .eff fun e => effNt (e 106)⟩]
noncomputable def p13_r20 : List PI := [
  ⟨none, some 108, [16], .eff fun e => ret (e 16)⟩,
  ⟨none, some 109, [108], .eff fun e => effIb (BinOp.neq) (e 108) (.v (Value.int (IntKind.i64) 12))⟩,
  ⟨none, some 110, [109], .eff fun e => ret (e 109)⟩,
  ⟨some (110, false), some 111, [15], .eff fun e => ret (e 15)⟩,
  ⟨none, some 112, [110, 111], .eff fun e => effPick (e 110) (.v (Value.bool true)) (e 111)⟩]
noncomputable def p13_r21 : List PI := [
  ⟨none, some 4, [], .eff fun e => ret (.v (Value.bool false))⟩]
noncomputable def p13_r22 : List PI := [
  ⟨none, some 114, [5], .eff fun e => ret (e 5)⟩,
  ⟨none, some 115, [14], .eff fun e => ret (e 14)⟩,
  ⟨none, some 116, [114, 115], .call 25 ([Operand.tmp 114, Operand.tmp 115])⟩,
  ⟨none, some 113, [116], .eff fun e => ret (e 116)⟩,
  ⟨none, some 117, [113], .eff fun e => effExt 0 (e 113)⟩,
  ⟨none, some 118, [113], .eff fun e => effExt 1 (e 113)⟩,
  ⟨none, some 17, [117], .eff fun e => ret (e 117)⟩,
  ⟨none, some 18, [118], .eff fun e => ret (e 118)⟩]
noncomputable def p13_r23 : List PI := [
  ⟨none, some 119, [5], .eff fun e => ret (e 5)⟩,
  ⟨none, some 120, [14], .eff fun e => ret (e 14)⟩,
  ⟨none, some 121, [119, 120], .call 44 ([Operand.tmp 119, Operand.tmp 120])⟩,
  ⟨none, some 19, [], .eff fun e => effAlloc ([Value.int (IntKind.i64) 0, Value.int (IntKind.i64) 0, Value.int (IntKind.i64) 0, Value.int (IntKind.i64) 0])⟩,
  ⟨none, none, [19, 121], .eff fun e => effStore 4 (e 19) (e 121)⟩]
noncomputable def p13_r24 : List PI := [
  ⟨none, some 122, [16], .eff fun e => ret (e 16)⟩,
  ⟨none, some 123, [122], .eff fun e => effIb (BinOp.neq) (e 122) (.v (Value.int (IntKind.i64) 0))⟩,
  ⟨none, some 124, [123], .eff fun e => ret (e 123)⟩,
  ⟨some (124, false), some 125, [18], .eff fun e => ret (e 18)⟩,
  ⟨some (124, false), some 126, [125], .eff fun e => effIb (BinOp.neq) (e 125) (.v (Value.int (IntKind.i64) 0))⟩,
  ⟨none, some 127, [124, 126], .eff fun e => effPick (e 124) (.v (Value.bool true)) (e 126)⟩,
  ⟨none, some 128, [127], .eff fun e => ret (e 127)⟩,
  ⟨some (128, false), some 129, [17], .eff fun e => ret (e 17)⟩,
  ⟨some (128, false), some 130, [5], .eff fun e => ret (e 5)⟩,
  ⟨some (128, false), some 131, [130], .eff fun e => effLenSl (e 130)⟩,
  ⟨some (128, false), some 132, [19, 131], .eff fun e => effSlcA 4 1 (e 19) none (some (e 131)) none⟩,
  ⟨some (128, false), some 133, [129, 132], .call 29 ([Operand.tmp 129, Operand.tmp 132])⟩,
  ⟨some (128, false), some 134, [133], .eff fun e => effNt (e 133)⟩,
  ⟨none, some 135, [128, 134], .eff fun e => effPick (e 128) (.v (Value.bool true)) (e 134)⟩,
  ⟨none, some 136, [135], .eff fun e => ret (e 135)⟩,
  ⟨some (136, false), some 137, [15], .eff fun e => ret (e 15)⟩,
  ⟨some (136, false), some 138, [13], .eff fun e => ret (e 13)⟩,
  ⟨some (136, false), some 139, [12], .eff fun e => ret (e 12)⟩,
  ⟨some (136, false), some 140, [138, 139], .eff fun e => effIb (BinOp.eql) (e 138) (e 139)⟩,
  ⟨some (136, false), some 141, [137, 140], .eff fun e => effBb true (e 137) (e 140)⟩,
  ⟨none, some 142, [136, 141], .eff fun e => effPick (e 136) (.v (Value.bool true)) (e 141)⟩]
noncomputable def p13_r25 : List PI := [
  ⟨none, some 4, [], .eff fun e => ret (.v (Value.bool false))⟩]
noncomputable def p13_r26 : List PI := [
  ⟨none, some 143, [88], .eff fun e => effIb (BinOp.add) (e 88) (.v (Value.int (IntKind.i64) 1))⟩,
  ⟨none, some 88, [143], .eff fun e => ret (e 143)⟩]
noncomputable def p13_l0 : PCode := (.seq (.reg p13_r15 [5, 7, 11, 12, 71, 72, 73, 87, 88, 89]) (.seq (.cond (Operand.tmp 89) .skip (.exit 2)) (.seq (.block 3 (.seq (.reg p13_r16 [5, 7, 11, 12, 13, 71, 72, 73, 87, 88]) (.seq (.reg p13_r17 [5, 7, 11, 12, 13, 14, 71, 72, 73, 87, 88]) (.seq (.reg p13_r18 [5, 7, 11, 12, 13, 14, 15, 16, 71, 72, 73, 87, 88]) (.seq (.seq (.reg p13_r19 [5, 7, 11, 12, 13, 14, 15, 16, 71, 72, 73, 87, 88, 107]) (.cond (Operand.tmp 107) (.seq (.seq (.reg p13_r20 [5, 7, 11, 12, 71, 72, 73, 87, 88, 112]) (.cond (Operand.tmp 112) (.seq (.reg p13_r21 [4]) .ret) .skip)) (.exit 3)) .skip)) (.seq (.reg p13_r22 [5, 7, 11, 12, 13, 14, 15, 16, 17, 18, 71, 72, 73, 87, 88]) (.seq (.reg p13_r23 [5, 7, 11, 12, 13, 15, 16, 17, 18, 19, 71, 72, 73, 87, 88]) (.seq (.reg p13_r24 [5, 7, 11, 12, 71, 72, 73, 87, 88, 142]) (.cond (Operand.tmp 142) (.seq (.reg p13_r25 [4]) .ret) .skip))))))))) (.reg p13_r26 [5, 7, 11, 12, 71, 72, 73, 87, 88]))))
noncomputable def p13_r27 : List PI := [
  ⟨none, some 144, [73], .eff fun e => effIb (BinOp.add) (e 73) (.v (Value.int (IntKind.i64) 1))⟩,
  ⟨none, some 73, [144], .eff fun e => ret (e 144)⟩]
noncomputable def p13_l1 : PCode := (.seq (.reg p13_r10 [5, 7, 71, 72, 73, 74]) (.seq (.cond (Operand.tmp 74) .skip (.exit 0)) (.seq (.block 1 (.seq (.reg p13_r11 [5, 7, 11, 12, 71, 72, 73]) (.seq (.seq (.reg p13_r12 [5, 7, 11, 12, 71, 72, 73, 85]) (.cond (Operand.tmp 85) (.seq (.reg p13_r13 [4]) .ret) .skip)) (.seq (.reg p13_r14 [5, 7, 11, 12, 71, 72, 73, 87, 88]) (.block 2 (.loop p13_l0)))))) (.reg p13_r27 [5, 7, 71, 72, 73]))))
noncomputable def p13_r28 : List PI := [
  ⟨none, some 145, [], .call 16 ([])⟩,
  ⟨none, some 4, [145], .eff fun e => ret (e 145)⟩]
noncomputable def p13 : PCode := (.seq (.reg p13_r0 [1, 2]) (.seq (.reg p13_r1 [1, 5]) (.seq (.reg p13_r2 [5, 6]) (.seq (.reg p13_r3 [5, 6, 7, 8]) (.seq (.seq (.reg p13_r4 [5, 6, 7, 8, 33]) (.cond (Operand.tmp 33) (.seq (.reg p13_r5 [7, 8, 9, 10]) (.seq (.reg p13_r6 [4]) .ret)) .skip)) (.seq (.seq (.reg p13_r7 [5, 7, 70]) (.cond (Operand.tmp 70) (.seq (.reg p13_r8 [4]) .ret) .skip)) (.seq (.seq (.reg p13_r9 [5, 7, 71, 72, 73]) (.block 0 (.loop p13_l1))) (.seq (.reg p13_r28 [4]) .ret))))))))
theorem P13 : PFn Try.prog 13 ⟨p13, [SRes.tmp 4], 146⟩ := ⟨c13, F13, by kernel_rfl⟩
end Go.Sx.Wk
/- The codes of the functions, written by a program (Gen.lean), and that they are the functions'. No conditions. -/
set_option linter.unusedVariables false
set_option maxRecDepth 100000
namespace Go.Sx.Wk
open Go Go.Sx Go.Proofs

noncomputable def p42_r0 : List PI := [
  ⟨none, some 3, [0], .eff fun e => effBox (e 0)⟩,
  ⟨none, some 6, [], .eff fun e => ret (.v (Value.slice none 0 0))⟩]
noncomputable def p42_r1 : List PI := [
  ⟨none, some 7, [], .eff fun e => ret (.v (Value.slice none 0 0))⟩]
noncomputable def p42_r2 : List PI := [
  ⟨none, some 10, [3], .eff fun e => effOff 1 (e 3)⟩,
  ⟨none, some 11, [3], .eff fun e => effOff 0 (e 3)⟩,
  ⟨none, some 12, [11], .eff fun e => effLoad1 (e 11)⟩,
  ⟨none, some 13, [12], .eff fun e => effCi (IntKind.i64) (e 12)⟩,
  ⟨none, some 14, [1], .eff fun e => ret (e 1)⟩,
  ⟨none, some 15, [13, 14], .eff fun e => effIb (BinOp.rem) (e 13) (e 14)⟩,
  ⟨none, some 16, [15], .eff fun e => effIb (BinOp.add) (.v (Value.int (IntKind.i64) 1)) (e 15)⟩,
  ⟨none, some 17, [10, 16], .eff fun e => effSlcA 4 1 (e 10) none (some (e 16)) none⟩,
  ⟨none, some 18, [17], .eff fun e => effLenSl (e 17)⟩,
  ⟨none, some 19, [], .eff fun e => ret (.v (Value.int (IntKind.i64) 0))⟩]
noncomputable def p42_r3 : List PI := [
  ⟨none, some 20, [19, 18], .eff fun e => effIb (BinOp.lss) (e 19) (e 18)⟩]
noncomputable def p42_r4 : List PI := [
  ⟨none, some 21, [17, 19], .eff fun e => effIdx 1 (e 17) (e 19)⟩,
  ⟨none, some 22, [21], .eff fun e => effLoad1 (e 21)⟩,
  ⟨none, some 9, [22], .eff fun e => ret (e 22)⟩]
noncomputable def p42_r5 : List PI := [
  ⟨none, some 23, [7], .eff fun e => ret (e 7)⟩,
  ⟨none, some 24, [9], .eff fun e => ret (e 9)⟩,
  ⟨none, some 25, [24], .eff fun e => effCi (IntKind.i64) (e 24)⟩,
  ⟨none, some 26, [2], .eff fun e => ret (e 2)⟩,
  ⟨none, some 27, [25, 26], .eff fun e => effIb (BinOp.rem) (e 25) (e 26)⟩,
  ⟨none, some 28, [27], .eff fun e => effIb (BinOp.add) (.v (Value.int (IntKind.i64) 1)) (e 27)⟩,
  ⟨none, some 29, [28], .eff fun e => effMks 1 1 ([Value.int (IntKind.i64) 0]) [(0, 1, (e 28))]⟩,
  ⟨none, some 30, [23, 29], .eff fun e => effApp 1 8 (e 23) (e 29)⟩,
  ⟨none, some 7, [30], .eff fun e => ret (e 30)⟩]
noncomputable def p42_r6 : List PI := [
  ⟨none, some 31, [19], .eff fun e => effIb (BinOp.add) (e 19) (.v (Value.int (IntKind.i64) 1))⟩,
  ⟨none, some 19, [31], .eff fun e => ret (e 31)⟩]
noncomputable def p42_l0 : PCode := (.seq (.reg p42_r3 [2, 7, 17, 18, 19, 20]) (.seq (.cond (Operand.tmp 20) .skip (.exit 0)) (.seq (.block 1 (.seq (.reg p42_r4 [2, 7, 9, 17, 18, 19]) (.reg p42_r5 [2, 7, 17, 18, 19]))) (.reg p42_r6 [2, 7, 17, 18, 19]))))
noncomputable def p42_r7 : List PI := [
  ⟨none, some 32, [7], .eff fun e => ret (e 7)⟩,
  ⟨none, some 6, [32], .eff fun e => ret (e 32)⟩]
noncomputable def p42 : PCode := (.seq (.reg p42_r0 [1, 2, 3]) (.seq (.reg p42_r1 [1, 2, 3, 7]) (.seq (.seq (.reg p42_r2 [2, 7, 17, 18, 19]) (.block 0 (.loop p42_l0))) (.seq (.reg p42_r7 [6]) .ret))))
theorem P42 : PFn Try.prog 42 ⟨p42, [SRes.tmp 6], 33⟩ := ⟨c42, F42, by kernel_rfl⟩
end Go.Sx.Wk
/- The codes of the functions, written by a program (Gen.lean), and that they are the functions'. No conditions. -/
set_option linter.unusedVariables false
set_option maxRecDepth 100000
namespace Go.Sx.Wk
open Go Go.Sx Go.Proofs

noncomputable def p43_r0 : List PI := [
  ⟨none, some 4, [], .eff fun e => ret (.v (Value.bool false))⟩]
noncomputable def p43_r1 : List PI := [
  ⟨none, some 8, [0], .eff fun e => ret (e 0)⟩,
  ⟨none, some 9, [8], .eff fun e => effLenSl (e 8)⟩,
  ⟨none, some 10, [], .eff fun e => ret (.v (Value.int (IntKind.i64) 0))⟩]
noncomputable def p43_r2 : List PI := [
  ⟨none, some 11, [10, 9], .eff fun e => effIb (BinOp.lss) (e 10) (e 9)⟩]
noncomputable def p43_r3 : List PI := [
  ⟨none, some 12, [10], .eff fun e => ret (e 10)⟩,
  ⟨none, some 13, [8, 10], .eff fun e => effIdx 1 (e 8) (e 10)⟩,
  ⟨none, some 14, [13], .eff fun e => effLoad1 (e 13)⟩,
  ⟨none, some 5, [12], .eff fun e => ret (e 12)⟩,
  ⟨none, some 6, [14], .eff fun e => ret (e 14)⟩]
noncomputable def p43_r4 : List PI := [
  ⟨none, some 7, [], .eff fun e => ret (.v (Value.int (IntKind.i64) 0))⟩]
noncomputable def p43_r5 : List PI := [
  ⟨none, some 15, [7], .eff fun e => ret (e 7)⟩,
  ⟨none, some 16, [6], .eff fun e => ret (e 6)⟩,
  ⟨none, some 17, [15, 16], .eff fun e => effIb (BinOp.add) (e 15) (e 16)⟩,
  ⟨none, some 18, [1], .eff fun e => ret (e 1)⟩,
  ⟨none, some 19, [18], .eff fun e => effLenSl (e 18)⟩,
  ⟨none, some 20, [17, 19], .eff fun e => effIb (BinOp.leq) (e 17) (e 19)⟩]
noncomputable def p43_r6 : List PI := [
  ⟨none, some 23, [1], .eff fun e => ret (e 1)⟩,
  ⟨none, some 24, [7], .eff fun e => ret (e 7)⟩,
  ⟨none, some 25, [7], .eff fun e => ret (e 7)⟩,
  ⟨none, some 26, [6], .eff fun e => ret (e 6)⟩,
  ⟨none, some 27, [25, 26], .eff fun e => effIb (BinOp.add) (e 25) (e 26)⟩,
  ⟨none, some 28, [23, 24, 27], .eff fun e => effSlc 1 (e 23) (some (e 24)) (some (e 27)) none⟩,
  ⟨none, some 29, [5], .eff fun e => ret (e 5)⟩,
  ⟨none, some 30, [28, 29], .call 72 ([Operand.tmp 28, Operand.tmp 29])⟩,
  ⟨none, some 31, [30], .eff fun e => effNt (e 30)⟩]
noncomputable def p43_r7 : List PI := [
  ⟨none, some 4, [], .eff fun e => ret (.v (Value.bool false))⟩]
noncomputable def p43_r8 : List PI := [
  ⟨none, some 21, [7], .eff fun e => ret (e 7)⟩,
  ⟨none, some 22, [21], .eff fun e => effIb (BinOp.add) (e 21) (.v (Value.int (IntKind.i64) 1))⟩,
  ⟨none, some 7, [22], .eff fun e => ret (e 22)⟩]
noncomputable def p43_l0 : PCode := (.seq (.seq (.reg p43_r5 [1, 5, 6, 7, 8, 9, 10, 20]) (.cond (Operand.tmp 20) .skip (.exit 2))) (.seq (.block 3 (.seq (.reg p43_r6 [1, 5, 6, 7, 8, 9, 10, 31]) (.cond (Operand.tmp 31) (.seq (.reg p43_r7 [4]) .ret) .skip))) (.reg p43_r8 [1, 5, 6, 7, 8, 9, 10])))
noncomputable def p43_r9 : List PI := [
  ⟨none, some 32, [10], .eff fun e => effIb (BinOp.add) (e 10) (.v (Value.int (IntKind.i64) 1))⟩,
  ⟨none, some 10, [32], .eff fun e => ret (e 32)⟩]
noncomputable def p43_l1 : PCode := (.seq (.reg p43_r2 [1, 8, 9, 10, 11]) (.seq (.cond (Operand.tmp 11) .skip (.exit 0)) (.seq (.block 1 (.seq (.reg p43_r3 [1, 5, 6, 8, 9, 10]) (.seq (.reg p43_r4 [1, 5, 6, 7, 8, 9, 10]) (.block 2 (.loop p43_l0))))) (.reg p43_r9 [1, 8, 9, 10]))))
noncomputable def p43_r10 : List PI := [
  ⟨none, some 4, [], .eff fun e => ret (.v (Value.bool true))⟩]
noncomputable def p43 : PCode := (.seq (.reg p43_r0 [0, 1]) (.seq (.seq (.reg p43_r1 [1, 8, 9, 10]) (.block 0 (.loop p43_l1))) (.seq (.reg p43_r10 [4]) .ret)))
theorem P43 : PFn Try.prog 43 ⟨p43, [SRes.tmp 4], 33⟩ := ⟨c43, F43, by kernel_rfl⟩
end Go.Sx.Wk
/- The codes of the functions, written by a program (Gen.lean), and that they are the functions'. No conditions. -/
set_option linter.unusedVariables false
set_option maxRecDepth 100000
namespace Go.Sx.Wk
open Go Go.Sx Go.Proofs

noncomputable def p44_r0 : List PI := [
  ⟨none, some 4, [], .eff fun e => effAlloc ([Value.int (IntKind.i64) 0, Value.int (IntKind.i64) 0, Value.int (IntKind.i64) 0, Value.int (IntKind.i64) 0])⟩]
noncomputable def p44_r1 : List PI := [
  ⟨none, some 5, [], .eff fun e => effAlloc ([Value.int (IntKind.i64) 0, Value.int (IntKind.i64) 0, Value.int (IntKind.i64) 0, Value.int (IntKind.i64) 0])⟩]
noncomputable def p44_r2 : List PI := [
  ⟨none, some 11, [0], .eff fun e => ret (e 0)⟩,
  ⟨none, some 12, [11], .eff fun e => effLenSl (e 11)⟩,
  ⟨none, some 13, [], .eff fun e => ret (.v (Value.int (IntKind.i64) 0))⟩]
noncomputable def p44_r3 : List PI := [
  ⟨none, some 14, [13, 12], .eff fun e => effIb (BinOp.lss) (e 13) (e 12)⟩]
noncomputable def p44_r4 : List PI := [
  ⟨none, some 15, [13], .eff fun e => ret (e 13)⟩,
  ⟨none, some 16, [11, 13], .eff fun e => effIdx 1 (e 11) (e 13)⟩,
  ⟨none, some 17, [16], .eff fun e => effLoad1 (e 16)⟩,
  ⟨none, some 6, [15], .eff fun e => ret (e 15)⟩,
  ⟨none, some 7, [17], .eff fun e => ret (e 17)⟩]
noncomputable def p44_r5 : List PI := [
  ⟨none, some 18, [1], .eff fun e => ret (e 1)⟩,
  ⟨none, some 19, [18], .eff fun e => effLenSl (e 18)⟩,
  ⟨none, some 8, [19], .eff fun e => ret (e 19)⟩]
noncomputable def p44_r6 : List PI := [
  ⟨none, some 20, [1], .eff fun e => ret (e 1)⟩,
  ⟨none, some 21, [20], .eff fun e => effLenSl (e 20)⟩,
  ⟨none, some 22, [], .eff fun e => ret (.v (Value.int (IntKind.i64) 0))⟩]
noncomputable def p44_r7 : List PI := [
  ⟨none, some 23, [22, 21], .eff fun e => effIb (BinOp.lss) (e 22) (e 21)⟩]
noncomputable def p44_r8 : List PI := [
  ⟨none, some 24, [22], .eff fun e => ret (e 22)⟩,
  ⟨none, some 25, [20, 22], .eff fun e => effIdx 1 (e 20) (e 22)⟩,
  ⟨none, some 26, [25], .eff fun e => effLoad1 (e 25)⟩,
  ⟨none, some 9, [24], .eff fun e => ret (e 24)⟩,
  ⟨none, some 10, [26], .eff fun e => ret (e 26)⟩]
noncomputable def p44_r9 : List PI := [
  ⟨none, some 27, [10], .eff fun e => ret (e 10)⟩,
  ⟨none, some 28, [6], .eff fun e => ret (e 6)⟩,
  ⟨none, some 29, [27, 28], .eff fun e => effIb (BinOp.eql) (e 27) (e 28)⟩]
noncomputable def p44_r10 : List PI := [
  ⟨none, some 30, [1], .eff fun e => ret (e 1)⟩,
  ⟨none, some 31, [30], .eff fun e => effLenSl (e 30)⟩,
  ⟨none, some 32, [31], .eff fun e => effIb (BinOp.sub) (e 31) (.v (Value.int (IntKind.i64) 1))⟩,
  ⟨none, some 33, [9], .eff fun e => ret (e 9)⟩,
  ⟨none, some 34, [32, 33], .eff fun e => effIb (BinOp.sub) (e 32) (e 33)⟩,
  ⟨none, some 8, [34], .eff fun e => ret (e 34)⟩]
noncomputable def p44_r11 : List PI := [
  ⟨none, some 35, [22], .eff fun e => effIb (BinOp.add) (e 22) (.v (Value.int (IntKind.i64) 1))⟩,
  ⟨none, some 22, [35], .eff fun e => ret (e 35)⟩]
noncomputable def p44_l0 : PCode := (.seq (.reg p44_r7 [1, 4, 5, 6, 7, 8, 11, 12, 13, 20, 21, 22, 23]) (.seq (.cond (Operand.tmp 23) .skip (.exit 2)) (.seq (.block 3 (.seq (.reg p44_r8 [1, 4, 5, 6, 7, 8, 9, 10, 11, 12, 13, 20, 21, 22]) (.seq (.reg p44_r9 [1, 4, 5, 6, 7, 8, 9, 11, 12, 13, 20, 21, 22, 29]) (.cond (Operand.tmp 29) (.reg p44_r10 [1, 4, 5, 6, 7, 8, 11, 12, 13, 20, 21, 22]) .skip)))) (.reg p44_r11 [1, 4, 5, 6, 7, 8, 11, 12, 13, 20, 21, 22]))))
noncomputable def p44_r12 : List PI := [
  ⟨none, some 36, [6], .eff fun e => ret (e 6)⟩,
  ⟨none, some 37, [7], .eff fun e => ret (e 7)⟩,
  ⟨none, some 38, [8], .eff fun e => ret (e 8)⟩,
  ⟨none, some 39, [37, 38], .eff fun e => effIb (BinOp.sub) (e 37) (e 38)⟩,
  ⟨none, some 40, [5, 36], .eff fun e => effIdxA 4 1 (e 5) (e 36)⟩,
  ⟨none, none, [40, 39], .eff fun e => effStore 1 (e 40) (e 39)⟩]
noncomputable def p44_r13 : List PI := [
  ⟨none, some 41, [13], .eff fun e => effIb (BinOp.add) (e 13) (.v (Value.int (IntKind.i64) 1))⟩,
  ⟨none, some 13, [41], .eff fun e => ret (e 41)⟩]
noncomputable def p44_l1 : PCode := (.seq (.reg p44_r3 [1, 4, 5, 11, 12, 13, 14]) (.seq (.cond (Operand.tmp 14) .skip (.exit 0)) (.seq (.block 1 (.seq (.reg p44_r4 [1, 4, 5, 6, 7, 11, 12, 13]) (.seq (.reg p44_r5 [1, 4, 5, 6, 7, 8, 11, 12, 13]) (.seq (.seq (.reg p44_r6 [1, 4, 5, 6, 7, 8, 11, 12, 13, 20, 21, 22]) (.block 2 (.loop p44_l0))) (.reg p44_r12 [1, 4, 5, 11, 12, 13]))))) (.reg p44_r13 [1, 4, 5, 11, 12, 13]))))
noncomputable def p44_r14 : List PI := [
  ⟨none, some 42, [5], .eff fun e => effLoadN 4 (e 5)⟩,
  ⟨none, none, [4, 42], .eff fun e => effStore 4 (e 4) (e 42)⟩]
noncomputable def p44 : PCode := (.seq (.reg p44_r0 [0, 1, 4]) (.seq (.reg p44_r1 [0, 1, 4, 5]) (.seq (.seq (.reg p44_r2 [1, 4, 5, 11, 12, 13]) (.block 0 (.loop p44_l1))) (.seq (.reg p44_r14 [4]) .ret))))
theorem P44 : PFn Try.prog 44 ⟨p44, [SRes.cell 4 (some 4)], 43⟩ := ⟨c44, F44, by kernel_rfl⟩
end Go.Sx.Wk
/- The codes of the functions, written by a program (Gen.lean), and that they are the functions'. No conditions. -/
set_option linter.unusedVariables false
set_option maxRecDepth 100000
namespace Go.Sx.Wk
open Go Go.Sx Go.Proofs

noncomputable def p45_r0 : List PI := [
  ⟨none, some 2, [], .eff fun e => ret (.v (Value.slice none 0 0))⟩]
noncomputable def p45_r1 : List PI := [
  ⟨none, some 3, [0], .eff fun e => ret (e 0)⟩,
  ⟨none, some 4, [3], .eff fun e => effEqn false (TypeDesc.slice 3) (e 3)⟩]
noncomputable def p45_r2 : List PI := [
  ⟨none, some 2, [], .eff fun e => ret (.v (Value.slice none 0 0))⟩]
noncomputable def p45_r3 : List PI := [
  ⟨none, some 5, [], .eff fun e => effMks0 1⟩,
  ⟨none, some 6, [0], .eff fun e => ret (e 0)⟩,
  ⟨none, some 7, [5, 6], .eff fun e => effApp 1 8 (e 5) (e 6)⟩,
  ⟨none, some 2, [7], .eff fun e => ret (e 7)⟩]
noncomputable def p45 : PCode := (.seq (.reg p45_r0 [0]) (.seq (.seq (.reg p45_r1 [0, 4]) (.cond (Operand.tmp 4) (.seq (.reg p45_r2 [2]) .ret) .skip)) (.seq (.reg p45_r3 [2]) .ret)))
theorem P45 : PFn Try.prog 45 ⟨p45, [SRes.tmp 2], 8⟩ := ⟨c45, F45, by kernel_rfl⟩
end Go.Sx.Wk
/- The codes of the functions, written by a program (Gen.lean), and that they are the functions'. No conditions. -/
set_option linter.unusedVariables false
set_option maxRecDepth 100000
namespace Go.Sx.Wk
open Go Go.Sx Go.Proofs

noncomputable def p46_r0 : List PI := [
  ⟨none, some 2, [], .eff fun e => ret (.v (Value.int (IntKind.i64) 0))⟩]
noncomputable def p46_r1 : List PI := [
  ⟨none, some 3, [], .eff fun e => effAlloc ([Value.int (IntKind.i64) 0, Value.int (IntKind.i64) 0, Value.int (IntKind.i64) 0, Value.int (IntKind.i64) 0])⟩]
noncomputable def p46_r2 : List PI := [
  ⟨none, some 20, [3], .eff fun e => effSlcA 4 1 (e 3) none none none⟩,
  ⟨none, some 21, [0], .eff fun e => ret (e 0)⟩,
  ⟨none, some 22, [20, 21], .eff fun e => effCopy 1 (e 20) (e 21)⟩]
noncomputable def p46_r3 : List PI := [
  ⟨none, some 23, [3], .eff fun e => effLoadN 4 (e 3)⟩,
  ⟨none, some 24, [23], .eff fun e => effMks 1 4 ([Value.int (IntKind.i64) 0, Value.int (IntKind.i64) 0, Value.int (IntKind.i64) 0, Value.int (IntKind.i64) 0]) [(0, 4, (e 23))]⟩,
  ⟨none, some 4, [24], .eff fun e => ret (e 24)⟩]
noncomputable def p46_r4 : List PI := [
  ⟨none, some 25, [], .eff fun e => effMkmap⟩,
  ⟨none, some 26, [3], .eff fun e => effLoadN 4 (e 3)⟩,
  ⟨none, none, [25, 26], .eff fun e => effMset (KTy.ar 4 (IntKind.i64)) (e 25) (e 26) (.v (Value.int (IntKind.i64) 0))⟩,
  ⟨none, some 27, [25], .eff fun e => ret (e 25)⟩,
  ⟨none, some 5, [27], .eff fun e => ret (e 27)⟩]
noncomputable def p46_r5 : List PI := [
  ⟨none, some 6, [], .eff fun e => ret (.v (Value.slice none 0 0))⟩]
noncomputable def p46_r6 : List PI := [
  ⟨none, some 7, [], .eff fun e => ret (.v (Value.int (IntKind.i64) 0))⟩]
noncomputable def p46_r7 : List PI := [
  ⟨none, some 28, [7], .eff fun e => ret (e 7)⟩,
  ⟨none, some 29, [4], .eff fun e => ret (e 4)⟩,
  ⟨none, some 30, [29], .eff fun e => effLenSl (e 29)⟩,
  ⟨none, some 31, [28, 30], .eff fun e => effIb (BinOp.lss) (e 28) (e 30)⟩]
noncomputable def p46_r8 : List PI := [
  ⟨none, some 8, [], .eff fun e => ret (.v (Value.slice none 0 0))⟩]
noncomputable def p46_r9 : List PI := [
  ⟨none, some 34, [0], .eff fun e => ret (e 0)⟩,
  ⟨none, some 35, [34], .eff fun e => effLenSl (e 34)⟩,
  ⟨none, some 36, [], .eff fun e => ret (.v (Value.int (IntKind.i64) 0))⟩]
noncomputable def p46_r10 : List PI := [
  ⟨none, some 37, [36, 35], .eff fun e => effIb (BinOp.lss) (e 36) (e 35)⟩]
noncomputable def p46_r11 : List PI := [
  ⟨none, some 38, [36], .eff fun e => ret (e 36)⟩,
  ⟨none, some 9, [38], .eff fun e => ret (e 38)⟩]
noncomputable def p46_r12 : List PI := [
  ⟨none, some 39, [4], .eff fun e => ret (e 4)⟩,
  ⟨none, some 40, [7], .eff fun e => ret (e 7)⟩,
  ⟨none, some 41, [39, 40], .eff fun e => effIdx 4 (e 39) (e 40)⟩,
  ⟨none, some 42, [41], .eff fun e => effLoadN 4 (e 41)⟩,
  ⟨none, some 10, [], .eff fun e => effAlloc ([Value.int (IntKind.i64) 0, Value.int (IntKind.i64) 0, Value.int (IntKind.i64) 0, Value.int (IntKind.i64) 0])⟩,
  ⟨none, none, [10, 42], .eff fun e => effStore 4 (e 10) (e 42)⟩]
noncomputable def p46_r13 : List PI := [
  ⟨none, some 11, [], .eff fun e => ret (.v (Value.bool true))⟩]
noncomputable def p46_r14 : List PI := [
  ⟨none, some 43, [0], .eff fun e => ret (e 0)⟩,
  ⟨none, some 44, [43], .eff fun e => effLenSl (e 43)⟩,
  ⟨none, some 45, [], .eff fun e => ret (.v (Value.int (IntKind.i64) 0))⟩]
noncomputable def p46_r15 : List PI := [
  ⟨none, some 46, [45, 44], .eff fun e => effIb (BinOp.lss) (e 45) (e 44)⟩]
noncomputable def p46_r16 : List PI := [
  ⟨none, some 47, [45], .eff fun e => ret (e 45)⟩,
  ⟨none, some 12, [47], .eff fun e => ret (e 47)⟩]
noncomputable def p46_r17 : List PI := [
  ⟨none, some 48, [12], .eff fun e => ret (e 12)⟩,
  ⟨none, some 49, [10, 48], .eff fun e => effIdxA 4 1 (e 10) (e 48)⟩,
  ⟨none, some 50, [49], .eff fun e => effLoad1 (e 49)⟩,
  ⟨none, some 51, [50], .eff fun e => effIb (BinOp.sub) (e 50) (.v (Value.int (IntKind.i64) 1))⟩,
  ⟨none, some 52, [10, 48], .eff fun e => effIdxA 4 1 (e 10) (e 48)⟩,
  ⟨none, none, [52, 51], .eff fun e => effStore 1 (e 52) (e 51)⟩]
noncomputable def p46_r18 : List PI := [
  ⟨none, some 53, [12], .eff fun e => ret (e 12)⟩,
  ⟨none, some 54, [9], .eff fun e => ret (e 9)⟩,
  ⟨none, some 55, [53, 54], .eff fun e => effIb (BinOp.neq) (e 53) (e 54)⟩,
  ⟨none, some 56, [55], .eff fun e => ret (e 55)⟩,
  ⟨some (56, true), some 57, [12], .eff fun e => ret (e 12)⟩,
  ⟨some (56, true), some 58, [10, 57], .eff fun e => effIdxA 4 1 (e 10) (e 57)⟩,
  ⟨some (56, true), some 59, [58], .eff fun e => effLoad1 (e 58)⟩,
  ⟨some (56, true), some 60, [59], .eff fun e => effIb (BinOp.eql) (e 59) (.v (Value.int (IntKind.i64) 0))⟩,
  ⟨none, some 61, [56, 60], .eff fun e => effPick (e 56) (e 60) (.v (Value.bool false))⟩]
noncomputable def p46_r19 : List PI := [
  ⟨none, some 11, [], .eff fun e => ret (.v (Value.bool false))⟩]
noncomputable def p46_r20 : List PI := [
  ⟨none, some 62, [45], .eff fun e => effIb (BinOp.add) (e 45) (.v (Value.int (IntKind.i64) 1))⟩,
  ⟨none, some 45, [62], .eff fun e => ret (e 62)⟩]
noncomputable def p46_l0 : PCode := (.seq (.reg p46_r15 [0, 4, 5, 6, 7, 8, 9, 10, 11, 35, 36, 44, 45, 46]) (.seq (.cond (Operand.tmp 46) .skip (.exit 4)) (.seq (.block 5 (.seq (.reg p46_r16 [0, 4, 5, 6, 7, 8, 9, 10, 11, 12, 35, 36, 44, 45]) (.seq (.reg p46_r17 [0, 4, 5, 6, 7, 8, 9, 10, 11, 12, 35, 36, 44, 45]) (.seq (.reg p46_r18 [0, 4, 5, 6, 7, 8, 9, 10, 11, 35, 36, 44, 45, 61]) (.cond (Operand.tmp 61) (.reg p46_r19 [0, 4, 5, 6, 7, 8, 9, 10, 11, 35, 36, 44, 45]) .skip))))) (.reg p46_r20 [0, 4, 5, 6, 7, 8, 9, 10, 11, 35, 36, 44, 45]))))
noncomputable def p46_r21 : List PI := [
  ⟨none, some 63, [9], .eff fun e => ret (e 9)⟩,
  ⟨none, some 64, [0], .eff fun e => ret (e 0)⟩,
  ⟨none, some 65, [9], .eff fun e => ret (e 9)⟩,
  ⟨none, some 66, [64, 65], .eff fun e => effIdx 1 (e 64) (e 65)⟩,
  ⟨none, some 67, [66], .eff fun e => effLoad1 (e 66)⟩,
  ⟨none, some 68, [10, 63], .eff fun e => effIdxA 4 1 (e 10) (e 63)⟩,
  ⟨none, none, [68, 67], .eff fun e => effStore 1 (e 68) (e 67)⟩]
noncomputable def p46_r22 : List PI := [
  ⟨none, some 69, [11], .eff fun e => ret (e 11)⟩,
  ⟨none, some 70, [69], .eff fun e => effNt (e 69)⟩]
noncomputable def p46_r23 : List PI := [
  ⟨none, some 72, [5], .eff fun e => ret (e 5)⟩,
  ⟨none, some 73, [10], .eff fun e => effLoadN 4 (e 10)⟩,
  ⟨none, some 74, [72, 73], .eff fun e => effLook (KTy.ar 4 (IntKind.i64)) (Value.int (IntKind.i64) 0) true (e 72) (e 73)⟩,
  ⟨none, some 71, [74], .eff fun e => ret (e 74)⟩,
  ⟨none, some 75, [71], .eff fun e => effExt 0 (e 71)⟩,
  ⟨none, some 76, [71], .eff fun e => effExt 1 (e 71)⟩,
  ⟨none, some 13, [75], .eff fun e => ret (e 75)⟩,
  ⟨none, some 14, [76], .eff fun e => ret (e 76)⟩]
noncomputable def p46_r24 : List PI := [
  ⟨none, some 77, [14], .eff fun e => ret (e 14)⟩,
  ⟨none, some 78, [77], .eff fun e => effNt (e 77)⟩]
noncomputable def p46_r25 : List PI := [
  ⟨none, some 79, [5], .eff fun e => ret (e 5)⟩,
  ⟨none, some 80, [10], .eff fun e => effLoadN 4 (e 10)⟩,
  ⟨none, some 81, [4], .eff fun e => ret (e 4)⟩,
  ⟨none, some 82, [81], .eff fun e => effLenSl (e 81)⟩,
  ⟨none, none, [79, 80, 82], .eff fun e => effMset (KTy.ar 4 (IntKind.i64)) (e 79) (e 80) (e 82)⟩]
noncomputable def p46_r26 : List PI := [
  ⟨none, some 83, [4], .eff fun e => ret (e 4)⟩,
  ⟨none, some 84, [10], .eff fun e => effLoadN 4 (e 10)⟩,
  ⟨none, some 85, [84], .eff fun e => effMks 1 4 ([Value.int (IntKind.i64) 0, Value.int (IntKind.i64) 0, Value.int (IntKind.i64) 0, Value.int (IntKind.i64) 0]) [(0, 4, (e 84))]⟩,
  ⟨none, some 86, [83, 85], .eff fun e => effApp 4 32 (e 83) (e 85)⟩,
  ⟨none, some 4, [86], .eff fun e => ret (e 86)⟩]
noncomputable def p46_r27 : List PI := [
  ⟨none, some 87, [8], .eff fun e => ret (e 8)⟩,
  ⟨none, some 88, [5], .eff fun e => ret (e 5)⟩,
  ⟨none, some 89, [10], .eff fun e => effLoadN 4 (e 10)⟩,
  ⟨none, some 90, [88, 89], .eff fun e => effLook (KTy.ar 4 (IntKind.i64)) (Value.int (IntKind.i64) 0) false (e 88) (e 89)⟩,
  ⟨none, some 91, [90], .eff fun e => effMks 1 1 ([Value.int (IntKind.i64) 0]) [(0, 1, (e 90))]⟩,
  ⟨none, some 92, [87, 91], .eff fun e => effApp 1 8 (e 87) (e 91)⟩,
  ⟨none, some 8, [92], .eff fun e => ret (e 92)⟩]
noncomputable def p46_r28 : List PI := [
  ⟨none, some 93, [36], .eff fun e => effIb (BinOp.add) (e 36) (.v (Value.int (IntKind.i64) 1))⟩,
  ⟨none, some 36, [93], .eff fun e => ret (e 93)⟩]
noncomputable def p46_l1 : PCode := (.seq (.reg p46_r10 [0, 4, 5, 6, 7, 8, 35, 36, 37]) (.seq (.cond (Operand.tmp 37) .skip (.exit 2)) (.seq (.block 3 (.seq (.reg p46_r11 [0, 4, 5, 6, 7, 8, 9, 35, 36]) (.seq (.reg p46_r12 [0, 4, 5, 6, 7, 8, 9, 10, 35, 36]) (.seq (.reg p46_r13 [0, 4, 5, 6, 7, 8, 9, 10, 11, 35, 36]) (.seq (.seq (.reg p46_r14 [0, 4, 5, 6, 7, 8, 9, 10, 11, 35, 36, 44, 45]) (.block 4 (.loop p46_l0))) (.seq (.seq (.reg p46_r21 [0, 4, 5, 6, 7, 8, 10, 11, 35, 36]) (.seq (.reg p46_r22 [0, 4, 5, 6, 7, 8, 10, 35, 36, 70]) (.cond (Operand.tmp 70) (.exit 3) .skip))) (.seq (.seq (.reg p46_r23 [0, 4, 5, 6, 7, 8, 10, 14, 35, 36]) (.seq (.reg p46_r24 [0, 4, 5, 6, 7, 8, 10, 35, 36, 78]) (.cond (Operand.tmp 78) (.seq (.reg p46_r25 [0, 4, 5, 6, 7, 8, 10, 35, 36]) (.reg p46_r26 [0, 4, 5, 6, 7, 8, 10, 35, 36])) .skip))) (.reg p46_r27 [0, 4, 5, 6, 7, 8, 35, 36])))))))) (.reg p46_r28 [0, 4, 5, 6, 7, 8, 35, 36]))))
noncomputable def p46_r29 : List PI := [
  ⟨none, some 94, [6], .eff fun e => ret (e 6)⟩,
  ⟨none, some 95, [8], .eff fun e => ret (e 8)⟩,
  ⟨none, some 96, [95], .eff fun e => effMks 1 1 ([Value.slice none 0 0]) [(0, 1, (e 95))]⟩,
  ⟨none, some 97, [94, 96], .eff fun e => effApp 1 24 (e 94) (e 96)⟩,
  ⟨none, some 6, [97], .eff fun e => ret (e 97)⟩]
noncomputable def p46_r30 : List PI := [
  ⟨none, some 32, [7], .eff fun e => ret (e 7)⟩,
  ⟨none, some 33, [32], .eff fun e => effIb (BinOp.add) (e 32) (.v (Value.int (IntKind.i64) 1))⟩,
  ⟨none, some 7, [33], .eff fun e => ret (e 33)⟩]
noncomputable def p46_l2 : PCode := (.seq (.seq (.reg p46_r7 [0, 4, 5, 6, 7, 31]) (.cond (Operand.tmp 31) .skip (.exit 0))) (.seq (.block 1 (.seq (.reg p46_r8 [0, 4, 5, 6, 7, 8]) (.seq (.seq (.reg p46_r9 [0, 4, 5, 6, 7, 8, 35, 36]) (.block 2 (.loop p46_l1))) (.reg p46_r29 [0, 4, 5, 6, 7])))) (.reg p46_r30 [0, 4, 5, 6, 7])))
noncomputable def p46_r31 : List PI := [
  ⟨none, some 98, [4], .eff fun e => ret (e 4)⟩,
  ⟨none, some 99, [98], .eff fun e => effLenSl (e 98)⟩,
  ⟨none, some 100, [99, 99], .eff fun e => effMk 1 (Value.bool false) (e 99) (e 99)⟩,
  ⟨none, some 15, [], .eff fun e => effAlloc ([Value.slice none 0 0])⟩,
  ⟨none, none, [15, 100], .eff fun e => effStore 1 (e 15) (e 100)⟩]
noncomputable def p46_r32 : List PI := [
  ⟨none, some 16, [], .eff fun e => ret (.v (Value.int (IntKind.i64) 0))⟩]
noncomputable def p46_r33 : List PI := [
  ⟨none, some 103, [15], .eff fun e => effLoad1 (e 15)⟩,
  ⟨none, some 104, [103], .call 73 ([Operand.tmp 103])⟩,
  ⟨none, some 17, [104], .eff fun e => ret (e 104)⟩]
noncomputable def p46_r34 : List PI := [
  ⟨none, some 105, [6], .eff fun e => ret (e 6)⟩,
  ⟨none, some 106, [105], .eff fun e => effLenSl (e 105)⟩,
  ⟨none, some 107, [], .eff fun e => ret (.v (Value.int (IntKind.i64) 0))⟩]
noncomputable def p46_r35 : List PI := [
  ⟨none, some 108, [107, 106], .eff fun e => effIb (BinOp.lss) (e 107) (e 106)⟩]
noncomputable def p46_r36 : List PI := [
  ⟨none, some 109, [107], .eff fun e => ret (e 107)⟩,
  ⟨none, some 110, [105, 107], .eff fun e => effIdx 1 (e 105) (e 107)⟩,
  ⟨none, some 111, [110], .eff fun e => effLoad1 (e 110)⟩,
  ⟨none, some 18, [109], .eff fun e => ret (e 109)⟩,
  ⟨none, some 19, [111], .eff fun e => ret (e 111)⟩]
noncomputable def p46_r37 : List PI := [
  ⟨none, some 112, [17], .eff fun e => ret (e 17)⟩,
  ⟨none, some 113, [18], .eff fun e => ret (e 18)⟩,
  ⟨none, some 114, [19], .eff fun e => ret (e 19)⟩,
  ⟨none, some 115, [15], .eff fun e => effMkfn (Fn.func 74) [] [(e 15)]⟩,
  ⟨none, some 116, [114, 115], .call 58 ([Operand.tmp 114, Operand.tmp 115])⟩,
  ⟨none, some 117, [116], .eff fun e => effNt (e 116)⟩,
  ⟨none, some 118, [112, 113], .eff fun e => effIdx 1 (e 112) (e 113)⟩,
  ⟨none, none, [118, 117], .eff fun e => effStore 1 (e 118) (e 117)⟩]
noncomputable def p46_r38 : List PI := [
  ⟨none, some 119, [107], .eff fun e => effIb (BinOp.add) (e 107) (.v (Value.int (IntKind.i64) 1))⟩,
  ⟨none, some 107, [119], .eff fun e => ret (e 119)⟩]
noncomputable def p46_l3 : PCode := (.seq (.reg p46_r35 [6, 15, 16, 17, 105, 106, 107, 108]) (.seq (.cond (Operand.tmp 108) .skip (.exit 8)) (.seq (.block 9 (.seq (.reg p46_r36 [6, 15, 16, 17, 18, 19, 105, 106, 107]) (.reg p46_r37 [6, 15, 16, 17, 105, 106, 107]))) (.reg p46_r38 [6, 15, 16, 17, 105, 106, 107]))))
noncomputable def p46_r39 : List PI := [
  ⟨none, some 121, [17], .eff fun e => ret (e 17)⟩,
  ⟨none, some 122, [121], .eff fun e => effIdx 1 (e 121) (.v (Value.int (IntKind.i64) 0))⟩,
  ⟨none, some 123, [122], .eff fun e => effLoad1 (e 122)⟩,
  ⟨none, some 120, [123], .eff fun e => ret (e 123)⟩]
noncomputable def p46_r40 : List PI := [
  ⟨none, some 124, [16], .eff fun e => ret (e 16)⟩,
  ⟨none, some 2, [124], .eff fun e => ret (e 124)⟩]
noncomputable def p46_r41 : List PI := [
  ⟨none, some 126, [17], .eff fun e => ret (e 17)⟩,
  ⟨none, some 127, [15], .eff fun e => effLoad1 (e 15)⟩,
  ⟨none, some 128, [126, 127], .call 75 ([Operand.tmp 126, Operand.tmp 127])⟩,
  ⟨none, some 125, [128], .eff fun e => ret (e 128)⟩]
noncomputable def p46_r42 : List PI := [
  ⟨none, some 2, [], .eff fun e => ret (.v (Value.int (IntKind.i64) (-1)))⟩]
noncomputable def p46_r43 : List PI := [
  ⟨none, some 129, [17], .eff fun e => ret (e 17)⟩,
  ⟨none, none, [15, 129], .eff fun e => effStore 1 (e 15) (e 129)⟩]
noncomputable def p46_r44 : List PI := [
  ⟨none, some 101, [16], .eff fun e => ret (e 16)⟩,
  ⟨none, some 102, [101], .eff fun e => effIb (BinOp.add) (e 101) (.v (Value.int (IntKind.i64) 1))⟩,
  ⟨none, some 16, [102], .eff fun e => ret (e 102)⟩]
noncomputable def p46_l4 : PCode := (.seq (.block 7 (.seq (.reg p46_r33 [6, 15, 16, 17]) (.seq (.seq (.reg p46_r34 [6, 15, 16, 17, 105, 106, 107]) (.block 8 (.loop p46_l3))) (.seq (.block 10 (.seq (.reg p46_r39 [6, 15, 16, 17, 120]) (.cond (Operand.tmp 120) (.seq (.reg p46_r40 [2]) .ret) (.seq (.reg p46_r41 [6, 15, 16, 17, 125]) (.cond (Operand.tmp 125) (.seq (.reg p46_r42 [2]) .ret) .skip))))) (.reg p46_r43 [6, 15, 16]))))) (.reg p46_r44 [6, 15, 16]))
noncomputable def p46 : PCode := (.seq (.reg p46_r0 [0]) (.seq (.reg p46_r1 [0, 3]) (.seq (.reg p46_r2 [0, 3]) (.seq (.reg p46_r3 [0, 3, 4]) (.seq (.reg p46_r4 [0, 4, 5]) (.seq (.reg p46_r5 [0, 4, 5, 6]) (.seq (.seq (.reg p46_r6 [0, 4, 5, 6, 7]) (.block 0 (.loop p46_l2))) (.seq (.reg p46_r31 [6, 15]) (.seq (.reg p46_r32 [6, 15, 16]) (.block 6 (.loop p46_l4)))))))))))
theorem P46 : PFn Try.prog 46 ⟨p46, [SRes.tmp 2], 130⟩ := ⟨c46, F46, by kernel_rfl⟩
end Go.Sx.Wk
/- The codes of the functions, written by a program (Gen.lean), and that they are the functions'. No conditions. -/
set_option linter.unusedVariables false
set_option maxRecDepth 100000
namespace Go.Sx.Wk
open Go Go.Sx Go.Proofs

noncomputable def p72_r0 : List PI := [
  ⟨none, some 4, [], .eff fun e => ret (.v (Value.bool false))⟩]
noncomputable def p72_r1 : List PI := [
  ⟨none, some 5, [0], .eff fun e => ret (e 0)⟩,
  ⟨none, some 6, [1], .eff fun e => ret (e 1)⟩,
  ⟨none, some 7, [5, 6], .call 67 ([Operand.tmp 5, Operand.tmp 6])⟩,
  ⟨none, some 8, [7], .eff fun e => effIb (BinOp.geq) (e 7) (.v (Value.int (IntKind.i64) 0))⟩,
  ⟨none, some 4, [8], .eff fun e => ret (e 8)⟩]
noncomputable def p72 : PCode := (.seq (.reg p72_r0 [0, 1]) (.seq (.reg p72_r1 [4]) .ret))
theorem P72 : PFn Try.prog 72 ⟨p72, [SRes.tmp 4], 9⟩ := ⟨c72, F72, by kernel_rfl⟩
end Go.Sx.Wk
/- The codes of the functions, written by a program (Gen.lean), and that they are the functions'. No conditions. -/
set_option linter.unusedVariables false
set_option maxRecDepth 100000
namespace Go.Sx.Wk
open Go Go.Sx Go.Proofs

noncomputable def p73_r0 : List PI := [
  ⟨none, some 2, [], .eff fun e => ret (.v (Value.slice none 0 0))⟩]
noncomputable def p73_r1 : List PI := [
  ⟨none, some 3, [0], .eff fun e => ret (e 0)⟩,
  ⟨none, some 4, [3], .eff fun e => effEqn false (TypeDesc.slice 4) (e 3)⟩]
noncomputable def p73_r2 : List PI := [
  ⟨none, some 2, [], .eff fun e => ret (.v (Value.slice none 0 0))⟩]
noncomputable def p73_r3 : List PI := [
  ⟨none, some 5, [], .eff fun e => effMks0 1⟩,
  ⟨none, some 6, [0], .eff fun e => ret (e 0)⟩,
  ⟨none, some 7, [5, 6], .eff fun e => effApp 1 1 (e 5) (e 6)⟩,
  ⟨none, some 2, [7], .eff fun e => ret (e 7)⟩]
noncomputable def p73 : PCode := (.seq (.reg p73_r0 [0]) (.seq (.seq (.reg p73_r1 [0, 4]) (.cond (Operand.tmp 4) (.seq (.reg p73_r2 [2]) .ret) .skip)) (.seq (.reg p73_r3 [2]) .ret)))
theorem P73 : PFn Try.prog 73 ⟨p73, [SRes.tmp 2], 8⟩ := ⟨c73, F73, by kernel_rfl⟩
end Go.Sx.Wk
/- The codes of the functions, written by a program (Gen.lean), and that they are the functions'. No conditions. -/
set_option linter.unusedVariables false
set_option maxRecDepth 100000
namespace Go.Sx.Wk
open Go Go.Sx Go.Proofs

noncomputable def p74_r0 : List PI := [
  ⟨none, some 3, [], .eff fun e => ret (.v (Value.bool false))⟩]
noncomputable def p74_r1 : List PI := [
  ⟨none, some 4, [1], .eff fun e => effLoad1 (e 1)⟩,
  ⟨none, some 5, [0], .eff fun e => ret (e 0)⟩,
  ⟨none, some 6, [4, 5], .eff fun e => effIdx 1 (e 4) (e 5)⟩,
  ⟨none, some 7, [6], .eff fun e => effLoad1 (e 6)⟩,
  ⟨none, some 8, [7], .eff fun e => effNt (e 7)⟩,
  ⟨none, some 3, [8], .eff fun e => ret (e 8)⟩]
noncomputable def p74 : PCode := (.seq (.reg p74_r0 [0, 1]) (.seq (.reg p74_r1 [3]) .ret))
theorem P74 : PFn Try.prog 74 ⟨p74, [SRes.tmp 3], 9⟩ := ⟨c74, F74, by kernel_rfl⟩
end Go.Sx.Wk
/- The codes of the functions, written by a program (Gen.lean), and that they are the functions'. No conditions. -/
set_option linter.unusedVariables false
set_option maxRecDepth 100000
namespace Go.Sx.Wk
open Go Go.Sx Go.Proofs

noncomputable def p75_r0 : List PI := [
  ⟨none, some 4, [], .eff fun e => ret (.v (Value.bool false))⟩]
noncomputable def p75_r1 : List PI := [
  ⟨none, some 6, [0], .eff fun e => ret (e 0)⟩,
  ⟨none, some 7, [6], .eff fun e => effLenSl (e 6)⟩,
  ⟨none, some 8, [1], .eff fun e => ret (e 1)⟩,
  ⟨none, some 9, [8], .eff fun e => effLenSl (e 8)⟩,
  ⟨none, some 10, [7, 9], .eff fun e => effIb (BinOp.neq) (e 7) (e 9)⟩]
noncomputable def p75_r2 : List PI := [
  ⟨none, some 4, [], .eff fun e => ret (.v (Value.bool false))⟩]
noncomputable def p75_r3 : List PI := [
  ⟨none, some 11, [0], .eff fun e => ret (e 0)⟩,
  ⟨none, some 12, [11], .eff fun e => effLenSl (e 11)⟩,
  ⟨none, some 13, [], .eff fun e => ret (.v (Value.int (IntKind.i64) 0))⟩]
noncomputable def p75_r4 : List PI := [
  ⟨none, some 14, [13, 12], .eff fun e => effIb (BinOp.lss) (e 13) (e 12)⟩]
noncomputable def p75_r5 : List PI := [
  ⟨none, some 15, [13], .eff fun e => ret (e 13)⟩,
  ⟨none, some 5, [15], .eff fun e => ret (e 15)⟩]
noncomputable def p75_r6 : List PI := [
  ⟨none, some 16, [0], .eff fun e => ret (e 0)⟩,
  ⟨none, some 17, [5], .eff fun e => ret (e 5)⟩,
  ⟨none, some 18, [16, 17], .eff fun e => effIdx 1 (e 16) (e 17)⟩,
  ⟨none, some 19, [18], .eff fun e => effLoad1 (e 18)⟩,
  ⟨none, some 20, [1], .eff fun e => ret (e 1)⟩,
  ⟨none, some 21, [5], .eff fun e => ret (e 5)⟩,
  ⟨none, some 22, [20, 21], .eff fun e => effIdx 1 (e 20) (e 21)⟩,
  ⟨none, some 23, [22], .eff fun e => effLoad1 (e 22)⟩,
  ⟨none, some 24, [19, 23], .eff fun e => effBb true (e 19) (e 23)⟩]
noncomputable def p75_r7 : List PI := [
  ⟨none, some 4, [], .eff fun e => ret (.v (Value.bool false))⟩]
noncomputable def p75_r8 : List PI := [
  ⟨none, some 25, [13], .eff fun e => effIb (BinOp.add) (e 13) (.v (Value.int (IntKind.i64) 1))⟩,
  ⟨none, some 13, [25], .eff fun e => ret (e 25)⟩]
noncomputable def p75_l0 : PCode := (.seq (.reg p75_r4 [0, 1, 12, 13, 14]) (.seq (.cond (Operand.tmp 14) .skip (.exit 0)) (.seq (.block 1 (.seq (.reg p75_r5 [0, 1, 5, 12, 13]) (.seq (.draw p75_r6 [[], [], [0, 1], [2, 0, 1], [], [], [4, 5], [6, 4, 5], [3, 7, 2, 0, 1, 6, 4, 5]] [0, 1, 12, 13, 24]) (.cond (Operand.tmp 24) (.seq (.reg p75_r7 [4]) .ret) .skip)))) (.reg p75_r8 [0, 1, 12, 13]))))
noncomputable def p75_r9 : List PI := [
  ⟨none, some 4, [], .eff fun e => ret (.v (Value.bool true))⟩]
noncomputable def p75 : PCode := (.seq (.reg p75_r0 [0, 1]) (.seq (.seq (.reg p75_r1 [0, 1, 10]) (.cond (Operand.tmp 10) (.seq (.reg p75_r2 [4]) .ret) .skip)) (.seq (.seq (.reg p75_r3 [0, 1, 12, 13]) (.block 0 (.loop p75_l0))) (.seq (.reg p75_r9 [4]) .ret))))
theorem P75 : PFn Try.prog 75 ⟨p75, [SRes.tmp 4], 26⟩ := ⟨c75, F75, by kernel_rfl⟩
end Go.Sx.Wk
