/- The codes of the functions, written by a program (Gen.lean), and that they are the functions'. No conditions. -/
import Derived.Test.YtfiebjbhiflfpaaDoorSxJNtoNq
import Derived.KernelRfl
import Derived.Test.YtfiebjbhiflfpaaDoorProg
set_option linter.unusedVariables false
set_option maxRecDepth 100000
namespace Go.Sx.Ch
open Go Go.Sx Go.Proofs
noncomputable def p14_r0 : List PI := [
  ⟨none, some 1, [0], .eff fun e => effBox (e 0)⟩,
  ⟨none, some 2, [], .eff fun e => ret (.v (Value.bool false))⟩]
noncomputable def p14_r1 : List PI := [
  ⟨none, some 15, [1], .eff fun e => effLoadN 18 (e 1)⟩,
  ⟨none, some 16, [15], .call 49 ([Operand.tmp 15, Operand.const (Value.int (IntKind.i64) 8)])⟩,
  ⟨none, some 3, [], .eff fun e => effAlloc ([Value.slice none 0 0])⟩,
  ⟨none, none, [3, 16], .eff fun e => effStore 1 (e 3) (e 16)⟩]
noncomputable def p14_r2 : List PI := [
  ⟨none, some 18, [3], .eff fun e => effLoadN 1 (e 3)⟩,
  ⟨none, some 19, [18], .call 33 ([Operand.tmp 18])⟩,
  ⟨none, some 17, [19], .eff fun e => ret (e 19)⟩,
  ⟨none, some 20, [17], .eff fun e => effExt 0 (e 17)⟩,
  ⟨none, some 21, [17], .eff fun e => effExt 1 (e 17)⟩,
  ⟨none, some 4, [20], .eff fun e => ret (e 20)⟩,
  ⟨none, some 5, [21], .eff fun e => ret (e 21)⟩]
noncomputable def p14_r3 : List PI := [
  ⟨none, some 23, [3], .eff fun e => effLoadN 1 (e 3)⟩,
  ⟨none, some 24, [23], .call 46 ([Operand.tmp 23])⟩,
  ⟨none, some 22, [24], .eff fun e => ret (e 24)⟩,
  ⟨none, some 25, [22], .eff fun e => effExt 0 (e 22)⟩,
  ⟨none, some 26, [22], .eff fun e => effExt 1 (e 22)⟩,
  ⟨none, some 6, [25], .eff fun e => ret (e 25)⟩,
  ⟨none, some 7, [26], .eff fun e => ret (e 26)⟩]
noncomputable def p14_r4 : List PI := [
  ⟨none, some 28, [3], .eff fun e => effLoadN 1 (e 3)⟩,
  ⟨none, some 29, [28], .call 37 ([Operand.tmp 28])⟩,
  ⟨none, some 27, [29], .eff fun e => ret (e 29)⟩,
  ⟨none, some 30, [27], .eff fun e => effExt 0 (e 27)⟩,
  ⟨none, some 31, [27], .eff fun e => effExt 1 (e 27)⟩,
  ⟨none, some 8, [30], .eff fun e => ret (e 30)⟩,
  ⟨none, some 9, [31], .eff fun e => ret (e 31)⟩]
noncomputable def p14_r5 : List PI := [
  ⟨none, some 33, [3], .eff fun e => effLoadN 1 (e 3)⟩,
  ⟨none, some 34, [33], .call 42 ([Operand.tmp 33])⟩,
  ⟨none, some 32, [34], .eff fun e => ret (e 34)⟩,
  ⟨none, some 35, [32], .eff fun e => effExt 0 (e 32)⟩,
  ⟨none, some 36, [32], .eff fun e => effExt 1 (e 32)⟩,
  ⟨none, some 10, [], .eff fun e => effAlloc ([Value.slice none 0 0])⟩,
  ⟨none, none, [10, 35], .eff fun e => effStore 1 (e 10) (e 35)⟩,
  ⟨none, some 11, [36], .eff fun e => ret (e 36)⟩]
noncomputable def p14_r6 : List PI := [
  ⟨none, some 37, [5], .eff fun e => ret (e 5)⟩,
  ⟨none, some 38, [37], .eff fun e => effIb (BinOp.neq) (e 37) (.v (Value.int (IntKind.i64) 0))⟩,
  ⟨none, some 39, [38], .eff fun e => ret (e 38)⟩,
  ⟨some (39, false), some 40, [7], .eff fun e => ret (e 7)⟩,
  ⟨some (39, false), some 41, [40], .eff fun e => effIb (BinOp.neq) (e 40) (.v (Value.int (IntKind.i64) 0))⟩,
  ⟨none, some 42, [39, 41], .eff fun e => effPick (e 39) (.v (Value.bool true)) (e 41)⟩,
  ⟨none, some 43, [42], .eff fun e => ret (e 42)⟩,
  ⟨some (43, false), some 44, [9], .eff fun e => ret (e 9)⟩,
  ⟨some (43, false), some 45, [44], .eff fun e => effIb (BinOp.neq) (e 44) (.v (Value.int (IntKind.i64) 0))⟩,
  ⟨none, some 46, [43, 45], .eff fun e => effPick (e 43) (.v (Value.bool true)) (e 45)⟩,
  ⟨none, some 47, [46], .eff fun e => ret (e 46)⟩,
  ⟨some (47, false), some 48, [11], .eff fun e => ret (e 11)⟩,
  ⟨some (47, false), some 49, [48], .eff fun e => effIb (BinOp.neq) (e 48) (.v (Value.int (IntKind.i64) 0))⟩,
  ⟨none, some 50, [47, 49], .eff fun e => effPick (e 47) (.v (Value.bool true)) (e 49)⟩,
  ⟨none, some 51, [50], .eff fun e => ret (e 50)⟩,
  ⟨some (51, false), some 52, [4], .eff fun e => ret (e 4)⟩,
  ⟨some (51, false), some 53, [3], .eff fun e => effLoadN 1 (e 3)⟩,
  ⟨some (51, false), some 54, [53], .call 56 ([Operand.tmp 53])⟩,
  ⟨some (51, false), some 55, [52, 54], .call 23 ([Operand.tmp 52, Operand.tmp 54])⟩,
  ⟨some (51, false), some 56, [55], .eff fun e => effNt (e 55)⟩,
  ⟨none, some 57, [51, 56], .eff fun e => effPick (e 51) (.v (Value.bool true)) (e 56)⟩,
  ⟨none, some 58, [57], .eff fun e => ret (e 57)⟩,
  ⟨some (58, false), some 59, [6], .eff fun e => ret (e 6)⟩,
  ⟨some (58, false), some 60, [3], .eff fun e => effLoadN 1 (e 3)⟩,
  ⟨some (58, false), some 61, [60], .call 58 ([Operand.tmp 60])⟩,
  ⟨some (58, false), some 62, [59, 61], .eff fun e => effIb (BinOp.neq) (e 59) (e 61)⟩,
  ⟨none, some 63, [58, 62], .eff fun e => effPick (e 58) (.v (Value.bool true)) (e 62)⟩,
  ⟨none, some 64, [63], .eff fun e => ret (e 63)⟩,
  ⟨some (64, false), some 65, [10], .eff fun e => effOff 0 (e 10)⟩,
  ⟨some (64, false), some 66, [65], .eff fun e => effLoad1 (e 65)⟩,
  ⟨some (64, false), some 67, [3], .eff fun e => effLoadN 1 (e 3)⟩,
  ⟨some (64, false), some 68, [67], .call 57 ([Operand.tmp 67])⟩,
  ⟨some (64, false), some 69, [66, 68], .call 23 ([Operand.tmp 66, Operand.tmp 68])⟩,
  ⟨some (64, false), some 70, [69], .eff fun e => effNt (e 69)⟩,
  ⟨none, some 71, [64, 70], .eff fun e => effPick (e 64) (.v (Value.bool true)) (e 70)⟩,
  ⟨none, some 72, [71], .eff fun e => ret (e 71)⟩,
  ⟨some (72, false), some 73, [3], .eff fun e => effLoadN 1 (e 3)⟩,
  ⟨some (72, false), some 74, [73], .call 40 ([Operand.tmp 73])⟩,
  ⟨some (72, false), some 75, [74], .eff fun e => effIb (BinOp.neq) (e 74) (.v (Value.int (IntKind.i64) 0))⟩,
  ⟨none, some 76, [72, 75], .eff fun e => effPick (e 72) (.v (Value.bool true)) (e 75)⟩]
noncomputable def p14_r7 : List PI := [
  ⟨none, some 2, [], .eff fun e => ret (.v (Value.bool false))⟩]
noncomputable def p14_r8 : List PI := [
  ⟨none, some 12, [], .eff fun e => ret (.v (Value.int (IntKind.i64) 0))⟩]
noncomputable def p14_r9 : List PI := [
  ⟨none, some 77, [4], .eff fun e => ret (e 4)⟩,
  ⟨none, some 78, [77], .eff fun e => effLenSl (e 77)⟩,
  ⟨none, some 79, [], .eff fun e => ret (.v (Value.int (IntKind.i64) 0))⟩]
noncomputable def p14_r10 : List PI := [
  ⟨none, some 80, [79, 78], .eff fun e => effIb (BinOp.lss) (e 79) (e 78)⟩]
noncomputable def p14_r11 : List PI := [
  ⟨none, some 81, [77, 79], .eff fun e => effIdx 1 (e 77) (e 79)⟩,
  ⟨none, some 82, [81], .eff fun e => effLoad1 (e 81)⟩,
  ⟨none, some 14, [82], .eff fun e => ret (e 82)⟩]
noncomputable def p14_r12 : List PI := [
  ⟨none, some 83, [12], .eff fun e => ret (e 12)⟩,
  ⟨none, some 84, [14], .eff fun e => ret (e 14)⟩,
  ⟨none, some 85, [84], .eff fun e => effLenSl (e 84)⟩,
  ⟨none, some 86, [83, 85], .eff fun e => effIb (BinOp.add) (e 83) (e 85)⟩,
  ⟨none, some 12, [86], .eff fun e => ret (e 86)⟩]
noncomputable def p14_r13 : List PI := [
  ⟨none, some 87, [79], .eff fun e => effIb (BinOp.add) (e 79) (.v (Value.int (IntKind.i64) 1))⟩,
  ⟨none, some 79, [87], .eff fun e => ret (e 87)⟩]
noncomputable def p14_l0 : PCode := (.seq (.reg p14_r10 [3, 4, 6, 8, 12, 77, 78, 79, 80]) (.seq (.cond (Operand.tmp 80) .skip (.exit 0)) (.seq (.block 1 (.seq (.reg p14_r11 [3, 4, 6, 8, 12, 14, 77, 78, 79]) (.reg p14_r12 [3, 4, 6, 8, 12, 77, 78, 79]))) (.reg p14_r13 [3, 4, 6, 8, 12, 77, 78, 79]))))
noncomputable def p14_r14 : List PI := [
  ⟨none, some 88, [8], .eff fun e => ret (e 8)⟩,
  ⟨none, some 89, [88], .eff fun e => effIb (BinOp.geq) (e 88) (.v (Value.int (IntKind.i64) 0))⟩,
  ⟨none, some 90, [89], .eff fun e => ret (e 89)⟩,
  ⟨some (90, true), some 91, [3], .eff fun e => effOff 0 (e 3)⟩,
  ⟨some (90, true), some 92, [91], .eff fun e => effLoad1 (e 91)⟩,
  ⟨some (90, true), some 93, [92], .eff fun e => effLenSl (e 92)⟩,
  ⟨some (90, true), some 94, [3], .eff fun e => effLoadN 1 (e 3)⟩,
  ⟨some (90, true), some 95, [94], .call 59 ([Operand.tmp 94])⟩,
  ⟨some (90, true), some 96, [95], .eff fun e => effIb (BinOp.quo) (e 95) (.v (Value.int (IntKind.i64) 2))⟩,
  ⟨some (90, true), some 97, [93, 96], .eff fun e => effIb (BinOp.sub) (e 93) (e 96)⟩,
  ⟨some (90, true), some 98, [4], .eff fun e => ret (e 4)⟩,
  ⟨some (90, true), some 99, [98], .eff fun e => effLenSl (e 98)⟩,
  ⟨some (90, true), some 100, [97, 99], .eff fun e => effIb (BinOp.add) (e 97) (e 99)⟩,
  ⟨some (90, true), some 101, [6], .eff fun e => ret (e 6)⟩,
  ⟨some (90, true), some 102, [101], .eff fun e => effIb (BinOp.mul) (.v (Value.int (IntKind.i64) 2)) (e 101)⟩,
  ⟨some (90, true), some 103, [8], .eff fun e => ret (e 8)⟩,
  ⟨some (90, true), some 104, [103], .eff fun e => effIb (BinOp.mul) (.v (Value.int (IntKind.i64) 2)) (e 103)⟩,
  ⟨some (90, true), some 105, [102, 104], .eff fun e => effIb (BinOp.sub) (e 102) (e 104)⟩,
  ⟨some (90, true), some 106, [100, 105], .eff fun e => effIb (BinOp.eql) (e 100) (e 105)⟩,
  ⟨none, some 107, [90, 106], .eff fun e => effPick (e 90) (e 106) (.v (Value.bool false))⟩,
  ⟨none, some 108, [107], .eff fun e => ret (e 107)⟩,
  ⟨some (108, true), some 109, [12], .eff fun e => ret (e 12)⟩,
  ⟨some (108, true), some 110, [3], .eff fun e => effLoadN 1 (e 3)⟩,
  ⟨some (108, true), some 111, [110], .call 59 ([Operand.tmp 110])⟩,
  ⟨some (108, true), some 112, [109, 111], .eff fun e => effIb (BinOp.eql) (e 109) (e 111)⟩,
  ⟨none, some 113, [108, 112], .eff fun e => effPick (e 108) (e 112) (.v (Value.bool false))⟩,
  ⟨none, some 114, [113], .eff fun e => ret (e 113)⟩,
  ⟨some (114, true), some 115, [], .call 16 ([])⟩,
  ⟨none, some 116, [114, 115], .eff fun e => effPick (e 114) (e 115) (.v (Value.bool false))⟩,
  ⟨none, some 2, [116], .eff fun e => ret (e 116)⟩]
noncomputable def p14 : PCode := (.seq (.reg p14_r0 [1]) (.seq (.reg p14_r1 [3]) (.seq (.reg p14_r2 [3, 4, 5]) (.seq (.reg p14_r3 [3, 4, 5, 6, 7]) (.seq (.reg p14_r4 [3, 4, 5, 6, 7, 8, 9]) (.seq (.reg p14_r5 [3, 4, 5, 6, 7, 8, 9, 10, 11]) (.seq (.seq (.draw p14_r6 [[], [0], [1, 0], [2, 1, 0], [3, 2, 1, 0], [4, 3, 2, 1, 0], [5, 4, 3, 2, 1, 0], [6, 5, 4, 3, 2, 1, 0], [7, 6, 5, 4, 3, 2, 1, 0], [8, 7, 6, 5, 4, 3, 2, 1, 0], [9, 8, 7, 6, 5, 4, 3, 2, 1, 0], [10, 9, 8, 7, 6, 5, 4, 3, 2, 1, 0], [11, 10, 9, 8, 7, 6, 5, 4, 3, 2, 1, 0], [12, 11, 10, 9, 8, 7, 6, 5, 4, 3, 2, 1, 0], [13, 12, 11, 10, 9, 8, 7, 6, 5, 4, 3, 2, 1, 0], [14, 13, 12, 11, 10, 9, 8, 7, 6, 5, 4, 3, 2, 1, 0], [14, 13, 12, 11, 10, 9, 8, 7, 6, 5, 4, 3, 2, 1, 0], [16, 14, 13, 12, 11, 10, 9, 8, 7, 6, 5, 4, 3, 2, 1, 0], [15, 17, 16, 14, 13, 12, 11, 10, 9, 8, 7, 6, 5, 4, 3, 2, 1, 0], [18, 15, 17, 16, 14, 13, 12, 11, 10, 9, 8, 7, 6, 5, 4, 3, 2, 1, 0], [19, 18, 15, 17, 16, 14, 13, 12, 11, 10, 9, 8, 7, 6, 5, 4, 3, 2, 1, 0], [20, 19, 18, 15, 17, 16, 14, 13, 12, 11, 10, 9, 8, 7, 6, 5, 4, 3, 2, 1, 0], [21, 20, 19, 18, 15, 17, 16, 14, 13, 12, 11, 10, 9, 8, 7, 6, 5, 4, 3, 2, 1, 0], [21, 20, 19, 18, 15, 17, 16, 14, 13, 12, 11, 10, 9, 8, 7, 6, 5, 4, 3, 2, 1, 0], [23, 21, 20, 19, 18, 15, 17, 16, 14, 13, 12, 11, 10, 9, 8, 7, 6, 5, 4, 3, 2, 1, 0], [22, 24, 23, 21, 20, 19, 18, 15, 17, 16, 14, 13, 12, 11, 10, 9, 8, 7, 6, 5, 4, 3, 2, 1, 0], [25, 22, 24, 23, 21, 20, 19, 18, 15, 17, 16, 14, 13, 12, 11, 10, 9, 8, 7, 6, 5, 4, 3, 2, 1, 0], [26, 25, 22, 24, 23, 21, 20, 19, 18, 15, 17, 16, 14, 13, 12, 11, 10, 9, 8, 7, 6, 5, 4, 3, 2, 1, 0], [27, 26, 25, 22, 24, 23, 21, 20, 19, 18, 15, 17, 16, 14, 13, 12, 11, 10, 9, 8, 7, 6, 5, 4, 3, 2, 1, 0], [28, 27, 26, 25, 22, 24, 23, 21, 20, 19, 18, 15, 17, 16, 14, 13, 12, 11, 10, 9, 8, 7, 6, 5, 4, 3, 2, 1, 0], [27, 26, 25, 22, 24, 23, 21, 20, 19, 18, 15, 17, 16, 14, 13, 12, 11, 10, 9, 8, 7, 6, 5, 4, 3, 2, 1, 0], [30, 27, 26, 25, 22, 24, 23, 21, 20, 19, 18, 15, 17, 16, 14, 13, 12, 11, 10, 9, 8, 7, 6, 5, 4, 3, 2, 1, 0], [29, 31, 28, 30, 27, 26, 25, 22, 24, 23, 21, 20, 19, 18, 15, 17, 16, 14, 13, 12, 11, 10, 9, 8, 7, 6, 5, 4, 3, 2, 1, 0], [32, 29, 31, 28, 30, 27, 26, 25, 22, 24, 23, 21, 20, 19, 18, 15, 17, 16, 14, 13, 12, 11, 10, 9, 8, 7, 6, 5, 4, 3, 2, 1, 0], [33, 32, 29, 31, 28, 30, 27, 26, 25, 22, 24, 23, 21, 20, 19, 18, 15, 17, 16, 14, 13, 12, 11, 10, 9, 8, 7, 6, 5, 4, 3, 2, 1, 0], [34, 33, 32, 29, 31, 28, 30, 27, 26, 25, 22, 24, 23, 21, 20, 19, 18, 15, 17, 16, 14, 13, 12, 11, 10, 9, 8, 7, 6, 5, 4, 3, 2, 1, 0], [35, 34, 33, 32, 29, 31, 28, 30, 27, 26, 25, 22, 24, 23, 21, 20, 19, 18, 15, 17, 16, 14, 13, 12, 11, 10, 9, 8, 7, 6, 5, 4, 3, 2, 1, 0], [36, 35, 34, 33, 32, 29, 31, 28, 30, 27, 26, 25, 22, 24, 23, 21, 20, 19, 18, 15, 17, 16, 14, 13, 12, 11, 10, 9, 8, 7, 6, 5, 4, 3, 2, 1, 0], [37, 36, 35, 34, 33, 32, 29, 31, 28, 30, 27, 26, 25, 22, 24, 23, 21, 20, 19, 18, 15, 17, 16, 14, 13, 12, 11, 10, 9, 8, 7, 6, 5, 4, 3, 2, 1, 0], [38, 37, 36, 35, 34, 33, 32, 29, 31, 28, 30, 27, 26, 25, 22, 24, 23, 21, 20, 19, 18, 15, 17, 16, 14, 13, 12, 11, 10, 9, 8, 7, 6, 5, 4, 3, 2, 1, 0]] [3, 4, 6, 8, 76]) (.cond (Operand.tmp 76) (.seq (.reg p14_r7 [2]) .ret) .skip)) (.seq (.reg p14_r8 [3, 4, 6, 8, 12]) (.seq (.seq (.reg p14_r9 [3, 4, 6, 8, 12, 77, 78, 79]) (.block 0 (.loop p14_l0))) (.seq (.draw p14_r14 [[], [0], [1, 0], [2, 1, 0], [3, 2, 1, 0], [4, 3, 2, 1, 0], [2, 1, 0], [6, 2, 1, 0], [7, 6, 2, 1, 0], [5, 8, 4, 3, 7, 6, 2, 1, 0], [2, 1, 0], [10, 2, 1, 0], [9, 11, 5, 8, 4, 3, 7, 6, 10, 2, 1, 0], [2, 1, 0], [13, 2, 1, 0], [2, 1, 0], [15, 2, 1, 0], [14, 16, 13, 15, 2, 1, 0], [12, 17, 9, 11, 5, 8, 4, 3, 7, 6, 10, 14, 16, 13, 15, 2, 1, 0], [18, 12, 17, 9, 11, 5, 8, 4, 3, 7, 6, 10, 14, 16, 13, 15, 2, 1, 0], [19, 18, 12, 17, 9, 11, 5, 8, 4, 3, 7, 10, 14, 16, 13, 15, 6, 2, 1, 0], [20, 19, 18, 12, 17, 9, 11, 5, 8, 4, 3, 7, 10, 14, 16, 13, 15, 6, 2, 1, 0], [20, 19, 18, 12, 17, 9, 11, 5, 8, 4, 3, 7, 10, 14, 16, 13, 15, 6, 2, 1, 0], [22, 20, 19, 18, 12, 17, 9, 11, 5, 8, 4, 3, 7, 10, 14, 16, 13, 15, 6, 2, 1, 0], [21, 23, 22, 20, 19, 18, 12, 17, 9, 11, 5, 8, 4, 3, 7, 10, 14, 16, 13, 15, 6, 2, 1, 0], [24, 21, 23, 22, 20, 19, 18, 12, 17, 9, 11, 5, 8, 4, 3, 7, 10, 14, 16, 13, 15, 6, 2, 1, 0], [25, 24, 21, 23, 22, 20, 19, 18, 12, 17, 9, 11, 5, 8, 4, 3, 7, 10, 14, 16, 13, 15, 6, 2, 1, 0], [26, 25, 24, 21, 23, 22, 20, 19, 18, 12, 17, 9, 11, 5, 8, 4, 3, 7, 10, 14, 16, 13, 15, 6, 2, 1, 0], [27, 26, 25, 24, 21, 23, 22, 20, 19, 18, 12, 17, 9, 11, 5, 8, 4, 3, 7, 10, 14, 16, 13, 15, 6, 2, 1, 0], [28, 27, 26, 25, 24, 21, 23, 22, 20, 19, 18, 12, 17, 9, 11, 5, 8, 4, 3, 7, 10, 14, 16, 13, 15, 6, 2, 1, 0]] [2]) .ret))))))))))
theorem P14 : PFn Tryd.prog 14 ⟨p14, [SRes.tmp 2], 117⟩ := .mk2 Tryd.f14 (Tryd.f14.body.getD .skip) [[1], [3], [3, 4, 5], [3, 4, 5, 6, 7], [3, 4, 5, 6, 7, 8, 9], [3, 4, 5, 6, 7, 8, 9, 10, 11], [3, 4, 6, 8, 76], [2], [3, 4, 6, 8, 12], [3, 4, 6, 8, 12, 77, 78, 79], [3, 4, 6, 8, 12, 77, 78, 79, 80], [3, 4, 6, 8, 12, 14, 77, 78, 79], [3, 4, 6, 8, 12, 77, 78, 79], [3, 4, 6, 8, 12, 77, 78, 79], [2]] Tryd.func14 (by kernel_rfl) (by kernel_rfl) (by kernel_rfl) (by kernel_rfl) (by decide)
end Go.Sx.Ch
