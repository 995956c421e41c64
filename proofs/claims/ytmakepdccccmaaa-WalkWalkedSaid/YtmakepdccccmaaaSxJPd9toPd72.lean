/- The codes of the functions, written by a program (Gen.lean), and that they are the functions'. No conditions. -/
import Derived.Test.YtmakepdccccmaaaSxJWd9toWd72
import Derived.KernelRfl
set_option linter.unusedVariables false
set_option maxRecDepth 100000
namespace Go.Sx.Wk
open Go Go.Sx Go.Proofs

noncomputable def p9_r0 : List PI := [
  ⟨none, some 3, [0], .eff fun e => effBox (e 0)⟩,
  ⟨none, some 5, [2], .eff fun e => effBox (e 2)⟩,
  ⟨none, some 6, [], .eff fun e => ret (.v (Value.bool false))⟩]
noncomputable def p9_r1 : List PI := [
  ⟨none, some 20, [3], .eff fun e => effLoadN 5 (e 3)⟩,
  ⟨none, some 21, [20], .call 42 ([Operand.tmp 20, Operand.const (Value.int (IntKind.i64) 4), Operand.const (Value.int (IntKind.i64) 8)])⟩,
  ⟨none, some 7, [21], .eff fun e => ret (e 21)⟩]
noncomputable def p9_r2 : List PI := [
  ⟨none, some 8, [], .eff fun e => ret (.v (Value.slice none 0 0))⟩]
noncomputable def p9_r3 : List PI := [
  ⟨none, some 22, [1], .eff fun e => ret (e 1)⟩,
  ⟨none, some 23, [22], .eff fun e => effCi (IntKind.i64) (e 22)⟩,
  ⟨none, some 24, [23], .eff fun e => effIb (BinOp.rem) (e 23) (.v (Value.int (IntKind.i64) 13))⟩,
  ⟨none, some 25, [5, 24], .eff fun e => effSlcA 12 1 (e 5) none (some (e 24)) none⟩,
  ⟨none, some 26, [25], .eff fun e => effLenSl (e 25)⟩,
  ⟨none, some 27, [], .eff fun e => ret (.v (Value.int (IntKind.i64) 0))⟩]
noncomputable def p9_r4 : List PI := [
  ⟨none, some 28, [27, 26], .eff fun e => effIb (BinOp.lss) (e 27) (e 26)⟩]
noncomputable def p9_r5 : List PI := [
  ⟨none, some 29, [25, 27], .eff fun e => effIdx 1 (e 25) (e 27)⟩,
  ⟨none, some 30, [29], .eff fun e => effLoad1 (e 29)⟩,
  ⟨none, some 10, [30], .eff fun e => ret (e 30)⟩]
noncomputable def p9_r6 : List PI := [
  ⟨none, some 31, [8], .eff fun e => ret (e 8)⟩,
  ⟨none, some 32, [10], .eff fun e => ret (e 10)⟩,
  ⟨none, some 33, [32], .eff fun e => effCi (IntKind.i64) (e 32)⟩,
  ⟨none, some 34, [7], .eff fun e => ret (e 7)⟩,
  ⟨none, some 35, [34], .eff fun e => effLenSl (e 34)⟩,
  ⟨none, some 36, [33, 35], .eff fun e => effIb (BinOp.rem) (e 33) (e 35)⟩,
  ⟨none, some 37, [36], .eff fun e => effMks 1 1 ([Value.int (IntKind.i64) 0]) [(0, 1, (e 36))]⟩,
  ⟨none, some 38, [31, 37], .eff fun e => effApp 1 8 (e 31) (e 37)⟩,
  ⟨none, some 8, [38], .eff fun e => ret (e 38)⟩]
noncomputable def p9_r7 : List PI := [
  ⟨none, some 39, [27], .eff fun e => effIb (BinOp.add) (e 27) (.v (Value.int (IntKind.i64) 1))⟩,
  ⟨none, some 27, [39], .eff fun e => ret (e 39)⟩]
noncomputable def p9_l0 : PCode := (.seq (.reg p9_r4 [7, 8, 25, 26, 27, 28]) (.seq (.cond (Operand.tmp 28) .skip (.exit 0)) (.seq (.block 1 (.seq (.reg p9_r5 [7, 8, 10, 25, 26, 27]) (.reg p9_r6 [7, 8, 25, 26, 27]))) (.reg p9_r7 [7, 8, 25, 26, 27]))))
noncomputable def p9_r8 : List PI := [
  ⟨none, some 41, [7], .eff fun e => ret (e 7)⟩,
  ⟨none, some 42, [8], .eff fun e => ret (e 8)⟩,
  ⟨none, some 43, [41, 42], .call 25 ([Operand.tmp 41, Operand.tmp 42])⟩,
  ⟨none, some 40, [43], .eff fun e => ret (e 43)⟩,
  ⟨none, some 44, [40], .eff fun e => effExt 0 (e 40)⟩,
  ⟨none, some 45, [40], .eff fun e => effExt 1 (e 40)⟩,
  ⟨none, some 11, [44], .eff fun e => ret (e 44)⟩,
  ⟨none, some 12, [45], .eff fun e => ret (e 45)⟩]
noncomputable def p9_r9 : List PI := [
  ⟨none, some 47, [7], .eff fun e => ret (e 7)⟩,
  ⟨none, some 48, [8], .eff fun e => ret (e 8)⟩,
  ⟨none, some 49, [47, 48], .call 27 ([Operand.tmp 47, Operand.tmp 48])⟩,
  ⟨none, some 46, [49], .eff fun e => ret (e 49)⟩,
  ⟨none, some 50, [46], .eff fun e => effExt 0 (e 46)⟩,
  ⟨none, some 51, [46], .eff fun e => effExt 1 (e 46)⟩,
  ⟨none, some 13, [50], .eff fun e => ret (e 50)⟩,
  ⟨none, some 14, [51], .eff fun e => ret (e 51)⟩]
noncomputable def p9_r10 : List PI := [
  ⟨none, some 52, [7], .eff fun e => ret (e 7)⟩,
  ⟨none, some 53, [8], .eff fun e => ret (e 8)⟩,
  ⟨none, some 54, [52, 53], .call 43 ([Operand.tmp 52, Operand.tmp 53])⟩,
  ⟨none, some 55, [54], .eff fun e => effNt (e 54)⟩]
noncomputable def p9_r11 : List PI := [
  ⟨none, some 56, [12], .eff fun e => ret (e 12)⟩,
  ⟨none, some 57, [56], .eff fun e => effIb (BinOp.eql) (e 56) (.v (Value.int (IntKind.i64) 12))⟩,
  ⟨none, some 58, [57], .eff fun e => ret (e 57)⟩,
  ⟨some (58, true), some 59, [14], .eff fun e => ret (e 14)⟩,
  ⟨some (58, true), some 60, [59], .eff fun e => effIb (BinOp.eql) (e 59) (.v (Value.int (IntKind.i64) 12))⟩,
  ⟨none, some 61, [58, 60], .eff fun e => effPick (e 58) (e 60) (.v (Value.bool false))⟩,
  ⟨none, some 62, [61], .eff fun e => ret (e 61)⟩,
  ⟨some (62, true), some 63, [11], .eff fun e => ret (e 11)⟩,
  ⟨some (62, true), some 64, [63], .eff fun e => effLenSl (e 63)⟩,
  ⟨some (62, true), some 65, [64], .eff fun e => effIb (BinOp.eql) (e 64) (.v (Value.int (IntKind.i64) 0))⟩,
  ⟨none, some 66, [62, 65], .eff fun e => effPick (e 62) (e 65) (.v (Value.bool false))⟩,
  ⟨none, some 67, [66], .eff fun e => ret (e 66)⟩,
  ⟨some (67, true), some 68, [13], .eff fun e => ret (e 13)⟩,
  ⟨some (67, true), some 69, [68], .eff fun e => effNt (e 68)⟩,
  ⟨none, some 70, [67, 69], .eff fun e => effPick (e 67) (e 69) (.v (Value.bool false))⟩,
  ⟨none, some 71, [70], .eff fun e => ret (e 70)⟩,
  ⟨some (71, true), some 72, [], .call 16 ([])⟩,
  ⟨none, some 73, [71, 72], .eff fun e => effPick (e 71) (e 72) (.v (Value.bool false))⟩,
  ⟨none, some 6, [73], .eff fun e => ret (e 73)⟩]
noncomputable def p9_r12 : List PI := [
  ⟨none, some 74, [7], .eff fun e => ret (e 7)⟩,
  ⟨none, some 75, [8], .eff fun e => ret (e 8)⟩,
  ⟨none, some 76, [74, 75], .call 44 ([Operand.tmp 74, Operand.tmp 75])⟩,
  ⟨none, some 15, [], .eff fun e => effAlloc ([Value.int (IntKind.i64) 0, Value.int (IntKind.i64) 0, Value.int (IntKind.i64) 0, Value.int (IntKind.i64) 0])⟩,
  ⟨none, none, [15, 76], .eff fun e => effStore 4 (e 15) (e 76)⟩]
noncomputable def p9_r13 : List PI := [
  ⟨none, some 77, [12], .eff fun e => ret (e 12)⟩,
  ⟨none, some 78, [77], .eff fun e => effIb (BinOp.neq) (e 77) (.v (Value.int (IntKind.i64) 0))⟩,
  ⟨none, some 79, [78], .eff fun e => ret (e 78)⟩,
  ⟨some (79, false), some 80, [14], .eff fun e => ret (e 14)⟩,
  ⟨some (79, false), some 81, [80], .eff fun e => effIb (BinOp.neq) (e 80) (.v (Value.int (IntKind.i64) 0))⟩,
  ⟨none, some 82, [79, 81], .eff fun e => effPick (e 79) (.v (Value.bool true)) (e 81)⟩,
  ⟨none, some 83, [82], .eff fun e => ret (e 82)⟩,
  ⟨some (83, false), some 84, [11], .eff fun e => ret (e 11)⟩,
  ⟨some (83, false), some 85, [7], .eff fun e => ret (e 7)⟩,
  ⟨some (83, false), some 86, [85], .eff fun e => effLenSl (e 85)⟩,
  ⟨some (83, false), some 87, [15, 86], .eff fun e => effSlcA 4 1 (e 15) none (some (e 86)) none⟩,
  ⟨some (83, false), some 88, [84, 87], .call 29 ([Operand.tmp 84, Operand.tmp 87])⟩,
  ⟨some (83, false), some 89, [88], .eff fun e => effNt (e 88)⟩,
  ⟨none, some 90, [83, 89], .eff fun e => effPick (e 83) (.v (Value.bool true)) (e 89)⟩]
noncomputable def p9_r14 : List PI := [
  ⟨none, some 6, [], .eff fun e => ret (.v (Value.bool false))⟩]
noncomputable def p9_r15 : List PI := [
  ⟨none, some 92, [7], .eff fun e => ret (e 7)⟩,
  ⟨none, some 93, [8], .eff fun e => ret (e 8)⟩,
  ⟨none, some 94, [93], .call 45 ([Operand.tmp 93])⟩,
  ⟨none, some 95, [7], .eff fun e => ret (e 7)⟩,
  ⟨none, some 96, [95], .eff fun e => effLenSl (e 95)⟩,
  ⟨none, some 97, [96], .eff fun e => effMks 1 1 ([Value.int (IntKind.i64) 0]) [(0, 1, (e 96))]⟩,
  ⟨none, some 98, [94, 97], .eff fun e => effApp 1 8 (e 94) (e 97)⟩,
  ⟨none, some 99, [92, 98], .call 25 ([Operand.tmp 92, Operand.tmp 98])⟩,
  ⟨none, some 91, [99], .eff fun e => ret (e 99)⟩,
  ⟨none, some 100, [91], .eff fun e => effExt 0 (e 91)⟩,
  ⟨none, some 101, [91], .eff fun e => effExt 1 (e 91)⟩,
  ⟨none, some 16, [100], .eff fun e => ret (e 100)⟩,
  ⟨none, some 17, [101], .eff fun e => ret (e 101)⟩]
noncomputable def p9_r16 : List PI := [
  ⟨none, some 103, [7], .eff fun e => ret (e 7)⟩,
  ⟨none, some 104, [], .eff fun e => effMk 8 (Value.int (IntKind.i64) 0) (.v (Value.int (IntKind.i64) 61)) (.v (Value.int (IntKind.i64) 61))⟩,
  ⟨none, some 105, [103, 104], .call 25 ([Operand.tmp 103, Operand.tmp 104])⟩,
  ⟨none, some 102, [105], .eff fun e => ret (e 105)⟩,
  ⟨none, some 106, [102], .eff fun e => effExt 0 (e 102)⟩,
  ⟨none, some 107, [102], .eff fun e => effExt 1 (e 102)⟩,
  ⟨none, some 18, [106], .eff fun e => ret (e 106)⟩,
  ⟨none, some 19, [107], .eff fun e => ret (e 107)⟩]
noncomputable def p9_r17 : List PI := [
  ⟨none, some 108, [17], .eff fun e => ret (e 17)⟩,
  ⟨none, some 109, [108], .eff fun e => effIb (BinOp.eql) (e 108) (.v (Value.int (IntKind.i64) 2))⟩,
  ⟨none, some 110, [109], .eff fun e => ret (e 109)⟩,
  ⟨some (110, true), some 111, [19], .eff fun e => ret (e 19)⟩,
  ⟨some (110, true), some 112, [111], .eff fun e => effIb (BinOp.eql) (e 111) (.v (Value.int (IntKind.i64) 19))⟩,
  ⟨none, some 113, [110, 112], .eff fun e => effPick (e 110) (e 112) (.v (Value.bool false))⟩,
  ⟨none, some 114, [113], .eff fun e => ret (e 113)⟩,
  ⟨some (114, true), some 115, [], .call 16 ([])⟩,
  ⟨none, some 116, [114, 115], .eff fun e => effPick (e 114) (e 115) (.v (Value.bool false))⟩,
  ⟨none, some 6, [116], .eff fun e => ret (e 116)⟩]
noncomputable def p9 : PCode := (.seq (.reg p9_r0 [1, 3, 5]) (.seq (.reg p9_r1 [1, 5, 7]) (.seq (.reg p9_r2 [1, 5, 7, 8]) (.seq (.seq (.reg p9_r3 [7, 8, 25, 26, 27]) (.block 0 (.loop p9_l0))) (.seq (.reg p9_r8 [7, 8, 11, 12]) (.seq (.reg p9_r9 [7, 8, 11, 12, 13, 14]) (.seq (.seq (.reg p9_r10 [7, 8, 11, 12, 13, 14, 55]) (.cond (Operand.tmp 55) (.seq (.reg p9_r11 [6]) .ret) .skip)) (.seq (.reg p9_r12 [7, 8, 11, 12, 14, 15]) (.seq (.seq (.reg p9_r13 [7, 8, 90]) (.cond (Operand.tmp 90) (.seq (.reg p9_r14 [6]) .ret) .skip)) (.seq (.reg p9_r15 [7, 17]) (.seq (.reg p9_r16 [17, 19]) (.seq (.reg p9_r17 [6]) .ret))))))))))))
theorem P9 : PFn Try.prog 9 ⟨p9, [SRes.tmp 6], 117⟩ := ⟨c9, F9, by kernel_rfl⟩
end Go.Sx.Wk
/- The codes of the functions, written by a program (Gen.lean), and that they are the functions'. No conditions. -/
set_option linter.unusedVariables false
set_option maxRecDepth 100000
namespace Go.Sx.Wk
open Go Go.Sx Go.Proofs

noncomputable def p42_r0 : List PI := [
  ⟨none, some 3, [0], .eff fun e => effBox (e 0)⟩,
  ⟨none, some 6, [], .eff fun e => ret (.v (Value.slice none 0 0))⟩]
noncomputable def p42_r1 : List PI := [
  ⟨none, some 7, [], .eff fun e => ret (.v (Value.slice none 0 0))⟩]
noncomputable def p42_r2 : List PI := [
  ⟨none, some 10, [3], .eff fun e => effOff 1 (e 3)⟩,
  ⟨none, some 11, [3], .eff fun e => effOff 0 (e 3)⟩,
  ⟨none, some 12, [11], .eff fun e => effLoad1 (e 11)⟩,
  ⟨none, some 13, [12], .eff fun e => effCi (IntKind.i64) (e 12)⟩,
  ⟨none, some 14, [1], .eff fun e => ret (e 1)⟩,
  ⟨none, some 15, [13, 14], .eff fun e => effIb (BinOp.rem) (e 13) (e 14)⟩,
  ⟨none, some 16, [15], .eff fun e => effIb (BinOp.add) (.v (Value.int (IntKind.i64) 1)) (e 15)⟩,
  ⟨none, some 17, [10, 16], .eff fun e => effSlcA 4 1 (e 10) none (some (e 16)) none⟩,
  ⟨none, some 18, [17], .eff fun e => effLenSl (e 17)⟩,
  ⟨none, some 19, [], .eff fun e => ret (.v (Value.int (IntKind.i64) 0))⟩]
noncomputable def p42_r3 : List PI := [
  ⟨none, some 20, [19, 18], .eff fun e => effIb (BinOp.lss) (e 19) (e 18)⟩]
noncomputable def p42_r4 : List PI := [
  ⟨none, some 21, [17, 19], .eff fun e => effIdx 1 (e 17) (e 19)⟩,
  ⟨none, some 22, [21], .eff fun e => effLoad1 (e 21)⟩,
  ⟨none, some 9, [22], .eff fun e => ret (e 22)⟩]
noncomputable def p42_r5 : List PI := [
  ⟨none, some 23, [7], .eff fun e => ret (e 7)⟩,
  ⟨none, some 24, [9], .eff fun e => ret (e 9)⟩,
  ⟨none, some 25, [24], .eff fun e => effCi (IntKind.i64) (e 24)⟩,
  ⟨none, some 26, [2], .eff fun e => ret (e 2)⟩,
  ⟨none, some 27, [25, 26], .eff fun e => effIb (BinOp.rem) (e 25) (e 26)⟩,
  ⟨none, some 28, [27], .eff fun e => effIb (BinOp.add) (.v (Value.int (IntKind.i64) 1)) (e 27)⟩,
  ⟨none, some 29, [28], .eff fun e => effMks 1 1 ([Value.int (IntKind.i64) 0]) [(0, 1, (e 28))]⟩,
  ⟨none, some 30, [23, 29], .eff fun e => effApp 1 8 (e 23) (e 29)⟩,
  ⟨none, some 7, [30], .eff fun e => ret (e 30)⟩]
noncomputable def p42_r6 : List PI := [
  ⟨none, some 31, [19], .eff fun e => effIb (BinOp.add) (e 19) (.v (Value.int (IntKind.i64) 1))⟩,
  ⟨none, some 19, [31], .eff fun e => ret (e 31)⟩]
noncomputable def p42_l0 : PCode := (.seq (.reg p42_r3 [2, 7, 17, 18, 19, 20]) (.seq (.cond (Operand.tmp 20) .skip (.exit 0)) (.seq (.block 1 (.seq (.reg p42_r4 [2, 7, 9, 17, 18, 19]) (.reg p42_r5 [2, 7, 17, 18, 19]))) (.reg p42_r6 [2, 7, 17, 18, 19]))))
noncomputable def p42_r7 : List PI := [
  ⟨none, some 32, [7], .eff fun e => ret (e 7)⟩,
  ⟨none, some 6, [32], .eff fun e => ret (e 32)⟩]
noncomputable def p42 : PCode := (.seq (.reg p42_r0 [1, 2, 3]) (.seq (.reg p42_r1 [1, 2, 3, 7]) (.seq (.seq (.reg p42_r2 [2, 7, 17, 18, 19]) (.block 0 (.loop p42_l0))) (.seq (.reg p42_r7 [6]) .ret))))
theorem P42 : PFn Try.prog 42 ⟨p42, [SRes.tmp 6], 33⟩ := ⟨c42, F42, by kernel_rfl⟩
end Go.Sx.Wk
/- The codes of the functions, written by a program (Gen.lean), and that they are the functions'. No conditions. -/
set_option linter.unusedVariables false
set_option maxRecDepth 100000
namespace Go.Sx.Wk
open Go Go.Sx Go.Proofs

noncomputable def p43_r0 : List PI := [
  ⟨none, some 4, [], .eff fun e => ret (.v (Value.bool false))⟩]
noncomputable def p43_r1 : List PI := [
  ⟨none, some 8, [0], .eff fun e => ret (e 0)⟩,
  ⟨none, some 9, [8], .eff fun e => effLenSl (e 8)⟩,
  ⟨none, some 10, [], .eff fun e => ret (.v (Value.int (IntKind.i64) 0))⟩]
noncomputable def p43_r2 : List PI := [
  ⟨none, some 11, [10, 9], .eff fun e => effIb (BinOp.lss) (e 10) (e 9)⟩]
noncomputable def p43_r3 : List PI := [
  ⟨none, some 12, [10], .eff fun e => ret (e 10)⟩,
  ⟨none, some 13, [8, 10], .eff fun e => effIdx 1 (e 8) (e 10)⟩,
  ⟨none, some 14, [13], .eff fun e => effLoad1 (e 13)⟩,
  ⟨none, some 5, [12], .eff fun e => ret (e 12)⟩,
  ⟨none, some 6, [14], .eff fun e => ret (e 14)⟩]
noncomputable def p43_r4 : List PI := [
  ⟨none, some 7, [], .eff fun e => ret (.v (Value.int (IntKind.i64) 0))⟩]
noncomputable def p43_r5 : List PI := [
  ⟨none, some 15, [7], .eff fun e => ret (e 7)⟩,
  ⟨none, some 16, [6], .eff fun e => ret (e 6)⟩,
  ⟨none, some 17, [15, 16], .eff fun e => effIb (BinOp.add) (e 15) (e 16)⟩,
  ⟨none, some 18, [1], .eff fun e => ret (e 1)⟩,
  ⟨none, some 19, [18], .eff fun e => effLenSl (e 18)⟩,
  ⟨none, some 20, [17, 19], .eff fun e => effIb (BinOp.leq) (e 17) (e 19)⟩]
noncomputable def p43_r6 : List PI := [
  ⟨none, some 23, [1], .eff fun e => ret (e 1)⟩,
  ⟨none, some 24, [7], .eff fun e => ret (e 7)⟩,
  ⟨none, some 25, [7], .eff fun e => ret (e 7)⟩,
  ⟨none, some 26, [6], .eff fun e => ret (e 6)⟩,
  ⟨none, some 27, [25, 26], .eff fun e => effIb (BinOp.add) (e 25) (e 26)⟩,
  ⟨none, some 28, [23, 24, 27], .eff fun e => effSlc 1 (e 23) (some (e 24)) (some (e 27)) none⟩,
  ⟨none, some 29, [5], .eff fun e => ret (e 5)⟩,
  ⟨none, some 30, [28, 29], .call 72 ([Operand.tmp 28, Operand.tmp 29])⟩,
  ⟨none, some 31, [30], .eff fun e => effNt (e 30)⟩]
noncomputable def p43_r7 : List PI := [
  ⟨none, some 4, [], .eff fun e => ret (.v (Value.bool false))⟩]
noncomputable def p43_r8 : List PI := [
  ⟨none, some 21, [7], .eff fun e => ret (e 7)⟩,
  ⟨none, some 22, [21], .eff fun e => effIb (BinOp.add) (e 21) (.v (Value.int (IntKind.i64) 1))⟩,
  ⟨none, some 7, [22], .eff fun e => ret (e 22)⟩]
noncomputable def p43_l0 : PCode := (.seq (.seq (.reg p43_r5 [1, 5, 6, 7, 8, 9, 10, 20]) (.cond (Operand.tmp 20) .skip (.exit 2))) (.seq (.block 3 (.seq (.reg p43_r6 [1, 5, 6, 7, 8, 9, 10, 31]) (.cond (Operand.tmp 31) (.seq (.reg p43_r7 [4]) .ret) .skip))) (.reg p43_r8 [1, 5, 6, 7, 8, 9, 10])))
noncomputable def p43_r9 : List PI := [
  ⟨none, some 32, [10], .eff fun e => effIb (BinOp.add) (e 10) (.v (Value.int (IntKind.i64) 1))⟩,
  ⟨none, some 10, [32], .eff fun e => ret (e 32)⟩]
noncomputable def p43_l1 : PCode := (.seq (.reg p43_r2 [1, 8, 9, 10, 11]) (.seq (.cond (Operand.tmp 11) .skip (.exit 0)) (.seq (.block 1 (.seq (.reg p43_r3 [1, 5, 6, 8, 9, 10]) (.seq (.reg p43_r4 [1, 5, 6, 7, 8, 9, 10]) (.block 2 (.loop p43_l0))))) (.reg p43_r9 [1, 8, 9, 10]))))
noncomputable def p43_r10 : List PI := [
  ⟨none, some 4, [], .eff fun e => ret (.v (Value.bool true))⟩]
noncomputable def p43 : PCode := (.seq (.reg p43_r0 [0, 1]) (.seq (.seq (.reg p43_r1 [1, 8, 9, 10]) (.block 0 (.loop p43_l1))) (.seq (.reg p43_r10 [4]) .ret)))
theorem P43 : PFn Try.prog 43 ⟨p43, [SRes.tmp 4], 33⟩ := ⟨c43, F43, by kernel_rfl⟩
end Go.Sx.Wk
/- The codes of the functions, written by a program (Gen.lean), and that they are the functions'. No conditions. -/
set_option linter.unusedVariables false
set_option maxRecDepth 100000
namespace Go.Sx.Wk
open Go Go.Sx Go.Proofs

noncomputable def p44_r0 : List PI := [
  ⟨none, some 4, [], .eff fun e => effAlloc ([Value.int (IntKind.i64) 0, Value.int (IntKind.i64) 0, Value.int (IntKind.i64) 0, Value.int (IntKind.i64) 0])⟩]
noncomputable def p44_r1 : List PI := [
  ⟨none, some 5, [], .eff fun e => effAlloc ([Value.int (IntKind.i64) 0, Value.int (IntKind.i64) 0, Value.int (IntKind.i64) 0, Value.int (IntKind.i64) 0])⟩]
noncomputable def p44_r2 : List PI := [
  ⟨none, some 11, [0], .eff fun e => ret (e 0)⟩,
  ⟨none, some 12, [11], .eff fun e => effLenSl (e 11)⟩,
  ⟨none, some 13, [], .eff fun e => ret (.v (Value.int (IntKind.i64) 0))⟩]
noncomputable def p44_r3 : List PI := [
  ⟨none, some 14, [13, 12], .eff fun e => effIb (BinOp.lss) (e 13) (e 12)⟩]
noncomputable def p44_r4 : List PI := [
  ⟨none, some 15, [13], .eff fun e => ret (e 13)⟩,
  ⟨none, some 16, [11, 13], .eff fun e => effIdx 1 (e 11) (e 13)⟩,
  ⟨none, some 17, [16], .eff fun e => effLoad1 (e 16)⟩,
  ⟨none, some 6, [15], .eff fun e => ret (e 15)⟩,
  ⟨none, some 7, [17], .eff fun e => ret (e 17)⟩]
noncomputable def p44_r5 : List PI := [
  ⟨none, some 18, [1], .eff fun e => ret (e 1)⟩,
  ⟨none, some 19, [18], .eff fun e => effLenSl (e 18)⟩,
  ⟨none, some 8, [19], .eff fun e => ret (e 19)⟩]
noncomputable def p44_r6 : List PI := [
  ⟨none, some 20, [1], .eff fun e => ret (e 1)⟩,
  ⟨none, some 21, [20], .eff fun e => effLenSl (e 20)⟩,
  ⟨none, some 22, [], .eff fun e => ret (.v (Value.int (IntKind.i64) 0))⟩]
noncomputable def p44_r7 : List PI := [
  ⟨none, some 23, [22, 21], .eff fun e => effIb (BinOp.lss) (e 22) (e 21)⟩]
noncomputable def p44_r8 : List PI := [
  ⟨none, some 24, [22], .eff fun e => ret (e 22)⟩,
  ⟨none, some 25, [20, 22], .eff fun e => effIdx 1 (e 20) (e 22)⟩,
  ⟨none, some 26, [25], .eff fun e => effLoad1 (e 25)⟩,
  ⟨none, some 9, [24], .eff fun e => ret (e 24)⟩,
  ⟨none, some 10, [26], .eff fun e => ret (e 26)⟩]
noncomputable def p44_r9 : List PI := [
  ⟨none, some 27, [10], .eff fun e => ret (e 10)⟩,
  ⟨none, some 28, [6], .eff fun e => ret (e 6)⟩,
  ⟨none, some 29, [27, 28], .eff fun e => effIb (BinOp.eql) (e 27) (e 28)⟩]
noncomputable def p44_r10 : List PI := [
  ⟨none, some 30, [1], .eff fun e => ret (e 1)⟩,
  ⟨none, some 31, [30], .eff fun e => effLenSl (e 30)⟩,
  ⟨none, some 32, [31], .eff fun e => effIb (BinOp.sub) (e 31) (.v (Value.int (IntKind.i64) 1))⟩,
  ⟨none, some 33, [9], .eff fun e => ret (e 9)⟩,
  ⟨none, some 34, [32, 33], .eff fun e => effIb (BinOp.sub) (e 32) (e 33)⟩,
  ⟨none, some 8, [34], .eff fun e => ret (e 34)⟩]
noncomputable def p44_r11 : List PI := [
  ⟨none, some 35, [22], .eff fun e => effIb (BinOp.add) (e 22) (.v (Value.int (IntKind.i64) 1))⟩,
  ⟨none, some 22, [35], .eff fun e => ret (e 35)⟩]
noncomputable def p44_l0 : PCode := (.seq (.reg p44_r7 [1, 4, 5, 6, 7, 8, 11, 12, 13, 20, 21, 22, 23]) (.seq (.cond (Operand.tmp 23) .skip (.exit 2)) (.seq (.block 3 (.seq (.reg p44_r8 [1, 4, 5, 6, 7, 8, 9, 10, 11, 12, 13, 20, 21, 22]) (.seq (.reg p44_r9 [1, 4, 5, 6, 7, 8, 9, 11, 12, 13, 20, 21, 22, 29]) (.cond (Operand.tmp 29) (.reg p44_r10 [1, 4, 5, 6, 7, 8, 11, 12, 13, 20, 21, 22]) .skip)))) (.reg p44_r11 [1, 4, 5, 6, 7, 8, 11, 12, 13, 20, 21, 22]))))
noncomputable def p44_r12 : List PI := [
  ⟨none, some 36, [6], .eff fun e => ret (e 6)⟩,
  ⟨none, some 37, [7], .eff fun e => ret (e 7)⟩,
  ⟨none, some 38, [8], .eff fun e => ret (e 8)⟩,
  ⟨none, some 39, [37, 38], .eff fun e => effIb (BinOp.sub) (e 37) (e 38)⟩,
  ⟨none, some 40, [5, 36], .eff fun e => effIdxA 4 1 (e 5) (e 36)⟩,
  ⟨none, none, [40, 39], .eff fun e => effStore 1 (e 40) (e 39)⟩]
noncomputable def p44_r13 : List PI := [
  ⟨none, some 41, [13], .eff fun e => effIb (BinOp.add) (e 13) (.v (Value.int (IntKind.i64) 1))⟩,
  ⟨none, some 13, [41], .eff fun e => ret (e 41)⟩]
noncomputable def p44_l1 : PCode := (.seq (.reg p44_r3 [1, 4, 5, 11, 12, 13, 14]) (.seq (.cond (Operand.tmp 14) .skip (.exit 0)) (.seq (.block 1 (.seq (.reg p44_r4 [1, 4, 5, 6, 7, 11, 12, 13]) (.seq (.reg p44_r5 [1, 4, 5, 6, 7, 8, 11, 12, 13]) (.seq (.seq (.reg p44_r6 [1, 4, 5, 6, 7, 8, 11, 12, 13, 20, 21, 22]) (.block 2 (.loop p44_l0))) (.reg p44_r12 [1, 4, 5, 11, 12, 13]))))) (.reg p44_r13 [1, 4, 5, 11, 12, 13]))))
noncomputable def p44_r14 : List PI := [
  ⟨none, some 42, [5], .eff fun e => effLoadN 4 (e 5)⟩,
  ⟨none, none, [4, 42], .eff fun e => effStore 4 (e 4) (e 42)⟩]
noncomputable def p44 : PCode := (.seq (.reg p44_r0 [0, 1, 4]) (.seq (.reg p44_r1 [0, 1, 4, 5]) (.seq (.seq (.reg p44_r2 [1, 4, 5, 11, 12, 13]) (.block 0 (.loop p44_l1))) (.seq (.reg p44_r14 [4]) .ret))))
theorem P44 : PFn Try.prog 44 ⟨p44, [SRes.cell 4 (some 4)], 43⟩ := ⟨c44, F44, by kernel_rfl⟩
end Go.Sx.Wk
/- The codes of the functions, written by a program (Gen.lean), and that they are the functions'. No conditions. -/
set_option linter.unusedVariables false
set_option maxRecDepth 100000
namespace Go.Sx.Wk
open Go Go.Sx Go.Proofs

noncomputable def p45_r0 : List PI := [
  ⟨none, some 2, [], .eff fun e => ret (.v (Value.slice none 0 0))⟩]
noncomputable def p45_r1 : List PI := [
  ⟨none, some 3, [0], .eff fun e => ret (e 0)⟩,
  ⟨none, some 4, [3], .eff fun e => effEqn false (TypeDesc.slice 3) (e 3)⟩]
noncomputable def p45_r2 : List PI := [
  ⟨none, some 2, [], .eff fun e => ret (.v (Value.slice none 0 0))⟩]
noncomputable def p45_r3 : List PI := [
  ⟨none, some 5, [], .eff fun e => effMks0 1⟩,
  ⟨none, some 6, [0], .eff fun e => ret (e 0)⟩,
  ⟨none, some 7, [5, 6], .eff fun e => effApp 1 8 (e 5) (e 6)⟩,
  ⟨none, some 2, [7], .eff fun e => ret (e 7)⟩]
noncomputable def p45 : PCode := (.seq (.reg p45_r0 [0]) (.seq (.seq (.reg p45_r1 [0, 4]) (.cond (Operand.tmp 4) (.seq (.reg p45_r2 [2]) .ret) .skip)) (.seq (.reg p45_r3 [2]) .ret)))
theorem P45 : PFn Try.prog 45 ⟨p45, [SRes.tmp 2], 8⟩ := ⟨c45, F45, by kernel_rfl⟩
end Go.Sx.Wk
/- The codes of the functions, written by a program (Gen.lean), and that they are the functions'. No conditions. -/
set_option linter.unusedVariables false
set_option maxRecDepth 100000
namespace Go.Sx.Wk
open Go Go.Sx Go.Proofs

noncomputable def p72_r0 : List PI := [
  ⟨none, some 4, [], .eff fun e => ret (.v (Value.bool false))⟩]
noncomputable def p72_r1 : List PI := [
  ⟨none, some 5, [0], .eff fun e => ret (e 0)⟩,
  ⟨none, some 6, [1], .eff fun e => ret (e 1)⟩,
  ⟨none, some 7, [5, 6], .call 67 ([Operand.tmp 5, Operand.tmp 6])⟩,
  ⟨none, some 8, [7], .eff fun e => effIb (BinOp.geq) (e 7) (.v (Value.int (IntKind.i64) 0))⟩,
  ⟨none, some 4, [8], .eff fun e => ret (e 8)⟩]
noncomputable def p72 : PCode := (.seq (.reg p72_r0 [0, 1]) (.seq (.reg p72_r1 [4]) .ret))
theorem P72 : PFn Try.prog 72 ⟨p72, [SRes.tmp 4], 9⟩ := ⟨c72, F72, by kernel_rfl⟩
end Go.Sx.Wk
