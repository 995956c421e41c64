/- The codes of the functions, written by a program (Gen.lean), and that they are the functions'. No conditions. -/
import Derived.Test.YtfiebjbhiflfpaaDoorSxJNtoNq
import Derived.KernelRfl
import Derived.Test.YtfiebjbhiflfpaaDoorProg
set_option linter.unusedVariables false
set_option maxRecDepth 100000
namespace Go.Sx.Ch
open Go Go.Sx Go.Proofs
noncomputable def p11_r0 : List PI := [
  ⟨none, some 1, [0], .eff fun e => effBox (e 0)⟩,
  ⟨none, some 2, [], .eff fun e => ret (.v (Value.bool false))⟩]
noncomputable def p11_r1 : List PI := [
  ⟨none, some 13, [1], .eff fun e => effLoadN 18 (e 1)⟩,
  ⟨none, some 14, [13], .call 49 ([Operand.tmp 13, Operand.const (Value.int (IntKind.i64) 8)])⟩,
  ⟨none, some 3, [], .eff fun e => effAlloc ([Value.slice none 0 0])⟩,
  ⟨none, none, [3, 14], .eff fun e => effStore 1 (e 3) (e 14)⟩]
noncomputable def p11_r2 : List PI := [
  ⟨none, some 16, [3], .eff fun e => effLoadN 1 (e 3)⟩,
  ⟨none, some 17, [16], .call 17 ([Operand.tmp 16])⟩,
  ⟨none, some 15, [17], .eff fun e => ret (e 17)⟩,
  ⟨none, some 18, [15], .eff fun e => effExt 0 (e 15)⟩,
  ⟨none, some 19, [15], .eff fun e => effExt 1 (e 15)⟩,
  ⟨none, some 4, [], .eff fun e => effAlloc ([Value.slice none 0 0])⟩,
  ⟨none, none, [4, 18], .eff fun e => effStore 1 (e 4) (e 18)⟩,
  ⟨none, some 5, [19], .eff fun e => ret (e 19)⟩]
noncomputable def p11_r3 : List PI := [
  ⟨none, some 20, [5], .eff fun e => ret (e 5)⟩,
  ⟨none, some 21, [20], .eff fun e => effIb (BinOp.neq) (e 20) (.v (Value.int (IntKind.i64) 0))⟩,
  ⟨none, some 22, [21], .eff fun e => ret (e 21)⟩,
  ⟨some (22, false), some 23, [4], .eff fun e => effOff 0 (e 4)⟩,
  ⟨some (22, false), some 24, [23], .eff fun e => effLoad1 (e 23)⟩,
  ⟨some (22, false), some 25, [3], .eff fun e => effLoadN 1 (e 3)⟩,
  ⟨some (22, false), some 26, [25], .call 56 ([Operand.tmp 25])⟩,
  ⟨some (22, false), some 27, [24, 26], .call 23 ([Operand.tmp 24, Operand.tmp 26])⟩,
  ⟨some (22, false), some 28, [27], .eff fun e => effNt (e 27)⟩,
  ⟨none, some 29, [22, 28], .eff fun e => effPick (e 22) (.v (Value.bool true)) (e 28)⟩]
noncomputable def p11_r4 : List PI := [
  ⟨none, some 2, [], .eff fun e => ret (.v (Value.bool false))⟩]
noncomputable def p11_r5 : List PI := [
  ⟨none, some 31, [4], .eff fun e => effLoadN 1 (e 4)⟩,
  ⟨none, some 32, [31], .call 17 ([Operand.tmp 31])⟩,
  ⟨none, some 30, [32], .eff fun e => ret (e 32)⟩,
  ⟨none, some 33, [30], .eff fun e => effExt 0 (e 30)⟩,
  ⟨none, some 34, [30], .eff fun e => effExt 1 (e 30)⟩,
  ⟨none, some 6, [], .eff fun e => effAlloc ([Value.slice none 0 0])⟩,
  ⟨none, none, [6, 33], .eff fun e => effStore 1 (e 6) (e 33)⟩,
  ⟨none, some 5, [34], .eff fun e => ret (e 34)⟩]
noncomputable def p11_r6 : List PI := [
  ⟨none, some 36, [4], .eff fun e => effLoadN 1 (e 4)⟩,
  ⟨none, some 37, [36], .call 33 ([Operand.tmp 36])⟩,
  ⟨none, some 35, [37], .eff fun e => ret (e 37)⟩,
  ⟨none, some 38, [35], .eff fun e => effExt 0 (e 35)⟩,
  ⟨none, some 39, [35], .eff fun e => effExt 1 (e 35)⟩,
  ⟨none, some 7, [38], .eff fun e => ret (e 38)⟩,
  ⟨none, some 8, [39], .eff fun e => ret (e 39)⟩]
noncomputable def p11_r7 : List PI := [
  ⟨none, some 41, [4], .eff fun e => effLoadN 1 (e 4)⟩,
  ⟨none, some 42, [41], .call 46 ([Operand.tmp 41])⟩,
  ⟨none, some 40, [42], .eff fun e => ret (e 42)⟩,
  ⟨none, some 43, [40], .eff fun e => effExt 0 (e 40)⟩,
  ⟨none, some 44, [40], .eff fun e => effExt 1 (e 40)⟩,
  ⟨none, some 9, [43], .eff fun e => ret (e 43)⟩,
  ⟨none, some 10, [44], .eff fun e => ret (e 44)⟩]
noncomputable def p11_r8 : List PI := [
  ⟨none, some 46, [4], .eff fun e => effLoadN 1 (e 4)⟩,
  ⟨none, some 47, [46], .call 37 ([Operand.tmp 46])⟩,
  ⟨none, some 45, [47], .eff fun e => ret (e 47)⟩,
  ⟨none, some 48, [45], .eff fun e => effExt 0 (e 45)⟩,
  ⟨none, some 49, [45], .eff fun e => effExt 1 (e 45)⟩,
  ⟨none, some 11, [48], .eff fun e => ret (e 48)⟩,
  ⟨none, some 12, [49], .eff fun e => ret (e 49)⟩]
noncomputable def p11_r9 : List PI := [
  ⟨none, some 50, [5], .eff fun e => ret (e 5)⟩,
  ⟨none, some 51, [50], .eff fun e => effIb (BinOp.eql) (e 50) (.v (Value.int (IntKind.i64) 0))⟩,
  ⟨none, some 52, [51], .eff fun e => ret (e 51)⟩,
  ⟨some (52, true), some 53, [8], .eff fun e => ret (e 8)⟩,
  ⟨some (52, true), some 54, [53], .eff fun e => effIb (BinOp.eql) (e 53) (.v (Value.int (IntKind.i64) 0))⟩,
  ⟨none, some 55, [52, 54], .eff fun e => effPick (e 52) (e 54) (.v (Value.bool false))⟩,
  ⟨none, some 56, [55], .eff fun e => ret (e 55)⟩,
  ⟨some (56, true), some 57, [10], .eff fun e => ret (e 10)⟩,
  ⟨some (56, true), some 58, [57], .eff fun e => effIb (BinOp.eql) (e 57) (.v (Value.int (IntKind.i64) 0))⟩,
  ⟨none, some 59, [56, 58], .eff fun e => effPick (e 56) (e 58) (.v (Value.bool false))⟩,
  ⟨none, some 60, [59], .eff fun e => ret (e 59)⟩,
  ⟨some (60, true), some 61, [12], .eff fun e => ret (e 12)⟩,
  ⟨some (60, true), some 62, [61], .eff fun e => effIb (BinOp.eql) (e 61) (.v (Value.int (IntKind.i64) 0))⟩,
  ⟨none, some 63, [60, 62], .eff fun e => effPick (e 60) (e 62) (.v (Value.bool false))⟩,
  ⟨none, some 64, [63], .eff fun e => ret (e 63)⟩,
  ⟨some (64, true), some 65, [6], .eff fun e => effOff 0 (e 6)⟩,
  ⟨some (64, true), some 66, [65], .eff fun e => effLoad1 (e 65)⟩,
  ⟨some (64, true), some 67, [3], .eff fun e => effLoadN 1 (e 3)⟩,
  ⟨some (64, true), some 68, [67], .call 57 ([Operand.tmp 67])⟩,
  ⟨some (64, true), some 69, [66, 68], .call 23 ([Operand.tmp 66, Operand.tmp 68])⟩,
  ⟨none, some 70, [64, 69], .eff fun e => effPick (e 64) (e 69) (.v (Value.bool false))⟩,
  ⟨none, some 71, [70], .eff fun e => ret (e 70)⟩,
  ⟨some (71, true), some 72, [7], .eff fun e => ret (e 7)⟩,
  ⟨some (71, true), some 73, [72], .eff fun e => effLenSl (e 72)⟩,
  ⟨some (71, true), some 74, [3], .eff fun e => effOff 0 (e 3)⟩,
  ⟨some (71, true), some 75, [74], .eff fun e => effLoad1 (e 74)⟩,
  ⟨some (71, true), some 76, [75], .eff fun e => effLenSl (e 75)⟩,
  ⟨some (71, true), some 77, [73, 76], .eff fun e => effIb (BinOp.eql) (e 73) (e 76)⟩,
  ⟨none, some 78, [71, 77], .eff fun e => effPick (e 71) (e 77) (.v (Value.bool false))⟩,
  ⟨none, some 79, [78], .eff fun e => ret (e 78)⟩,
  ⟨some (79, true), some 80, [9], .eff fun e => ret (e 9)⟩,
  ⟨some (79, true), some 81, [3], .eff fun e => effLoadN 1 (e 3)⟩,
  ⟨some (79, true), some 82, [81], .call 58 ([Operand.tmp 81])⟩,
  ⟨some (79, true), some 83, [80, 82], .eff fun e => effIb (BinOp.eql) (e 80) (e 82)⟩,
  ⟨none, some 84, [79, 83], .eff fun e => effPick (e 79) (e 83) (.v (Value.bool false))⟩,
  ⟨none, some 85, [84], .eff fun e => ret (e 84)⟩,
  ⟨some (85, true), some 86, [11], .eff fun e => ret (e 11)⟩,
  ⟨some (85, true), some 87, [3], .eff fun e => effLoadN 1 (e 3)⟩,
  ⟨some (85, true), some 88, [87], .call 53 ([Operand.tmp 87])⟩,
  ⟨some (85, true), some 89, [86, 88], .eff fun e => effIb (BinOp.eql) (e 86) (e 88)⟩,
  ⟨none, some 90, [85, 89], .eff fun e => effPick (e 85) (e 89) (.v (Value.bool false))⟩,
  ⟨none, some 91, [90], .eff fun e => ret (e 90)⟩,
  ⟨some (91, true), some 92, [], .call 16 ([])⟩,
  ⟨none, some 93, [91, 92], .eff fun e => effPick (e 91) (e 92) (.v (Value.bool false))⟩,
  ⟨none, some 2, [93], .eff fun e => ret (e 93)⟩]
noncomputable def p11 : PCode := (.seq (.reg p11_r0 [1]) (.seq (.reg p11_r1 [3]) (.seq (.reg p11_r2 [3, 4, 5]) (.seq (.seq (.draw p11_r3 [[], [0], [1, 0], [2, 1, 0], [3, 2, 1, 0], [2, 1, 0], [5, 2, 1, 0], [4, 6, 3, 5, 2, 1, 0], [7, 4, 6, 3, 5, 2, 1, 0], [8, 7, 4, 6, 3, 5, 2, 1, 0]] [3, 4, 29]) (.cond (Operand.tmp 29) (.seq (.reg p11_r4 [2]) .ret) .skip)) (.seq (.reg p11_r5 [3, 4, 5, 6]) (.seq (.reg p11_r6 [3, 4, 5, 6, 7, 8]) (.seq (.reg p11_r7 [3, 4, 5, 6, 7, 8, 9, 10]) (.seq (.reg p11_r8 [3, 5, 6, 7, 8, 9, 10, 11, 12]) (.seq (.draw p11_r9 [[], [0], [1, 0], [2, 1, 0], [3, 2, 1, 0], [4, 3, 2, 1, 0], [5, 4, 3, 2, 1, 0], [6, 5, 4, 3, 2, 1, 0], [7, 6, 5, 4, 3, 2, 1, 0], [8, 7, 6, 5, 4, 3, 2, 1, 0], [9, 8, 7, 6, 5, 4, 3, 2, 1, 0], [10, 9, 8, 7, 6, 5, 4, 3, 2, 1, 0], [11, 10, 9, 8, 7, 6, 5, 4, 3, 2, 1, 0], [12, 11, 10, 9, 8, 7, 6, 5, 4, 3, 2, 1, 0], [13, 12, 11, 10, 9, 8, 7, 6, 5, 4, 3, 2, 1, 0], [14, 13, 12, 11, 10, 9, 8, 7, 6, 5, 4, 3, 2, 1, 0], [15, 14, 13, 12, 11, 10, 9, 8, 7, 6, 5, 4, 3, 2, 1, 0], [14, 13, 12, 11, 10, 9, 8, 7, 6, 5, 4, 3, 2, 1, 0], [17, 14, 13, 12, 11, 10, 9, 8, 7, 6, 5, 4, 3, 2, 1, 0], [16, 18, 15, 17, 14, 13, 12, 11, 10, 9, 8, 7, 6, 5, 4, 3, 2, 1, 0], [19, 16, 18, 15, 17, 14, 13, 12, 11, 10, 9, 8, 7, 6, 5, 4, 3, 2, 1, 0], [20, 19, 16, 18, 15, 17, 14, 13, 12, 11, 10, 9, 8, 7, 6, 5, 4, 3, 2, 1, 0], [21, 20, 19, 16, 18, 15, 17, 14, 13, 12, 11, 10, 9, 8, 7, 6, 5, 4, 3, 2, 1, 0], [22, 21, 20, 19, 16, 18, 15, 17, 14, 13, 12, 11, 10, 9, 8, 7, 6, 5, 4, 3, 2, 1, 0], [21, 20, 19, 16, 18, 15, 17, 14, 13, 12, 11, 10, 9, 8, 7, 6, 5, 4, 3, 2, 1, 0], [24, 21, 20, 19, 16, 18, 15, 17, 14, 13, 12, 11, 10, 9, 8, 7, 6, 5, 4, 3, 2, 1, 0], [25, 24, 21, 20, 19, 16, 18, 15, 17, 14, 13, 12, 11, 10, 9, 8, 7, 6, 5, 4, 3, 2, 1, 0], [23, 26, 22, 25, 24, 21, 20, 19, 16, 18, 15, 17, 14, 13, 12, 11, 10, 9, 8, 7, 6, 5, 4, 3, 2, 1, 0], [27, 23, 26, 22, 25, 24, 21, 20, 19, 16, 18, 15, 17, 14, 13, 12, 11, 10, 9, 8, 7, 6, 5, 4, 3, 2, 1, 0], [28, 27, 23, 26, 22, 25, 24, 21, 20, 19, 16, 18, 15, 17, 14, 13, 12, 11, 10, 9, 8, 7, 6, 5, 4, 3, 2, 1, 0], [29, 28, 27, 23, 26, 22, 25, 24, 21, 20, 19, 16, 18, 15, 17, 14, 13, 12, 11, 10, 9, 8, 7, 6, 5, 4, 3, 2, 1, 0], [29, 28, 27, 23, 26, 22, 25, 24, 21, 20, 19, 16, 18, 15, 17, 14, 13, 12, 11, 10, 9, 8, 7, 6, 5, 4, 3, 2, 1, 0], [31, 29, 28, 27, 23, 26, 22, 25, 24, 21, 20, 19, 16, 18, 15, 17, 14, 13, 12, 11, 10, 9, 8, 7, 6, 5, 4, 3, 2, 1, 0], [30, 32, 31, 29, 28, 27, 23, 26, 22, 25, 24, 21, 20, 19, 16, 18, 15, 17, 14, 13, 12, 11, 10, 9, 8, 7, 6, 5, 4, 3, 2, 1, 0], [33, 30, 32, 31, 29, 28, 27, 23, 26, 22, 25, 24, 21, 20, 19, 16, 18, 15, 17, 14, 13, 12, 11, 10, 9, 8, 7, 6, 5, 4, 3, 2, 1, 0], [34, 33, 30, 32, 31, 29, 28, 27, 23, 26, 22, 25, 24, 21, 20, 19, 16, 18, 15, 17, 14, 13, 12, 11, 10, 9, 8, 7, 6, 5, 4, 3, 2, 1, 0], [35, 34, 33, 30, 32, 31, 29, 28, 27, 23, 26, 22, 25, 24, 21, 20, 19, 16, 18, 15, 17, 14, 13, 12, 11, 10, 9, 8, 7, 6, 5, 4, 3, 2, 1, 0], [35, 34, 33, 30, 32, 31, 29, 28, 27, 23, 26, 22, 25, 24, 21, 20, 19, 16, 18, 15, 17, 14, 13, 12, 11, 10, 9, 8, 7, 6, 5, 4, 3, 2, 1, 0], [37, 35, 34, 33, 30, 32, 31, 29, 28, 27, 23, 26, 22, 25, 24, 21, 20, 19, 16, 18, 15, 17, 14, 13, 12, 11, 10, 9, 8, 7, 6, 5, 4, 3, 2, 1, 0], [36, 38, 37, 35, 34, 33, 30, 32, 31, 29, 28, 27, 23, 26, 22, 25, 24, 21, 20, 19, 16, 18, 15, 17, 14, 13, 12, 11, 10, 9, 8, 7, 6, 5, 4, 3, 2, 1, 0], [39, 36, 38, 37, 35, 34, 33, 30, 32, 31, 29, 28, 27, 23, 26, 22, 25, 24, 21, 20, 19, 16, 18, 15, 17, 14, 13, 12, 11, 10, 9, 8, 7, 6, 5, 4, 3, 2, 1, 0], [40, 39, 36, 38, 37, 35, 34, 33, 30, 32, 31, 29, 28, 27, 23, 26, 22, 25, 24, 21, 20, 19, 16, 18, 15, 17, 14, 13, 12, 11, 10, 9, 8, 7, 6, 5, 4, 3, 2, 1, 0], [41, 40, 39, 36, 38, 37, 35, 34, 33, 30, 32, 31, 29, 28, 27, 23, 26, 22, 25, 24, 21, 20, 19, 16, 18, 15, 17, 14, 13, 12, 11, 10, 9, 8, 7, 6, 5, 4, 3, 2, 1, 0], [42, 41, 40, 39, 36, 38, 37, 35, 34, 33, 30, 32, 31, 29, 28, 27, 23, 26, 22, 25, 24, 21, 20, 19, 16, 18, 15, 17, 14, 13, 12, 11, 10, 9, 8, 7, 6, 5, 4, 3, 2, 1, 0], [43, 42, 41, 40, 39, 36, 38, 37, 35, 34, 33, 30, 32, 31, 29, 28, 27, 23, 26, 22, 25, 24, 21, 20, 19, 16, 18, 15, 17, 14, 13, 12, 11, 10, 9, 8, 7, 6, 5, 4, 3, 2, 1, 0]] [2]) .ret)))))))))
theorem P11 : PFn Tryd.prog 11 ⟨p11, [SRes.tmp 2], 94⟩ := .mk2 Tryd.f11 (Tryd.f11.body.getD .skip) [[1], [3], [3, 4, 5], [3, 4, 29], [2], [3, 4, 5, 6], [3, 4, 5, 6, 7, 8], [3, 4, 5, 6, 7, 8, 9, 10], [3, 5, 6, 7, 8, 9, 10, 11, 12], [2]] Tryd.func11 (by kernel_rfl) (by kernel_rfl) (by kernel_rfl) (by kernel_rfl) (by decide)
end Go.Sx.Ch
