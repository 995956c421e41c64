/- The codes of the functions, written by a program (Gen.lean), and that they are the functions'. No conditions. -/
import Derived.Test.YtfiebjbhiflfpaaDoorSxWCb
import Derived.KernelRfl
set_option linter.unusedVariables false
set_option maxRecDepth 100000
namespace Go.Sx.Ch
open Go Go.Sx Go.Proofs

noncomputable def p3_r0 : List PI := [
  ⟨none, some 2, [0], .eff fun e => effBox (e 0)⟩,
  ⟨none, some 4, [], .eff fun e => ret (.v (Value.bool false))⟩]
noncomputable def p3_r1 : List PI := [
  ⟨none, some 18, [2], .eff fun e => effLoadN 1 (e 2)⟩,
  ⟨none, some 19, [18], .call 15 ([Operand.tmp 18])⟩]
noncomputable def p3_r2 : List PI := [
  ⟨none, some 20, [], .call 16 ([])⟩,
  ⟨none, some 4, [20], .eff fun e => ret (e 20)⟩]
noncomputable def p3_r3 : List PI := [
  ⟨none, some 21, [2], .eff fun e => effLoadN 1 (e 2)⟩,
  ⟨none, some 5, [], .eff fun e => effAlloc ([Value.slice none 0 0])⟩,
  ⟨none, none, [5, 21], .eff fun e => effStore 1 (e 5) (e 21)⟩]
noncomputable def p3_r4 : List PI := [
  ⟨none, some 23, [2], .eff fun e => effLoadN 1 (e 2)⟩,
  ⟨none, some 24, [23], .call 17 ([Operand.tmp 23])⟩,
  ⟨none, some 22, [24], .eff fun e => ret (e 24)⟩,
  ⟨none, some 25, [22], .eff fun e => effExt 0 (e 22)⟩,
  ⟨none, some 26, [22], .eff fun e => effExt 1 (e 22)⟩,
  ⟨none, some 6, [], .eff fun e => effAlloc ([Value.slice none 0 0])⟩,
  ⟨none, none, [6, 25], .eff fun e => effStore 1 (e 6) (e 25)⟩,
  ⟨none, some 7, [26], .eff fun e => ret (e 26)⟩]
noncomputable def p3_r5 : List PI := [
  ⟨none, some 28, [5], .eff fun e => effLoadN 1 (e 5)⟩,
  ⟨none, some 29, [28], .call 18 ([Operand.tmp 28])⟩,
  ⟨none, some 27, [29], .eff fun e => ret (e 29)⟩,
  ⟨none, some 30, [27], .eff fun e => effExt 0 (e 27)⟩,
  ⟨none, some 31, [27], .eff fun e => effExt 1 (e 27)⟩,
  ⟨none, some 8, [], .eff fun e => effAlloc ([Value.slice none 0 0])⟩,
  ⟨none, none, [8, 30], .eff fun e => effStore 1 (e 8) (e 30)⟩,
  ⟨none, some 9, [31], .eff fun e => ret (e 31)⟩]
noncomputable def p3_r6 : List PI := [
  ⟨none, some 33, [2], .eff fun e => effLoadN 1 (e 2)⟩,
  ⟨none, some 34, [33], .call 19 ([Operand.tmp 33])⟩,
  ⟨none, some 32, [34], .eff fun e => ret (e 34)⟩,
  ⟨none, some 35, [32], .eff fun e => effExt 0 (e 32)⟩,
  ⟨none, some 36, [32], .eff fun e => effExt 1 (e 32)⟩,
  ⟨none, some 10, [], .eff fun e => effAlloc ([Value.slice none 0 0])⟩,
  ⟨none, none, [10, 35], .eff fun e => effStore 1 (e 10) (e 35)⟩,
  ⟨none, some 11, [36], .eff fun e => ret (e 36)⟩]
noncomputable def p3_r7 : List PI := [
  ⟨none, some 38, [5], .eff fun e => effLoadN 1 (e 5)⟩,
  ⟨none, some 39, [38], .call 20 ([Operand.tmp 38])⟩,
  ⟨none, some 37, [39], .eff fun e => ret (e 39)⟩,
  ⟨none, some 40, [37], .eff fun e => effExt 0 (e 37)⟩,
  ⟨none, some 41, [37], .eff fun e => effExt 1 (e 37)⟩,
  ⟨none, some 12, [], .eff fun e => effAlloc ([Value.slice none 0 0])⟩,
  ⟨none, none, [12, 40], .eff fun e => effStore 1 (e 12) (e 40)⟩,
  ⟨none, some 13, [41], .eff fun e => ret (e 41)⟩]
noncomputable def p3_r8 : List PI := [
  ⟨none, some 43, [2], .eff fun e => effLoadN 1 (e 2)⟩,
  ⟨none, some 44, [1], .eff fun e => ret (e 1)⟩,
  ⟨none, some 45, [43, 44], .call 21 ([Operand.tmp 43, Operand.tmp 44])⟩,
  ⟨none, some 42, [45], .eff fun e => ret (e 45)⟩,
  ⟨none, some 46, [42], .eff fun e => effExt 0 (e 42)⟩,
  ⟨none, some 47, [42], .eff fun e => effExt 1 (e 42)⟩,
  ⟨none, some 14, [], .eff fun e => effAlloc ([Value.slice none 0 0])⟩,
  ⟨none, none, [14, 46], .eff fun e => effStore 1 (e 14) (e 46)⟩,
  ⟨none, some 15, [47], .eff fun e => ret (e 47)⟩]
noncomputable def p3_r9 : List PI := [
  ⟨none, some 49, [5], .eff fun e => effLoadN 1 (e 5)⟩,
  ⟨none, some 50, [1], .eff fun e => ret (e 1)⟩,
  ⟨none, some 51, [49, 50], .call 22 ([Operand.tmp 49, Operand.tmp 50])⟩,
  ⟨none, some 48, [51], .eff fun e => ret (e 51)⟩,
  ⟨none, some 52, [48], .eff fun e => effExt 0 (e 48)⟩,
  ⟨none, some 53, [48], .eff fun e => effExt 1 (e 48)⟩,
  ⟨none, some 16, [], .eff fun e => effAlloc ([Value.slice none 0 0])⟩,
  ⟨none, none, [16, 52], .eff fun e => effStore 1 (e 16) (e 52)⟩,
  ⟨none, some 17, [53], .eff fun e => ret (e 53)⟩]
noncomputable def p3_r10 : List PI := [
  ⟨none, some 54, [6], .eff fun e => effOff 0 (e 6)⟩,
  ⟨none, some 55, [54], .eff fun e => effLoad1 (e 54)⟩,
  ⟨none, some 56, [8], .eff fun e => effOff 0 (e 8)⟩,
  ⟨none, some 57, [56], .eff fun e => effLoad1 (e 56)⟩,
  ⟨none, some 58, [55, 57], .call 23 ([Operand.tmp 55, Operand.tmp 57])⟩,
  ⟨none, some 59, [58], .eff fun e => ret (e 58)⟩,
  ⟨some (59, true), some 60, [7], .eff fun e => ret (e 7)⟩,
  ⟨some (59, true), some 61, [9], .eff fun e => ret (e 9)⟩,
  ⟨some (59, true), some 62, [60, 61], .eff fun e => effIb (BinOp.eql) (e 60) (e 61)⟩,
  ⟨none, some 63, [59, 62], .eff fun e => effPick (e 59) (e 62) (.v (Value.bool false))⟩,
  ⟨none, some 64, [63], .eff fun e => ret (e 63)⟩,
  ⟨some (64, true), some 65, [10], .eff fun e => effOff 0 (e 10)⟩,
  ⟨some (64, true), some 66, [65], .eff fun e => effLoad1 (e 65)⟩,
  ⟨some (64, true), some 67, [12], .eff fun e => effOff 0 (e 12)⟩,
  ⟨some (64, true), some 68, [67], .eff fun e => effLoad1 (e 67)⟩,
  ⟨some (64, true), some 69, [66, 68], .call 23 ([Operand.tmp 66, Operand.tmp 68])⟩,
  ⟨none, some 70, [64, 69], .eff fun e => effPick (e 64) (e 69) (.v (Value.bool false))⟩,
  ⟨none, some 71, [70], .eff fun e => ret (e 70)⟩,
  ⟨some (71, true), some 72, [11], .eff fun e => ret (e 11)⟩,
  ⟨some (71, true), some 73, [13], .eff fun e => ret (e 13)⟩,
  ⟨some (71, true), some 74, [72, 73], .eff fun e => effIb (BinOp.eql) (e 72) (e 73)⟩,
  ⟨none, some 75, [71, 74], .eff fun e => effPick (e 71) (e 74) (.v (Value.bool false))⟩,
  ⟨none, some 76, [75], .eff fun e => ret (e 75)⟩,
  ⟨some (76, true), some 77, [14], .eff fun e => effOff 0 (e 14)⟩,
  ⟨some (76, true), some 78, [77], .eff fun e => effLoad1 (e 77)⟩,
  ⟨some (76, true), some 79, [16], .eff fun e => effOff 0 (e 16)⟩,
  ⟨some (76, true), some 80, [79], .eff fun e => effLoad1 (e 79)⟩,
  ⟨some (76, true), some 81, [78, 80], .call 23 ([Operand.tmp 78, Operand.tmp 80])⟩,
  ⟨none, some 82, [76, 81], .eff fun e => effPick (e 76) (e 81) (.v (Value.bool false))⟩,
  ⟨none, some 83, [82], .eff fun e => ret (e 82)⟩,
  ⟨some (83, true), some 84, [15], .eff fun e => ret (e 15)⟩,
  ⟨some (83, true), some 85, [17], .eff fun e => ret (e 17)⟩,
  ⟨some (83, true), some 86, [84, 85], .eff fun e => effIb (BinOp.eql) (e 84) (e 85)⟩,
  ⟨none, some 87, [83, 86], .eff fun e => effPick (e 83) (e 86) (.v (Value.bool false))⟩,
  ⟨none, some 88, [87], .eff fun e => ret (e 87)⟩,
  ⟨some (88, true), some 89, [], .call 16 ([])⟩,
  ⟨none, some 90, [88, 89], .eff fun e => effPick (e 88) (e 89) (.v (Value.bool false))⟩,
  ⟨none, some 4, [90], .eff fun e => ret (e 90)⟩]
noncomputable def p3 : PCode := (.seq (.reg p3_r0 [1, 2]) (.seq (.seq (.reg p3_r1 [1, 2, 19]) (.cond (Operand.tmp 19) (.seq (.reg p3_r2 [4]) .ret) .skip)) (.seq (.reg p3_r3 [1, 2, 5]) (.seq (.reg p3_r4 [1, 2, 5, 6, 7]) (.seq (.reg p3_r5 [1, 2, 5, 6, 7, 8, 9]) (.seq (.reg p3_r6 [1, 2, 5, 6, 7, 8, 9, 10, 11]) (.seq (.reg p3_r7 [1, 2, 5, 6, 7, 8, 9, 10, 11, 12, 13]) (.seq (.reg p3_r8 [1, 5, 6, 7, 8, 9, 10, 11, 12, 13, 14, 15]) (.seq (.reg p3_r9 [6, 7, 8, 9, 10, 11, 12, 13, 14, 15, 16, 17]) (.seq (.reg p3_r10 [4]) .ret))))))))))
theorem P3 : PFn Tryd.prog 3 ⟨p3, [SRes.tmp 4], 91⟩ := ⟨c3, F3, by kernel_rfl⟩

noncomputable def p15_r0 : List PI := [
  ⟨none, some 1, [0], .eff fun e => effBox (e 0)⟩,
  ⟨none, some 2, [], .eff fun e => ret (.v (Value.bool false))⟩]
noncomputable def p15_r1 : List PI := [
  ⟨none, some 4, [1], .eff fun e => effOff 0 (e 1)⟩,
  ⟨none, some 5, [4], .eff fun e => effLoad1 (e 4)⟩,
  ⟨none, some 6, [5], .eff fun e => effLenSl (e 5)⟩,
  ⟨none, some 7, [6], .eff fun e => effIb (BinOp.gtr) (e 6) (.v (Value.int (IntKind.i64) 40))⟩]
noncomputable def p15_r2 : List PI := [
  ⟨none, some 2, [], .eff fun e => ret (.v (Value.bool true))⟩]
noncomputable def p15_r3 : List PI := [
  ⟨none, some 3, [], .eff fun e => ret (.v (Value.int (IntKind.i64) 0))⟩]
noncomputable def p15_r4 : List PI := [
  ⟨none, some 8, [3], .eff fun e => ret (e 3)⟩,
  ⟨none, some 9, [1], .eff fun e => effOff 0 (e 1)⟩,
  ⟨none, some 10, [9], .eff fun e => effLoad1 (e 9)⟩,
  ⟨none, some 11, [10], .eff fun e => effLenSl (e 10)⟩,
  ⟨none, some 12, [8, 11], .eff fun e => effIb (BinOp.lss) (e 8) (e 11)⟩]
noncomputable def p15_r5 : List PI := [
  ⟨none, some 15, [1], .eff fun e => effOff 0 (e 1)⟩,
  ⟨none, some 16, [15], .eff fun e => effLoad1 (e 15)⟩,
  ⟨none, some 17, [3], .eff fun e => ret (e 3)⟩,
  ⟨none, some 18, [16, 17], .eff fun e => effIdx 1 (e 16) (e 17)⟩,
  ⟨none, some 19, [18], .eff fun e => effLoad1 (e 18)⟩,
  ⟨none, some 20, [19], .eff fun e => effLenSl (e 19)⟩,
  ⟨none, some 21, [20], .eff fun e => effIb (BinOp.gtr) (e 20) (.v (Value.int (IntKind.i64) 40))⟩]
noncomputable def p15_r6 : List PI := [
  ⟨none, some 2, [], .eff fun e => ret (.v (Value.bool true))⟩]
noncomputable def p15_r7 : List PI := [
  ⟨none, some 13, [3], .eff fun e => ret (e 3)⟩,
  ⟨none, some 14, [13], .eff fun e => effIb (BinOp.add) (e 13) (.v (Value.int (IntKind.i64) 1))⟩,
  ⟨none, some 3, [14], .eff fun e => ret (e 14)⟩]
noncomputable def p15_l0 : PCode := (.seq (.seq (.reg p15_r4 [1, 3, 12]) (.cond (Operand.tmp 12) .skip (.exit 0))) (.seq (.block 1 (.seq (.reg p15_r5 [1, 3, 21]) (.cond (Operand.tmp 21) (.seq (.reg p15_r6 [2]) .ret) .skip))) (.reg p15_r7 [1, 3])))
noncomputable def p15_r8 : List PI := [
  ⟨none, some 2, [], .eff fun e => ret (.v (Value.bool false))⟩]
noncomputable def p15 : PCode := (.seq (.reg p15_r0 [1]) (.seq (.seq (.reg p15_r1 [1, 7]) (.cond (Operand.tmp 7) (.seq (.reg p15_r2 [2]) .ret) .skip)) (.seq (.seq (.reg p15_r3 [1, 3]) (.block 0 (.loop p15_l0))) (.seq (.reg p15_r8 [2]) .ret))))
theorem P15 : PFn Tryd.prog 15 ⟨p15, [SRes.tmp 2], 22⟩ := ⟨c15, F15, by kernel_rfl⟩

noncomputable def p66_r0 : List PI := [
  ⟨none, some 1, [0], .eff fun e => effBox (e 0)⟩,
  ⟨none, some 2, [], .eff fun e => ret (.v (Value.int (IntKind.i64) 0))⟩]
noncomputable def p66_r1 : List PI := [
  ⟨none, some 3, [], .eff fun e => ret (.v (Value.int (IntKind.i64) 0))⟩]
noncomputable def p66_r2 : List PI := [
  ⟨none, some 4, [], .eff fun e => ret (.v (Value.int (IntKind.i64) 0))⟩]
noncomputable def p66_r3 : List PI := [
  ⟨none, some 5, [4], .eff fun e => ret (e 4)⟩,
  ⟨none, some 6, [1], .eff fun e => effOff 0 (e 1)⟩,
  ⟨none, some 7, [6], .eff fun e => effLoad1 (e 6)⟩,
  ⟨none, some 8, [7], .eff fun e => effLenSl (e 7)⟩,
  ⟨none, some 9, [5, 8], .eff fun e => effIb (BinOp.lss) (e 5) (e 8)⟩]
noncomputable def p66_r4 : List PI := [
  ⟨none, some 12, [3], .eff fun e => ret (e 3)⟩,
  ⟨none, some 13, [1], .eff fun e => effOff 0 (e 1)⟩,
  ⟨none, some 14, [13], .eff fun e => effLoad1 (e 13)⟩,
  ⟨none, some 15, [4], .eff fun e => ret (e 4)⟩,
  ⟨none, some 16, [14, 15], .eff fun e => effIdx 1 (e 14) (e 15)⟩,
  ⟨none, some 17, [16], .eff fun e => effLoad1 (e 16)⟩,
  ⟨none, some 18, [17], .eff fun e => effLenSl (e 17)⟩,
  ⟨none, some 19, [12, 18], .eff fun e => effIb (BinOp.add) (e 12) (e 18)⟩,
  ⟨none, some 3, [19], .eff fun e => ret (e 19)⟩]
noncomputable def p66_r5 : List PI := [
  ⟨none, some 10, [4], .eff fun e => ret (e 4)⟩,
  ⟨none, some 11, [10], .eff fun e => effIb (BinOp.add) (e 10) (.v (Value.int (IntKind.i64) 1))⟩,
  ⟨none, some 4, [11], .eff fun e => ret (e 11)⟩]
noncomputable def p66_l0 : PCode := (.seq (.seq (.reg p66_r3 [1, 3, 4, 9]) (.cond (Operand.tmp 9) .skip (.exit 0))) (.seq (.block 1 (.reg p66_r4 [1, 3, 4])) (.reg p66_r5 [1, 3, 4])))
noncomputable def p66_r6 : List PI := [
  ⟨none, some 20, [3], .eff fun e => ret (e 3)⟩,
  ⟨none, some 2, [20], .eff fun e => ret (e 20)⟩]
noncomputable def p66 : PCode := (.seq (.reg p66_r0 [1]) (.seq (.reg p66_r1 [1, 3]) (.seq (.seq (.reg p66_r2 [1, 3, 4]) (.block 0 (.loop p66_l0))) (.seq (.reg p66_r6 [2]) .ret))))
theorem P66 : PFn Tryd.prog 66 ⟨p66, [SRes.tmp 2], 21⟩ := ⟨c66, F66, by kernel_rfl⟩

noncomputable def p72_r0 : List PI := [
  ⟨none, some 6, [], .eff fun e => ret (.v (Value.bool false))⟩]
noncomputable def p72_r1 : List PI := [
  ⟨none, some 7, [0], .eff fun e => ret (e 0)⟩,
  ⟨none, some 8, [1], .eff fun e => ret (e 1)⟩,
  ⟨none, some 9, [7, 8], .eff fun e => effIb (BinOp.geq) (e 7) (e 8)⟩,
  ⟨none, some 10, [9], .eff fun e => ret (e 9)⟩,
  ⟨some (10, true), some 11, [0], .eff fun e => ret (e 0)⟩,
  ⟨some (10, true), some 12, [2], .eff fun e => ret (e 2)⟩,
  ⟨some (10, true), some 13, [11, 12], .eff fun e => effIb (BinOp.leq) (e 11) (e 12)⟩,
  ⟨none, some 14, [10, 13], .eff fun e => effPick (e 10) (e 13) (.v (Value.bool false))⟩,
  ⟨none, some 6, [14], .eff fun e => ret (e 14)⟩]
noncomputable def p72 : PCode := (.seq (.reg p72_r0 [0, 1, 2]) (.seq (.reg p72_r1 [6]) .ret))
theorem P72 : PFn Tryd.prog 72 ⟨p72, [SRes.tmp 6], 15⟩ := ⟨c72, F72, by kernel_rfl⟩

noncomputable def p75_r0 : List PI := [
  ⟨none, some 2, [0], .eff fun e => effBox (e 0)⟩,
  ⟨none, some 4, [], .eff fun e => ret (.v (Value.int (IntKind.i64) 0))⟩]
noncomputable def p75_r1 : List PI := [
  ⟨none, some 5, [2], .eff fun e => effLoadN 1 (e 2)⟩,
  ⟨none, some 6, [2], .eff fun e => effOff 0 (e 2)⟩,
  ⟨none, some 7, [6], .eff fun e => effLoad1 (e 6)⟩,
  ⟨none, some 8, [7], .eff fun e => effLenSl (e 7)⟩,
  ⟨none, some 9, [1], .eff fun e => ret (e 1)⟩,
  ⟨none, some 10, [5, 8, 9], .call 87 ([Operand.tmp 5, Operand.tmp 8, Operand.tmp 9])⟩,
  ⟨none, some 4, [10], .eff fun e => ret (e 10)⟩]
noncomputable def p75 : PCode := (.seq (.reg p75_r0 [1, 2]) (.seq (.reg p75_r1 [4]) .ret))
theorem P75 : PFn Tryd.prog 75 ⟨p75, [SRes.tmp 4], 11⟩ := ⟨c75, F75, by kernel_rfl⟩

noncomputable def p86_r0 : List PI := [
  ⟨none, some 4, [], .eff fun e => ret (.v (Value.int (IntKind.i64) 0))⟩]
noncomputable def p86_r1 : List PI := [
  ⟨none, some 5, [], .eff fun e => ret (.v (Value.int (IntKind.i64) 0))⟩]
noncomputable def p86_r2 : List PI := [
  ⟨none, some 6, [5], .eff fun e => ret (e 5)⟩,
  ⟨none, some 7, [0], .eff fun e => ret (e 0)⟩,
  ⟨none, some 8, [7], .eff fun e => effLenSl (e 7)⟩,
  ⟨none, some 9, [6, 8], .eff fun e => effIb (BinOp.lss) (e 6) (e 8)⟩]
noncomputable def p86_r3 : List PI := [
  ⟨none, some 12, [0], .eff fun e => ret (e 0)⟩,
  ⟨none, some 13, [5], .eff fun e => ret (e 5)⟩,
  ⟨none, some 14, [12, 13], .eff fun e => effIdx 1 (e 12) (e 13)⟩,
  ⟨none, some 15, [14], .eff fun e => effLoad1 (e 14)⟩,
  ⟨none, some 16, [1], .eff fun e => ret (e 1)⟩,
  ⟨none, some 17, [15, 16], .eff fun e => effIb (BinOp.eql) (e 15) (e 16)⟩]
noncomputable def p86_r4 : List PI := [
  ⟨none, some 18, [5], .eff fun e => ret (e 5)⟩,
  ⟨none, some 4, [18], .eff fun e => ret (e 18)⟩]
noncomputable def p86_r5 : List PI := [
  ⟨none, some 10, [5], .eff fun e => ret (e 5)⟩,
  ⟨none, some 11, [10], .eff fun e => effIb (BinOp.add) (e 10) (.v (Value.int (IntKind.i64) 1))⟩,
  ⟨none, some 5, [11], .eff fun e => ret (e 11)⟩]
noncomputable def p86_l0 : PCode := (.seq (.seq (.reg p86_r2 [0, 1, 5, 9]) (.cond (Operand.tmp 9) .skip (.exit 0))) (.seq (.block 1 (.seq (.reg p86_r3 [0, 1, 5, 17]) (.cond (Operand.tmp 17) (.seq (.reg p86_r4 [4]) .ret) .skip))) (.reg p86_r5 [0, 1, 5])))
noncomputable def p86_r6 : List PI := [
  ⟨none, some 4, [], .eff fun e => ret (.v (Value.int (IntKind.i64) (-1)))⟩]
noncomputable def p86 : PCode := (.seq (.reg p86_r0 [0, 1]) (.seq (.seq (.reg p86_r1 [0, 1, 5]) (.block 0 (.loop p86_l0))) (.seq (.reg p86_r6 [4]) .ret)))
theorem P86 : PFn Tryd.prog 86 ⟨p86, [SRes.tmp 4], 19⟩ := ⟨c86, F86, by kernel_rfl⟩

noncomputable def p87_r0 : List PI := [
  ⟨none, some 3, [0], .eff fun e => effBox (e 0)⟩,
  ⟨none, some 6, [], .eff fun e => ret (.v (Value.int (IntKind.i64) 0))⟩]
noncomputable def p87_r1 : List PI := [
  ⟨none, some 7, [], .eff fun e => ret (.v (Value.int (IntKind.i64) 0))⟩]
noncomputable def p87_r2 : List PI := [
  ⟨none, some 8, [7], .eff fun e => ret (e 7)⟩,
  ⟨none, some 9, [1], .eff fun e => ret (e 1)⟩,
  ⟨none, some 10, [8, 9], .eff fun e => effIb (BinOp.lss) (e 8) (e 9)⟩]
noncomputable def p87_r3 : List PI := [
  ⟨none, some 13, [3], .eff fun e => effOff 0 (e 3)⟩,
  ⟨none, some 14, [13], .eff fun e => effLoad1 (e 13)⟩,
  ⟨none, some 15, [7], .eff fun e => ret (e 7)⟩,
  ⟨none, some 16, [14, 15], .eff fun e => effIdx 1 (e 14) (e 15)⟩,
  ⟨none, some 17, [16], .eff fun e => effLoad1 (e 16)⟩,
  ⟨none, some 18, [2], .eff fun e => ret (e 2)⟩,
  ⟨none, some 19, [17, 18], .call 86 ([Operand.tmp 17, Operand.tmp 18])⟩,
  ⟨none, some 20, [19], .eff fun e => effIb (BinOp.geq) (e 19) (.v (Value.int (IntKind.i64) 0))⟩]
noncomputable def p87_r4 : List PI := [
  ⟨none, some 21, [7], .eff fun e => ret (e 7)⟩,
  ⟨none, some 6, [21], .eff fun e => ret (e 21)⟩]
noncomputable def p87_r5 : List PI := [
  ⟨none, some 11, [7], .eff fun e => ret (e 7)⟩,
  ⟨none, some 12, [11], .eff fun e => effIb (BinOp.add) (e 11) (.v (Value.int (IntKind.i64) 1))⟩,
  ⟨none, some 7, [12], .eff fun e => ret (e 12)⟩]
noncomputable def p87_l0 : PCode := (.seq (.seq (.reg p87_r2 [1, 2, 3, 7, 10]) (.cond (Operand.tmp 10) .skip (.exit 0))) (.seq (.block 1 (.seq (.reg p87_r3 [1, 2, 3, 7, 20]) (.cond (Operand.tmp 20) (.seq (.reg p87_r4 [6]) .ret) .skip))) (.reg p87_r5 [1, 2, 3, 7])))
noncomputable def p87_r6 : List PI := [
  ⟨none, some 6, [], .eff fun e => ret (.v (Value.int (IntKind.i64) (-1)))⟩]
noncomputable def p87 : PCode := (.seq (.reg p87_r0 [1, 2, 3]) (.seq (.seq (.reg p87_r1 [1, 2, 3, 7]) (.block 0 (.loop p87_l0))) (.seq (.reg p87_r6 [6]) .ret)))
theorem P87 : PFn Tryd.prog 87 ⟨p87, [SRes.tmp 6], 22⟩ := ⟨c87, F87, by kernel_rfl⟩

noncomputable def p97_r0 : List PI := [
  ⟨none, some 2, [0], .eff fun e => effBox (e 0)⟩,
  ⟨none, some 4, [], .eff fun e => ret (.v (Value.int (IntKind.i64) 0))⟩]
noncomputable def p97_r1 : List PI := [
  ⟨none, some 6, [2], .eff fun e => effOff 0 (e 2)⟩,
  ⟨none, some 7, [6], .eff fun e => effLoad1 (e 6)⟩,
  ⟨none, some 8, [2], .eff fun e => effLoadN 1 (e 2)⟩,
  ⟨none, some 9, [1], .eff fun e => ret (e 1)⟩,
  ⟨none, some 10, [8, 9], .call 75 ([Operand.tmp 8, Operand.tmp 9])⟩,
  ⟨none, some 11, [7, 10], .eff fun e => effIdx 1 (e 7) (e 10)⟩,
  ⟨none, some 12, [11], .eff fun e => effLoad1 (e 11)⟩,
  ⟨none, some 5, [12], .eff fun e => ret (e 12)⟩]
noncomputable def p97_r2 : List PI := [
  ⟨none, some 13, [5], .eff fun e => ret (e 5)⟩,
  ⟨none, some 14, [5], .eff fun e => ret (e 5)⟩,
  ⟨none, some 15, [1], .eff fun e => ret (e 1)⟩,
  ⟨none, some 16, [14, 15], .call 86 ([Operand.tmp 14, Operand.tmp 15])⟩,
  ⟨none, some 17, [16], .eff fun e => effIb (BinOp.add) (e 16) (.v (Value.int (IntKind.i64) 1))⟩,
  ⟨none, some 18, [5], .eff fun e => ret (e 5)⟩,
  ⟨none, some 19, [18], .eff fun e => effLenSl (e 18)⟩,
  ⟨none, some 20, [17, 19], .eff fun e => effIb (BinOp.rem) (e 17) (e 19)⟩,
  ⟨none, some 21, [13, 20], .eff fun e => effIdx 1 (e 13) (e 20)⟩,
  ⟨none, some 22, [21], .eff fun e => effLoad1 (e 21)⟩,
  ⟨none, some 4, [22], .eff fun e => ret (e 22)⟩]
noncomputable def p97 : PCode := (.seq (.reg p97_r0 [1, 2]) (.seq (.draw p97_r1 [[], [0], [], [], [2, 3], [1, 4, 0, 2, 3], [5, 1, 4, 0, 2, 3], [6, 5, 1, 4, 0, 2, 3]] [1, 5]) (.seq (.reg p97_r2 [4]) .ret)))
theorem P97 : PFn Tryd.prog 97 ⟨p97, [SRes.tmp 4], 23⟩ := ⟨c97, F97, by kernel_rfl⟩

noncomputable def p98_r0 : List PI := [
  ⟨none, some 2, [], .eff fun e => ret (.v (Value.int (IntKind.i64) 0))⟩]
noncomputable def p98_r1 : List PI := [
  ⟨none, some 3, [0], .eff fun e => ret (e 0)⟩,
  ⟨none, some 4, [3], .eff fun e => effIb (BinOp.rem) (e 3) (.v (Value.int (IntKind.i64) 2))⟩,
  ⟨none, some 5, [4], .eff fun e => effIb (BinOp.eql) (e 4) (.v (Value.int (IntKind.i64) 0))⟩]
noncomputable def p98_r2 : List PI := [
  ⟨none, some 6, [0], .eff fun e => ret (e 0)⟩,
  ⟨none, some 7, [6], .eff fun e => effIb (BinOp.add) (e 6) (.v (Value.int (IntKind.i64) 1))⟩,
  ⟨none, some 2, [7], .eff fun e => ret (e 7)⟩]
noncomputable def p98_r3 : List PI := [
  ⟨none, some 8, [0], .eff fun e => ret (e 0)⟩,
  ⟨none, some 9, [8], .eff fun e => effIb (BinOp.sub) (e 8) (.v (Value.int (IntKind.i64) 1))⟩,
  ⟨none, some 2, [9], .eff fun e => ret (e 9)⟩]
noncomputable def p98 : PCode := (.seq (.reg p98_r0 [0]) (.seq (.seq (.reg p98_r1 [0, 5]) (.cond (Operand.tmp 5) (.seq (.reg p98_r2 [2]) .ret) .skip)) (.seq (.reg p98_r3 [2]) .ret)))
theorem P98 : PFn Tryd.prog 98 ⟨p98, [SRes.tmp 2], 10⟩ := ⟨c98, F98, by kernel_rfl⟩

end Go.Sx.Ch
