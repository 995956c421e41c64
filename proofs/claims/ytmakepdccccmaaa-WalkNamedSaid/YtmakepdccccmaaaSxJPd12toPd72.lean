/- The codes of the functions, written by a program (Gen.lean), and that they are the functions'. No conditions. -/
import Derived.Test.YtmakepdccccmaaaSxJWd12toWd72
import Derived.KernelRfl
set_option linter.unusedVariables false
set_option maxRecDepth 100000
namespace Go.Sx.Wk
open Go Go.Sx Go.Proofs

noncomputable def p12_r0 : List PI := [
  ⟨none, some 3, [0], .eff fun e => effBox (e 0)⟩,
  ⟨none, some 4, [1], .eff fun e => effBox (e 1)⟩,
  ⟨none, some 6, [], .eff fun e => ret (.v (Value.bool false))⟩]
noncomputable def p12_r1 : List PI := [
  ⟨none, some 27, [3], .eff fun e => effLoadN 5 (e 3)⟩,
  ⟨none, some 28, [27], .call 42 ([Operand.tmp 27, Operand.const (Value.int (IntKind.i64) 4), Operand.const (Value.int (IntKind.i64) 7)])⟩,
  ⟨none, some 7, [28], .eff fun e => ret (e 28)⟩]
noncomputable def p12_r2 : List PI := [
  ⟨none, some 29, [7], .eff fun e => ret (e 7)⟩,
  ⟨none, some 30, [29], .call 45 ([Operand.tmp 29])⟩,
  ⟨none, some 8, [30], .eff fun e => ret (e 30)⟩]
noncomputable def p12_r3 : List PI := [
  ⟨none, some 31, [8], .eff fun e => ret (e 8)⟩,
  ⟨none, some 32, [31], .eff fun e => effLenSl (e 31)⟩,
  ⟨none, some 33, [], .eff fun e => ret (.v (Value.int (IntKind.i64) 0))⟩]
noncomputable def p12_r4 : List PI := [
  ⟨none, some 34, [33, 32], .eff fun e => effIb (BinOp.lss) (e 33) (e 32)⟩]
noncomputable def p12_r5 : List PI := [
  ⟨none, some 35, [33], .eff fun e => ret (e 33)⟩,
  ⟨none, some 9, [35], .eff fun e => ret (e 35)⟩]
noncomputable def p12_r6 : List PI := [
  ⟨none, some 36, [9], .eff fun e => ret (e 9)⟩,
  ⟨none, some 37, [4, 36], .eff fun e => effIdxA 4 1 (e 4) (e 36)⟩,
  ⟨none, some 38, [37], .eff fun e => effLoad1 (e 37)⟩,
  ⟨none, some 39, [38], .eff fun e => effCi (IntKind.i64) (e 38)⟩,
  ⟨none, some 40, [9], .eff fun e => ret (e 9)⟩,
  ⟨none, some 41, [40], .eff fun e => effIb (BinOp.add) (e 40) (.v (Value.int (IntKind.i64) 1))⟩,
  ⟨none, some 42, [39, 41], .eff fun e => effIb (BinOp.rem) (e 39) (e 41)⟩,
  ⟨none, some 10, [42], .eff fun e => ret (e 42)⟩]
noncomputable def p12_r7 : List PI := [
  ⟨none, some 43, [8], .eff fun e => ret (e 8)⟩,
  ⟨none, some 44, [9], .eff fun e => ret (e 9)⟩,
  ⟨none, some 45, [8], .eff fun e => ret (e 8)⟩,
  ⟨none, some 46, [10], .eff fun e => ret (e 10)⟩,
  ⟨none, some 47, [8], .eff fun e => ret (e 8)⟩,
  ⟨none, some 48, [10], .eff fun e => ret (e 10)⟩,
  ⟨none, some 49, [47, 48], .eff fun e => effIdx 1 (e 47) (e 48)⟩,
  ⟨none, some 50, [49], .eff fun e => effLoad1 (e 49)⟩,
  ⟨none, some 51, [8], .eff fun e => ret (e 8)⟩,
  ⟨none, some 52, [9], .eff fun e => ret (e 9)⟩,
  ⟨none, some 53, [51, 52], .eff fun e => effIdx 1 (e 51) (e 52)⟩,
  ⟨none, some 54, [53], .eff fun e => effLoad1 (e 53)⟩,
  ⟨none, some 55, [43, 44], .eff fun e => effIdx 1 (e 43) (e 44)⟩,
  ⟨none, none, [55, 50], .eff fun e => effStore 1 (e 55) (e 50)⟩,
  ⟨none, some 56, [45, 46], .eff fun e => effIdx 1 (e 45) (e 46)⟩,
  ⟨none, none, [56, 54], .eff fun e => effStore 1 (e 56) (e 54)⟩]
noncomputable def p12_r8 : List PI := [
  ⟨none, some 57, [33], .eff fun e => effIb (BinOp.add) (e 33) (.v (Value.int (IntKind.i64) 1))⟩,
  ⟨none, some 33, [57], .eff fun e => ret (e 57)⟩]
noncomputable def p12_l0 : PCode := (.seq (.reg p12_r4 [2, 4, 7, 8, 32, 33, 34]) (.seq (.cond (Operand.tmp 34) .skip (.exit 0)) (.seq (.block 1 (.seq (.reg p12_r5 [2, 4, 7, 8, 9, 32, 33]) (.seq (.reg p12_r6 [2, 4, 7, 8, 9, 10, 32, 33]) (.draw p12_r7 [[], [], [], [], [], [], [4, 5], [6, 4, 5], [], [], [8, 9], [10, 8, 9], [0, 1, 0, 1, 4, 5, 6, 7, 11, 4, 5, 6, 4, 5, 10, 8, 9], [12, 7, 0, 1, 4, 5, 6, 7, 11, 0, 1, 0, 1, 4, 5, 6, 7, 11, 4, 5, 6, 4, 5, 10, 8, 9, 6, 4, 5, 4, 5, 6, 4, 5, 10, 8, 9], [2, 3, 0, 1, 2, 3, 4, 5, 6, 7, 8, 9, 10, 11, 12, 13, 4, 5, 6, 4, 5, 8, 9, 10, 8, 9, 0, 1, 0, 1, 4, 5, 6, 7, 11, 4, 5, 6, 4, 5, 10, 8, 9, 12, 7, 0, 1, 4, 5, 6, 7, 11, 0, 1, 0, 1, 4, 5, 6, 7, 11, 4, 5, 6, 4, 5, 10, 8, 9, 6, 4, 5, 4, 5, 6, 4, 5, 10, 8, 9], [14, 11, 13, 0, 1, 2, 3, 4, 5, 6, 7, 8, 9, 10, 11, 12, 13, 2, 3, 0, 1, 2, 3, 4, 5, 6, 7, 8, 9, 10, 11, 12, 13, 4, 5, 6, 4, 5, 8, 9, 10, 8, 9, 0, 1, 0, 1, 4, 5, 6, 7, 11, 4, 5, 6, 4, 5, 10, 8, 9, 12, 7, 0, 1, 4, 5, 6, 7, 11, 0, 1, 0, 1, 4, 5, 6, 7, 11, 4, 5, 6, 4, 5, 10, 8, 9, 6, 4, 5, 4, 5, 6, 4, 5, 10, 8, 9, 10, 8, 9, 12, 7, 0, 1, 4, 5, 6, 7, 11, 0, 1, 0, 1, 4, 5, 6, 7, 11, 4, 5, 6, 4, 5, 10, 8, 9, 6, 4, 5, 4, 5, 6, 4, 5, 10, 8, 9, 4, 5, 6, 4, 5, 8, 9, 10, 8, 9, 0, 1, 0, 1, 4, 5, 6, 7, 11, 4, 5, 6, 4, 5, 10, 8, 9, 12, 7, 0, 1, 4, 5, 6, 7, 11, 0, 1, 0, 1, 4, 5, 6, 7, 11, 4, 5, 6, 4, 5, 10, 8, 9, 6, 4, 5, 4, 5, 6, 4, 5, 10, 8, 9]] [2, 4, 7, 8, 32, 33])))) (.reg p12_r8 [2, 4, 7, 8, 32, 33]))))
noncomputable def p12_r9 : List PI := [
  ⟨none, some 58, [2], .eff fun e => ret (e 2)⟩,
  ⟨none, some 59, [58], .eff fun e => effCi (IntKind.i64) (e 58)⟩,
  ⟨none, some 60, [7], .eff fun e => ret (e 7)⟩,
  ⟨none, some 61, [60], .eff fun e => effLenSl (e 60)⟩,
  ⟨none, some 62, [59, 61], .eff fun e => effIb (BinOp.rem) (e 59) (e 61)⟩,
  ⟨none, some 11, [62], .eff fun e => ret (e 62)⟩]
noncomputable def p12_r10 : List PI := [
  ⟨none, some 63, [7], .eff fun e => ret (e 7)⟩,
  ⟨none, some 64, [63], .call 45 ([Operand.tmp 63])⟩,
  ⟨none, some 12, [64], .eff fun e => ret (e 64)⟩]
noncomputable def p12_r11 : List PI := [
  ⟨none, some 65, [12], .eff fun e => ret (e 12)⟩,
  ⟨none, some 66, [11], .eff fun e => ret (e 11)⟩,
  ⟨none, some 67, [65, 66], .eff fun e => effIdx 1 (e 65) (e 66)⟩,
  ⟨none, some 68, [67], .eff fun e => effLoad1 (e 67)⟩,
  ⟨none, some 69, [68], .eff fun e => effIb (BinOp.add) (e 68) (.v (Value.int (IntKind.i64) 1))⟩,
  ⟨none, some 70, [65, 66], .eff fun e => effIdx 1 (e 65) (e 66)⟩,
  ⟨none, none, [70, 69], .eff fun e => effStore 1 (e 70) (e 69)⟩]
noncomputable def p12_r12 : List PI := [
  ⟨none, some 72, [7], .eff fun e => ret (e 7)⟩,
  ⟨none, some 73, [72], .call 19 ([Operand.tmp 72])⟩,
  ⟨none, some 71, [73], .eff fun e => ret (e 73)⟩,
  ⟨none, some 74, [71], .eff fun e => effExt 0 (e 71)⟩,
  ⟨none, some 75, [71], .eff fun e => effExt 1 (e 71)⟩,
  ⟨none, some 13, [74], .eff fun e => ret (e 74)⟩,
  ⟨none, some 14, [75], .eff fun e => ret (e 75)⟩]
noncomputable def p12_r13 : List PI := [
  ⟨none, some 77, [8], .eff fun e => ret (e 8)⟩,
  ⟨none, some 78, [77], .call 19 ([Operand.tmp 77])⟩,
  ⟨none, some 76, [78], .eff fun e => ret (e 78)⟩,
  ⟨none, some 79, [76], .eff fun e => effExt 0 (e 76)⟩,
  ⟨none, some 80, [76], .eff fun e => effExt 1 (e 76)⟩,
  ⟨none, some 15, [79], .eff fun e => ret (e 79)⟩,
  ⟨none, some 16, [80], .eff fun e => ret (e 80)⟩]
noncomputable def p12_r14 : List PI := [
  ⟨none, some 82, [12], .eff fun e => ret (e 12)⟩,
  ⟨none, some 83, [82], .call 19 ([Operand.tmp 82])⟩,
  ⟨none, some 81, [83], .eff fun e => ret (e 83)⟩,
  ⟨none, some 84, [81], .eff fun e => effExt 0 (e 81)⟩,
  ⟨none, some 85, [81], .eff fun e => effExt 1 (e 81)⟩,
  ⟨none, some 17, [84], .eff fun e => ret (e 84)⟩,
  ⟨none, some 18, [85], .eff fun e => ret (e 85)⟩]
noncomputable def p12_r15 : List PI := [
  ⟨none, some 86, [14], .eff fun e => ret (e 14)⟩,
  ⟨none, some 87, [86], .eff fun e => effIb (BinOp.neq) (e 86) (.v (Value.int (IntKind.i64) 0))⟩,
  ⟨none, some 88, [87], .eff fun e => ret (e 87)⟩,
  ⟨some (88, false), some 89, [16], .eff fun e => ret (e 16)⟩,
  ⟨some (88, false), some 90, [89], .eff fun e => effIb (BinOp.neq) (e 89) (.v (Value.int (IntKind.i64) 0))⟩,
  ⟨none, some 91, [88, 90], .eff fun e => effPick (e 88) (.v (Value.bool true)) (e 90)⟩,
  ⟨none, some 92, [91], .eff fun e => ret (e 91)⟩,
  ⟨some (92, false), some 93, [18], .eff fun e => ret (e 18)⟩,
  ⟨some (92, false), some 94, [93], .eff fun e => effIb (BinOp.neq) (e 93) (.v (Value.int (IntKind.i64) 0))⟩,
  ⟨none, some 95, [92, 94], .eff fun e => effPick (e 92) (.v (Value.bool true)) (e 94)⟩,
  ⟨none, some 96, [95], .eff fun e => ret (e 95)⟩,
  ⟨some (96, false), some 97, [13], .eff fun e => ret (e 13)⟩,
  ⟨some (96, false), some 98, [15], .eff fun e => ret (e 15)⟩,
  ⟨some (96, false), some 99, [97, 98], .eff fun e => effBb true (e 97) (e 98)⟩,
  ⟨none, some 100, [96, 99], .eff fun e => effPick (e 96) (.v (Value.bool true)) (e 99)⟩,
  ⟨none, some 101, [100], .eff fun e => ret (e 100)⟩,
  ⟨some (101, false), some 102, [13], .eff fun e => ret (e 13)⟩,
  ⟨some (101, false), some 103, [102], .eff fun e => ret (e 102)⟩,
  ⟨some (103, true), some 104, [17], .eff fun e => ret (e 17)⟩,
  ⟨some (103, true), some 105, [104], .eff fun e => effNt (e 104)⟩,
  ⟨some (101, false), some 106, [103, 105], .eff fun e => effPick (e 103) (e 105) (.v (Value.bool false))⟩,
  ⟨none, some 107, [101, 106], .eff fun e => effPick (e 101) (.v (Value.bool true)) (e 106)⟩]
noncomputable def p12_r16 : List PI := [
  ⟨none, some 6, [], .eff fun e => ret (.v (Value.bool false))⟩]
noncomputable def p12_r17 : List PI := [
  ⟨none, some 109, [7], .eff fun e => ret (e 7)⟩,
  ⟨none, some 110, [109], .call 21 ([Operand.tmp 109])⟩,
  ⟨none, some 108, [110], .eff fun e => ret (e 110)⟩,
  ⟨none, some 111, [108], .eff fun e => effExt 0 (e 108)⟩,
  ⟨none, some 112, [108], .eff fun e => effExt 1 (e 108)⟩,
  ⟨none, some 19, [111], .eff fun e => ret (e 111)⟩,
  ⟨none, some 14, [112], .eff fun e => ret (e 112)⟩]
noncomputable def p12_r18 : List PI := [
  ⟨none, some 114, [8], .eff fun e => ret (e 8)⟩,
  ⟨none, some 115, [114], .call 21 ([Operand.tmp 114])⟩,
  ⟨none, some 113, [115], .eff fun e => ret (e 115)⟩,
  ⟨none, some 116, [113], .eff fun e => effExt 0 (e 113)⟩,
  ⟨none, some 117, [113], .eff fun e => effExt 1 (e 113)⟩,
  ⟨none, some 20, [116], .eff fun e => ret (e 116)⟩,
  ⟨none, some 16, [117], .eff fun e => ret (e 117)⟩]
noncomputable def p12_r19 : List PI := [
  ⟨none, some 119, [7], .eff fun e => ret (e 7)⟩,
  ⟨none, some 120, [119], .call 36 ([Operand.tmp 119])⟩,
  ⟨none, some 118, [120], .eff fun e => ret (e 120)⟩,
  ⟨none, some 121, [118], .eff fun e => effExt 0 (e 118)⟩,
  ⟨none, some 122, [118], .eff fun e => effExt 1 (e 118)⟩,
  ⟨none, some 21, [121], .eff fun e => ret (e 121)⟩,
  ⟨none, some 18, [122], .eff fun e => ret (e 122)⟩]
noncomputable def p12_r20 : List PI := [
  ⟨none, some 124, [8], .eff fun e => ret (e 8)⟩,
  ⟨none, some 125, [124], .call 36 ([Operand.tmp 124])⟩,
  ⟨none, some 123, [125], .eff fun e => ret (e 125)⟩,
  ⟨none, some 126, [123], .eff fun e => effExt 0 (e 123)⟩,
  ⟨none, some 127, [123], .eff fun e => effExt 1 (e 123)⟩,
  ⟨none, some 22, [126], .eff fun e => ret (e 126)⟩,
  ⟨none, some 23, [127], .eff fun e => ret (e 127)⟩]
noncomputable def p12_r21 : List PI := [
  ⟨none, some 128, [14], .eff fun e => ret (e 14)⟩,
  ⟨none, some 129, [16], .eff fun e => ret (e 16)⟩,
  ⟨none, some 130, [128, 129], .eff fun e => effIb (BinOp.neq) (e 128) (e 129)⟩,
  ⟨none, some 131, [130], .eff fun e => ret (e 130)⟩,
  ⟨some (131, false), some 132, [19], .eff fun e => ret (e 19)⟩,
  ⟨some (131, false), some 133, [20], .eff fun e => ret (e 20)⟩,
  ⟨some (131, false), some 134, [132, 133], .eff fun e => effIb (BinOp.neq) (e 132) (e 133)⟩,
  ⟨none, some 135, [131, 134], .eff fun e => effPick (e 131) (.v (Value.bool true)) (e 134)⟩,
  ⟨none, some 136, [135], .eff fun e => ret (e 135)⟩,
  ⟨some (136, false), some 137, [18], .eff fun e => ret (e 18)⟩,
  ⟨some (136, false), some 138, [137], .eff fun e => effIb (BinOp.neq) (e 137) (.v (Value.int (IntKind.i64) 0))⟩,
  ⟨none, some 139, [136, 138], .eff fun e => effPick (e 136) (.v (Value.bool true)) (e 138)⟩,
  ⟨none, some 140, [139], .eff fun e => ret (e 139)⟩,
  ⟨some (140, false), some 141, [23], .eff fun e => ret (e 23)⟩,
  ⟨some (140, false), some 142, [141], .eff fun e => effIb (BinOp.neq) (e 141) (.v (Value.int (IntKind.i64) 0))⟩,
  ⟨none, some 143, [140, 142], .eff fun e => effPick (e 140) (.v (Value.bool true)) (e 142)⟩,
  ⟨none, some 144, [143], .eff fun e => ret (e 143)⟩,
  ⟨some (144, false), some 145, [21], .eff fun e => ret (e 21)⟩,
  ⟨some (144, false), some 146, [145], .eff fun e => effLenSl (e 145)⟩,
  ⟨some (144, false), some 147, [7], .eff fun e => ret (e 7)⟩,
  ⟨some (144, false), some 148, [147], .eff fun e => effLenSl (e 147)⟩,
  ⟨some (144, false), some 149, [146, 148], .eff fun e => effIb (BinOp.neq) (e 146) (e 148)⟩,
  ⟨none, some 150, [144, 149], .eff fun e => effPick (e 144) (.v (Value.bool true)) (e 149)⟩,
  ⟨none, some 151, [150], .eff fun e => ret (e 150)⟩,
  ⟨some (151, false), some 152, [22], .eff fun e => ret (e 22)⟩,
  ⟨some (151, false), some 153, [152], .eff fun e => effLenSl (e 152)⟩,
  ⟨some (151, false), some 154, [7], .eff fun e => ret (e 7)⟩,
  ⟨some (151, false), some 155, [154], .eff fun e => effLenSl (e 154)⟩,
  ⟨some (151, false), some 156, [153, 155], .eff fun e => effIb (BinOp.neq) (e 153) (e 155)⟩,
  ⟨none, some 157, [151, 156], .eff fun e => effPick (e 151) (.v (Value.bool true)) (e 156)⟩,
  ⟨none, some 158, [157], .eff fun e => ret (e 157)⟩,
  ⟨some (158, false), some 159, [21], .eff fun e => ret (e 21)⟩,
  ⟨some (158, false), some 160, [159], .call 49 ([Operand.tmp 159])⟩,
  ⟨some (158, false), some 161, [22], .eff fun e => ret (e 22)⟩,
  ⟨some (158, false), some 162, [161], .call 49 ([Operand.tmp 161])⟩,
  ⟨some (158, false), some 163, [160, 162], .eff fun e => effIb (BinOp.neq) (e 160) (e 162)⟩,
  ⟨none, some 164, [158, 163], .eff fun e => effPick (e 158) (.v (Value.bool true)) (e 163)⟩]
noncomputable def p12_r22 : List PI := [
  ⟨none, some 6, [], .eff fun e => ret (.v (Value.bool false))⟩]
noncomputable def p12_r23 : List PI := [
  ⟨none, some 165, [7], .eff fun e => ret (e 7)⟩,
  ⟨none, some 166, [165], .call 45 ([Operand.tmp 165])⟩,
  ⟨none, some 167, [11], .eff fun e => ret (e 11)⟩,
  ⟨none, some 168, [11], .eff fun e => ret (e 11)⟩,
  ⟨none, some 169, [168], .eff fun e => effIb (BinOp.add) (e 168) (.v (Value.int (IntKind.i64) 1))⟩,
  ⟨none, some 170, [166, 167, 169], .call 50 ([Operand.tmp 166, Operand.tmp 167, Operand.tmp 169])⟩,
  ⟨none, some 24, [170], .eff fun e => ret (e 170)⟩]
noncomputable def p12_r24 : List PI := [
  ⟨none, some 171, [24], .eff fun e => ret (e 24)⟩,
  ⟨none, some 172, [171], .eff fun e => effLenSl (e 171)⟩,
  ⟨none, some 173, [172], .eff fun e => effIb (BinOp.eql) (e 172) (.v (Value.int (IntKind.i64) 0))⟩]
noncomputable def p12_r25 : List PI := [
  ⟨none, some 174, [], .call 16 ([])⟩,
  ⟨none, some 6, [174], .eff fun e => ret (e 174)⟩]
noncomputable def p12_r26 : List PI := [
  ⟨none, some 176, [24], .eff fun e => ret (e 24)⟩,
  ⟨none, some 177, [176], .call 19 ([Operand.tmp 176])⟩,
  ⟨none, some 175, [177], .eff fun e => ret (e 177)⟩,
  ⟨none, some 178, [175], .eff fun e => effExt 0 (e 175)⟩,
  ⟨none, some 179, [175], .eff fun e => effExt 1 (e 175)⟩,
  ⟨none, some 25, [178], .eff fun e => ret (e 178)⟩,
  ⟨none, some 14, [179], .eff fun e => ret (e 179)⟩]
noncomputable def p12_r27 : List PI := [
  ⟨none, some 181, [24], .eff fun e => ret (e 24)⟩,
  ⟨none, some 182, [181], .call 36 ([Operand.tmp 181])⟩,
  ⟨none, some 180, [182], .eff fun e => ret (e 182)⟩,
  ⟨none, some 183, [180], .eff fun e => effExt 0 (e 180)⟩,
  ⟨none, some 184, [180], .eff fun e => effExt 1 (e 180)⟩,
  ⟨none, some 26, [183], .eff fun e => ret (e 183)⟩,
  ⟨none, some 16, [184], .eff fun e => ret (e 184)⟩]
noncomputable def p12_r28 : List PI := [
  ⟨none, some 185, [14], .eff fun e => ret (e 14)⟩,
  ⟨none, some 186, [185], .eff fun e => effIb (BinOp.eql) (e 185) (.v (Value.int (IntKind.i64) 0))⟩,
  ⟨none, some 187, [186], .eff fun e => ret (e 186)⟩,
  ⟨some (187, true), some 188, [16], .eff fun e => ret (e 16)⟩,
  ⟨some (187, true), some 189, [188], .eff fun e => effIb (BinOp.eql) (e 188) (.v (Value.int (IntKind.i64) 0))⟩,
  ⟨none, some 190, [187, 189], .eff fun e => effPick (e 187) (e 189) (.v (Value.bool false))⟩,
  ⟨none, some 191, [190], .eff fun e => ret (e 190)⟩,
  ⟨some (191, true), some 192, [13], .eff fun e => ret (e 13)⟩,
  ⟨some (191, true), some 193, [192], .eff fun e => effNt (e 192)⟩,
  ⟨some (191, true), some 194, [193], .eff fun e => ret (e 193)⟩,
  ⟨some (194, false), some 195, [25], .eff fun e => ret (e 25)⟩,
  ⟨some (191, true), some 196, [194, 195], .eff fun e => effPick (e 194) (.v (Value.bool true)) (e 195)⟩,
  ⟨none, some 197, [191, 196], .eff fun e => effPick (e 191) (e 196) (.v (Value.bool false))⟩,
  ⟨none, some 198, [197], .eff fun e => ret (e 197)⟩,
  ⟨some (198, true), some 199, [26], .eff fun e => ret (e 26)⟩,
  ⟨some (198, true), some 200, [199], .eff fun e => effLenSl (e 199)⟩,
  ⟨some (198, true), some 201, [24], .eff fun e => ret (e 24)⟩,
  ⟨some (198, true), some 202, [201], .eff fun e => effLenSl (e 201)⟩,
  ⟨some (198, true), some 203, [200, 202], .eff fun e => effIb (BinOp.eql) (e 200) (e 202)⟩,
  ⟨none, some 204, [198, 203], .eff fun e => effPick (e 198) (e 203) (.v (Value.bool false))⟩,
  ⟨none, some 205, [204], .eff fun e => ret (e 204)⟩,
  ⟨some (205, true), some 206, [26], .eff fun e => ret (e 26)⟩,
  ⟨some (205, true), some 207, [206], .call 49 ([Operand.tmp 206])⟩,
  ⟨some (205, true), some 208, [21], .eff fun e => ret (e 21)⟩,
  ⟨some (205, true), some 209, [208], .call 49 ([Operand.tmp 208])⟩,
  ⟨some (205, true), some 210, [207, 209], .eff fun e => effIb (BinOp.leq) (e 207) (e 209)⟩,
  ⟨none, some 211, [205, 210], .eff fun e => effPick (e 205) (e 210) (.v (Value.bool false))⟩,
  ⟨none, some 212, [211], .eff fun e => ret (e 211)⟩,
  ⟨some (212, true), some 213, [], .call 16 ([])⟩,
  ⟨none, some 214, [212, 213], .eff fun e => effPick (e 212) (e 213) (.v (Value.bool false))⟩,
  ⟨none, some 6, [214], .eff fun e => ret (e 214)⟩]
noncomputable def p12 : PCode := (.seq (.reg p12_r0 [2, 3, 4]) (.seq (.reg p12_r1 [2, 4, 7]) (.seq (.reg p12_r2 [2, 4, 7, 8]) (.seq (.seq (.reg p12_r3 [2, 4, 7, 8, 32, 33]) (.block 0 (.loop p12_l0))) (.seq (.reg p12_r9 [7, 8, 11]) (.seq (.reg p12_r10 [7, 8, 11, 12]) (.seq (.reg p12_r11 [7, 8, 11, 12]) (.seq (.reg p12_r12 [7, 8, 11, 12, 13, 14]) (.seq (.reg p12_r13 [7, 8, 11, 12, 13, 14, 15, 16]) (.seq (.reg p12_r14 [7, 8, 11, 13, 14, 15, 16, 17, 18]) (.seq (.seq (.reg p12_r15 [7, 8, 11, 13, 107]) (.cond (Operand.tmp 107) (.seq (.reg p12_r16 [6]) .ret) .skip)) (.seq (.reg p12_r17 [7, 8, 11, 13, 14, 19]) (.seq (.reg p12_r18 [7, 8, 11, 13, 14, 16, 19, 20]) (.seq (.reg p12_r19 [7, 8, 11, 13, 14, 16, 18, 19, 20, 21]) (.seq (.reg p12_r20 [7, 11, 13, 14, 16, 18, 19, 20, 21, 22, 23]) (.seq (.seq (.reg p12_r21 [7, 11, 13, 21, 164]) (.cond (Operand.tmp 164) (.seq (.reg p12_r22 [6]) .ret) .skip)) (.seq (.reg p12_r23 [13, 21, 24]) (.seq (.seq (.reg p12_r24 [13, 21, 24, 173]) (.cond (Operand.tmp 173) (.seq (.reg p12_r25 [6]) .ret) .skip)) (.seq (.reg p12_r26 [13, 14, 21, 24, 25]) (.seq (.reg p12_r27 [13, 14, 16, 21, 24, 25, 26]) (.seq (.reg p12_r28 [6]) .ret)))))))))))))))))))))
theorem P12 : PFn Try.prog 12 ⟨p12, [SRes.tmp 6], 215⟩ := ⟨c12, F12, by kernel_rfl⟩
end Go.Sx.Wk
set_option maxRecDepth 100000
namespace Go.Sx.Wk
open Go Go.Sx Go.Proofs

noncomputable def p42_r0 : List PI := [
  ⟨none, some 3, [0], .eff fun e => effBox (e 0)⟩,
  ⟨none, some 6, [], .eff fun e => ret (.v (Value.slice none 0 0))⟩]
noncomputable def p42_r1 : List PI := [
  ⟨none, some 7, [], .eff fun e => ret (.v (Value.slice none 0 0))⟩]
noncomputable def p42_r2 : List PI := [
  ⟨none, some 10, [3], .eff fun e => effOff 1 (e 3)⟩,
  ⟨none, some 11, [3], .eff fun e => effOff 0 (e 3)⟩,
  ⟨none, some 12, [11], .eff fun e => effLoad1 (e 11)⟩,
  ⟨none, some 13, [12], .eff fun e => effCi (IntKind.i64) (e 12)⟩,
  ⟨none, some 14, [1], .eff fun e => ret (e 1)⟩,
  ⟨none, some 15, [13, 14], .eff fun e => effIb (BinOp.rem) (e 13) (e 14)⟩,
  ⟨none, some 16, [15], .eff fun e => effIb (BinOp.add) (.v (Value.int (IntKind.i64) 1)) (e 15)⟩,
  ⟨none, some 17, [10, 16], .eff fun e => effSlcA 4 1 (e 10) none (some (e 16)) none⟩,
  ⟨none, some 18, [17], .eff fun e => effLenSl (e 17)⟩,
  ⟨none, some 19, [], .eff fun e => ret (.v (Value.int (IntKind.i64) 0))⟩]
noncomputable def p42_r3 : List PI := [
  ⟨none, some 20, [19, 18], .eff fun e => effIb (BinOp.lss) (e 19) (e 18)⟩]
noncomputable def p42_r4 : List PI := [
  ⟨none, some 21, [17, 19], .eff fun e => effIdx 1 (e 17) (e 19)⟩,
  ⟨none, some 22, [21], .eff fun e => effLoad1 (e 21)⟩,
  ⟨none, some 9, [22], .eff fun e => ret (e 22)⟩]
noncomputable def p42_r5 : List PI := [
  ⟨none, some 23, [7], .eff fun e => ret (e 7)⟩,
  ⟨none, some 24, [9], .eff fun e => ret (e 9)⟩,
  ⟨none, some 25, [24], .eff fun e => effCi (IntKind.i64) (e 24)⟩,
  ⟨none, some 26, [2], .eff fun e => ret (e 2)⟩,
  ⟨none, some 27, [25, 26], .eff fun e => effIb (BinOp.rem) (e 25) (e 26)⟩,
  ⟨none, some 28, [27], .eff fun e => effIb (BinOp.add) (.v (Value.int (IntKind.i64) 1)) (e 27)⟩,
  ⟨none, some 29, [28], .eff fun e => effMks 1 1 ([Value.int (IntKind.i64) 0]) [(0, 1, (e 28))]⟩,
  ⟨none, some 30, [23, 29], .eff fun e => effApp 1 8 (e 23) (e 29)⟩,
  ⟨none, some 7, [30], .eff fun e => ret (e 30)⟩]
noncomputable def p42_r6 : List PI := [
  ⟨none, some 31, [19], .eff fun e => effIb (BinOp.add) (e 19) (.v (Value.int (IntKind.i64) 1))⟩,
  ⟨none, some 19, [31], .eff fun e => ret (e 31)⟩]
noncomputable def p42_l0 : PCode := (.seq (.reg p42_r3 [2, 7, 17, 18, 19, 20]) (.seq (.cond (Operand.tmp 20) .skip (.exit 0)) (.seq (.block 1 (.seq (.reg p42_r4 [2, 7, 9, 17, 18, 19]) (.reg p42_r5 [2, 7, 17, 18, 19]))) (.reg p42_r6 [2, 7, 17, 18, 19]))))
noncomputable def p42_r7 : List PI := [
  ⟨none, some 32, [7], .eff fun e => ret (e 7)⟩,
  ⟨none, some 6, [32], .eff fun e => ret (e 32)⟩]
noncomputable def p42 : PCode := (.seq (.reg p42_r0 [1, 2, 3]) (.seq (.reg p42_r1 [1, 2, 3, 7]) (.seq (.seq (.reg p42_r2 [2, 7, 17, 18, 19]) (.block 0 (.loop p42_l0))) (.seq (.reg p42_r7 [6]) .ret))))
theorem P42 : PFn Try.prog 42 ⟨p42, [SRes.tmp 6], 33⟩ := ⟨c42, F42, by kernel_rfl⟩
end Go.Sx.Wk
set_option maxRecDepth 100000
namespace Go.Sx.Wk
open Go Go.Sx Go.Proofs

noncomputable def p43_r0 : List PI := [
  ⟨none, some 4, [], .eff fun e => ret (.v (Value.bool false))⟩]
noncomputable def p43_r1 : List PI := [
  ⟨none, some 8, [0], .eff fun e => ret (e 0)⟩,
  ⟨none, some 9, [8], .eff fun e => effLenSl (e 8)⟩,
  ⟨none, some 10, [], .eff fun e => ret (.v (Value.int (IntKind.i64) 0))⟩]
noncomputable def p43_r2 : List PI := [
  ⟨none, some 11, [10, 9], .eff fun e => effIb (BinOp.lss) (e 10) (e 9)⟩]
noncomputable def p43_r3 : List PI := [
  ⟨none, some 12, [10], .eff fun e => ret (e 10)⟩,
  ⟨none, some 13, [8, 10], .eff fun e => effIdx 1 (e 8) (e 10)⟩,
  ⟨none, some 14, [13], .eff fun e => effLoad1 (e 13)⟩,
  ⟨none, some 5, [12], .eff fun e => ret (e 12)⟩,
  ⟨none, some 6, [14], .eff fun e => ret (e 14)⟩]
noncomputable def p43_r4 : List PI := [
  ⟨none, some 7, [], .eff fun e => ret (.v (Value.int (IntKind.i64) 0))⟩]
noncomputable def p43_r5 : List PI := [
  ⟨none, some 15, [7], .eff fun e => ret (e 7)⟩,
  ⟨none, some 16, [6], .eff fun e => ret (e 6)⟩,
  ⟨none, some 17, [15, 16], .eff fun e => effIb (BinOp.add) (e 15) (e 16)⟩,
  ⟨none, some 18, [1], .eff fun e => ret (e 1)⟩,
  ⟨none, some 19, [18], .eff fun e => effLenSl (e 18)⟩,
  ⟨none, some 20, [17, 19], .eff fun e => effIb (BinOp.leq) (e 17) (e 19)⟩]
noncomputable def p43_r6 : List PI := [
  ⟨none, some 23, [1], .eff fun e => ret (e 1)⟩,
  ⟨none, some 24, [7], .eff fun e => ret (e 7)⟩,
  ⟨none, some 25, [7], .eff fun e => ret (e 7)⟩,
  ⟨none, some 26, [6], .eff fun e => ret (e 6)⟩,
  ⟨none, some 27, [25, 26], .eff fun e => effIb (BinOp.add) (e 25) (e 26)⟩,
  ⟨none, some 28, [23, 24, 27], .eff fun e => effSlc 1 (e 23) (some (e 24)) (some (e 27)) none⟩,
  ⟨none, some 29, [5], .eff fun e => ret (e 5)⟩,
  ⟨none, some 30, [28, 29], .call 72 ([Operand.tmp 28, Operand.tmp 29])⟩,
  ⟨none, some 31, [30], .eff fun e => effNt (e 30)⟩]
noncomputable def p43_r7 : List PI := [
  ⟨none, some 4, [], .eff fun e => ret (.v (Value.bool false))⟩]
noncomputable def p43_r8 : List PI := [
  ⟨none, some 21, [7], .eff fun e => ret (e 7)⟩,
  ⟨none, some 22, [21], .eff fun e => effIb (BinOp.add) (e 21) (.v (Value.int (IntKind.i64) 1))⟩,
  ⟨none, some 7, [22], .eff fun e => ret (e 22)⟩]
noncomputable def p43_l0 : PCode := (.seq (.seq (.reg p43_r5 [1, 5, 6, 7, 8, 9, 10, 20]) (.cond (Operand.tmp 20) .skip (.exit 2))) (.seq (.block 3 (.seq (.reg p43_r6 [1, 5, 6, 7, 8, 9, 10, 31]) (.cond (Operand.tmp 31) (.seq (.reg p43_r7 [4]) .ret) .skip))) (.reg p43_r8 [1, 5, 6, 7, 8, 9, 10])))
noncomputable def p43_r9 : List PI := [
  ⟨none, some 32, [10], .eff fun e => effIb (BinOp.add) (e 10) (.v (Value.int (IntKind.i64) 1))⟩,
  ⟨none, some 10, [32], .eff fun e => ret (e 32)⟩]
noncomputable def p43_l1 : PCode := (.seq (.reg p43_r2 [1, 8, 9, 10, 11]) (.seq (.cond (Operand.tmp 11) .skip (.exit 0)) (.seq (.block 1 (.seq (.reg p43_r3 [1, 5, 6, 8, 9, 10]) (.seq (.reg p43_r4 [1, 5, 6, 7, 8, 9, 10]) (.block 2 (.loop p43_l0))))) (.reg p43_r9 [1, 8, 9, 10]))))
noncomputable def p43_r10 : List PI := [
  ⟨none, some 4, [], .eff fun e => ret (.v (Value.bool true))⟩]
noncomputable def p43 : PCode := (.seq (.reg p43_r0 [0, 1]) (.seq (.seq (.reg p43_r1 [1, 8, 9, 10]) (.block 0 (.loop p43_l1))) (.seq (.reg p43_r10 [4]) .ret)))
theorem P43 : PFn Try.prog 43 ⟨p43, [SRes.tmp 4], 33⟩ := ⟨c43, F43, by kernel_rfl⟩
end Go.Sx.Wk
set_option maxRecDepth 100000
namespace Go.Sx.Wk
open Go Go.Sx Go.Proofs

noncomputable def p44_r0 : List PI := [
  ⟨none, some 4, [], .eff fun e => effAlloc ([Value.int (IntKind.i64) 0, Value.int (IntKind.i64) 0, Value.int (IntKind.i64) 0, Value.int (IntKind.i64) 0])⟩]
noncomputable def p44_r1 : List PI := [
  ⟨none, some 5, [], .eff fun e => effAlloc ([Value.int (IntKind.i64) 0, Value.int (IntKind.i64) 0, Value.int (IntKind.i64) 0, Value.int (IntKind.i64) 0])⟩]
noncomputable def p44_r2 : List PI := [
  ⟨none, some 11, [0], .eff fun e => ret (e 0)⟩,
  ⟨none, some 12, [11], .eff fun e => effLenSl (e 11)⟩,
  ⟨none, some 13, [], .eff fun e => ret (.v (Value.int (IntKind.i64) 0))⟩]
noncomputable def p44_r3 : List PI := [
  ⟨none, some 14, [13, 12], .eff fun e => effIb (BinOp.lss) (e 13) (e 12)⟩]
noncomputable def p44_r4 : List PI := [
  ⟨none, some 15, [13], .eff fun e => ret (e 13)⟩,
  ⟨none, some 16, [11, 13], .eff fun e => effIdx 1 (e 11) (e 13)⟩,
  ⟨none, some 17, [16], .eff fun e => effLoad1 (e 16)⟩,
  ⟨none, some 6, [15], .eff fun e => ret (e 15)⟩,
  ⟨none, some 7, [17], .eff fun e => ret (e 17)⟩]
noncomputable def p44_r5 : List PI := [
  ⟨none, some 18, [1], .eff fun e => ret (e 1)⟩,
  ⟨none, some 19, [18], .eff fun e => effLenSl (e 18)⟩,
  ⟨none, some 8, [19], .eff fun e => ret (e 19)⟩]
noncomputable def p44_r6 : List PI := [
  ⟨none, some 20, [1], .eff fun e => ret (e 1)⟩,
  ⟨none, some 21, [20], .eff fun e => effLenSl (e 20)⟩,
  ⟨none, some 22, [], .eff fun e => ret (.v (Value.int (IntKind.i64) 0))⟩]
noncomputable def p44_r7 : List PI := [
  ⟨none, some 23, [22, 21], .eff fun e => effIb (BinOp.lss) (e 22) (e 21)⟩]
noncomputable def p44_r8 : List PI := [
  ⟨none, some 24, [22], .eff fun e => ret (e 22)⟩,
  ⟨none, some 25, [20, 22], .eff fun e => effIdx 1 (e 20) (e 22)⟩,
  ⟨none, some 26, [25], .eff fun e => effLoad1 (e 25)⟩,
  ⟨none, some 9, [24], .eff fun e => ret (e 24)⟩,
  ⟨none, some 10, [26], .eff fun e => ret (e 26)⟩]
noncomputable def p44_r9 : List PI := [
  ⟨none, some 27, [10], .eff fun e => ret (e 10)⟩,
  ⟨none, some 28, [6], .eff fun e => ret (e 6)⟩,
  ⟨none, some 29, [27, 28], .eff fun e => effIb (BinOp.eql) (e 27) (e 28)⟩]
noncomputable def p44_r10 : List PI := [
  ⟨none, some 30, [1], .eff fun e => ret (e 1)⟩,
  ⟨none, some 31, [30], .eff fun e => effLenSl (e 30)⟩,
  ⟨none, some 32, [31], .eff fun e => effIb (BinOp.sub) (e 31) (.v (Value.int (IntKind.i64) 1))⟩,
  ⟨none, some 33, [9], .eff fun e => ret (e 9)⟩,
  ⟨none, some 34, [32, 33], .eff fun e => effIb (BinOp.sub) (e 32) (e 33)⟩,
  ⟨none, some 8, [34], .eff fun e => ret (e 34)⟩]
noncomputable def p44_r11 : List PI := [
  ⟨none, some 35, [22], .eff fun e => effIb (BinOp.add) (e 22) (.v (Value.int (IntKind.i64) 1))⟩,
  ⟨none, some 22, [35], .eff fun e => ret (e 35)⟩]
noncomputable def p44_l0 : PCode := (.seq (.reg p44_r7 [1, 4, 5, 6, 7, 8, 11, 12, 13, 20, 21, 22, 23]) (.seq (.cond (Operand.tmp 23) .skip (.exit 2)) (.seq (.block 3 (.seq (.reg p44_r8 [1, 4, 5, 6, 7, 8, 9, 10, 11, 12, 13, 20, 21, 22]) (.seq (.reg p44_r9 [1, 4, 5, 6, 7, 8, 9, 11, 12, 13, 20, 21, 22, 29]) (.cond (Operand.tmp 29) (.reg p44_r10 [1, 4, 5, 6, 7, 8, 11, 12, 13, 20, 21, 22]) .skip)))) (.reg p44_r11 [1, 4, 5, 6, 7, 8, 11, 12, 13, 20, 21, 22]))))
noncomputable def p44_r12 : List PI := [
  ⟨none, some 36, [6], .eff fun e => ret (e 6)⟩,
  ⟨none, some 37, [7], .eff fun e => ret (e 7)⟩,
  ⟨none, some 38, [8], .eff fun e => ret (e 8)⟩,
  ⟨none, some 39, [37, 38], .eff fun e => effIb (BinOp.sub) (e 37) (e 38)⟩,
  ⟨none, some 40, [5, 36], .eff fun e => effIdxA 4 1 (e 5) (e 36)⟩,
  ⟨none, none, [40, 39], .eff fun e => effStore 1 (e 40) (e 39)⟩]
noncomputable def p44_r13 : List PI := [
  ⟨none, some 41, [13], .eff fun e => effIb (BinOp.add) (e 13) (.v (Value.int (IntKind.i64) 1))⟩,
  ⟨none, some 13, [41], .eff fun e => ret (e 41)⟩]
noncomputable def p44_l1 : PCode := (.seq (.reg p44_r3 [1, 4, 5, 11, 12, 13, 14]) (.seq (.cond (Operand.tmp 14) .skip (.exit 0)) (.seq (.block 1 (.seq (.reg p44_r4 [1, 4, 5, 6, 7, 11, 12, 13]) (.seq (.reg p44_r5 [1, 4, 5, 6, 7, 8, 11, 12, 13]) (.seq (.seq (.reg p44_r6 [1, 4, 5, 6, 7, 8, 11, 12, 13, 20, 21, 22]) (.block 2 (.loop p44_l0))) (.reg p44_r12 [1, 4, 5, 11, 12, 13]))))) (.reg p44_r13 [1, 4, 5, 11, 12, 13]))))
noncomputable def p44_r14 : List PI := [
  ⟨none, some 42, [5], .eff fun e => effLoadN 4 (e 5)⟩,
  ⟨none, none, [4, 42], .eff fun e => effStore 4 (e 4) (e 42)⟩]
noncomputable def p44 : PCode := (.seq (.reg p44_r0 [0, 1, 4]) (.seq (.reg p44_r1 [0, 1, 4, 5]) (.seq (.seq (.reg p44_r2 [1, 4, 5, 11, 12, 13]) (.block 0 (.loop p44_l1))) (.seq (.reg p44_r14 [4]) .ret))))
theorem P44 : PFn Try.prog 44 ⟨p44, [SRes.cell 4 (some 4)], 43⟩ := ⟨c44, F44, by kernel_rfl⟩
end Go.Sx.Wk
set_option maxRecDepth 100000
namespace Go.Sx.Wk
open Go Go.Sx Go.Proofs

noncomputable def p45_r0 : List PI := [
  ⟨none, some 2, [], .eff fun e => ret (.v (Value.slice none 0 0))⟩]
noncomputable def p45_r1 : List PI := [
  ⟨none, some 3, [0], .eff fun e => ret (e 0)⟩,
  ⟨none, some 4, [3], .eff fun e => effEqn false (TypeDesc.slice 3) (e 3)⟩]
noncomputable def p45_r2 : List PI := [
  ⟨none, some 2, [], .eff fun e => ret (.v (Value.slice none 0 0))⟩]
noncomputable def p45_r3 : List PI := [
  ⟨none, some 5, [], .eff fun e => effMks0 1⟩,
  ⟨none, some 6, [0], .eff fun e => ret (e 0)⟩,
  ⟨none, some 7, [5, 6], .eff fun e => effApp 1 8 (e 5) (e 6)⟩,
  ⟨none, some 2, [7], .eff fun e => ret (e 7)⟩]
noncomputable def p45 : PCode := (.seq (.reg p45_r0 [0]) (.seq (.seq (.reg p45_r1 [0, 4]) (.cond (Operand.tmp 4) (.seq (.reg p45_r2 [2]) .ret) .skip)) (.seq (.reg p45_r3 [2]) .ret)))
theorem P45 : PFn Try.prog 45 ⟨p45, [SRes.tmp 2], 8⟩ := ⟨c45, F45, by kernel_rfl⟩
end Go.Sx.Wk
set_option maxRecDepth 100000
namespace Go.Sx.Wk
open Go Go.Sx Go.Proofs

noncomputable def p50_r0 : List PI := [
  ⟨none, some 6, [], .eff fun e => ret (.v (Value.slice none 0 0))⟩]
noncomputable def p50_r1 : List PI := [
  ⟨none, some 8, [0], .eff fun e => ret (e 0)⟩,
  ⟨none, some 9, [1], .eff fun e => ret (e 1)⟩,
  ⟨none, some 10, [2], .eff fun e => ret (e 2)⟩,
  ⟨none, some 11, [0], .eff fun e => ret (e 0)⟩,
  ⟨none, some 12, [11], .eff fun e => effLenSl (e 11)⟩,
  ⟨none, some 13, [8, 9, 10, 12], .eff fun e => effSlc 1 (e 8) (some (e 9)) (some (e 10)) (some (e 12))⟩]
noncomputable def p50_r2 : List PI := [
  ⟨none, some 14, [1], .eff fun e => ret (e 1)⟩,
  ⟨none, some 15, [2], .eff fun e => ret (e 2)⟩,
  ⟨none, some 16, [14, 15], .eff fun e => effIb (BinOp.eql) (e 14) (e 15)⟩]
noncomputable def p50_r3 : List PI := [
  ⟨none, some 17, [0], .eff fun e => ret (e 0)⟩,
  ⟨none, some 6, [17], .eff fun e => ret (e 17)⟩]
noncomputable def p50_r4 : List PI := [
  ⟨none, some 18, [0], .eff fun e => ret (e 0)⟩,
  ⟨none, some 19, [18], .eff fun e => effLenSl (e 18)⟩,
  ⟨none, some 7, [19], .eff fun e => ret (e 19)⟩]
noncomputable def p50_r5 : List PI := [
  ⟨none, some 20, [0], .eff fun e => ret (e 0)⟩,
  ⟨none, some 21, [1], .eff fun e => ret (e 1)⟩,
  ⟨none, some 22, [20, 21], .eff fun e => effSlc 1 (e 20) none (some (e 21)) none⟩,
  ⟨none, some 23, [0], .eff fun e => ret (e 0)⟩,
  ⟨none, some 24, [2], .eff fun e => ret (e 2)⟩,
  ⟨none, some 25, [23, 24], .eff fun e => effSlc 1 (e 23) (some (e 24)) none none⟩,
  ⟨none, some 26, [22, 25], .eff fun e => effApp 1 8 (e 22) (e 25)⟩,
  ⟨none, some 0, [26], .eff fun e => ret (e 26)⟩]
noncomputable def p50_r6 : List PI := [
  ⟨none, some 27, [0], .eff fun e => ret (e 0)⟩,
  ⟨none, some 28, [0], .eff fun e => ret (e 0)⟩,
  ⟨none, some 29, [28], .eff fun e => effLenSl (e 28)⟩,
  ⟨none, some 30, [7], .eff fun e => ret (e 7)⟩,
  ⟨none, some 31, [27, 29, 30], .eff fun e => effSlc 1 (e 27) (some (e 29)) (some (e 30)) none⟩,
  ⟨none, none, [31], .eff fun e => effClear (Value.int (IntKind.i64) 0) (e 31)⟩]
noncomputable def p50_r7 : List PI := [
  ⟨none, some 32, [0], .eff fun e => ret (e 0)⟩,
  ⟨none, some 6, [32], .eff fun e => ret (e 32)⟩]
noncomputable def p50 : PCode := (.seq (.reg p50_r0 [0, 1, 2]) (.seq (.reg p50_r1 [0, 1, 2]) (.seq (.seq (.reg p50_r2 [0, 1, 2, 16]) (.cond (Operand.tmp 16) (.seq (.reg p50_r3 [6]) .ret) .skip)) (.seq (.reg p50_r4 [0, 1, 2, 7]) (.seq (.draw p50_r5 [[], [], [0, 1], [], [], [3, 4], [2, 5, 0, 1, 3, 4], [6, 6, 0, 1, 2, 3, 4, 5, 6, 2, 5, 0, 1, 3, 4, 2, 5, 0, 1, 3, 4, 0, 1, 3, 4, 2, 5, 0, 1, 3, 4]] [0, 7]) (.seq (.reg p50_r6 [0]) (.seq (.reg p50_r7 [6]) .ret)))))))
theorem P50 : PFn Try.prog 50 ⟨p50, [SRes.tmp 6], 33⟩ := ⟨c50, F50, by kernel_rfl⟩
end Go.Sx.Wk
set_option maxRecDepth 100000
namespace Go.Sx.Wk
open Go Go.Sx Go.Proofs

noncomputable def p51_r0 : List PI := [
  ⟨none, some 2, [], .eff fun e => ret (.v (Value.slice none 0 0))⟩]
noncomputable def p51_r1 : List PI := [
  ⟨none, some 3, [], .eff fun e => ret (.v (Value.int (IntKind.i64) 0))⟩]
noncomputable def p51_r2 : List PI := [
  ⟨none, some 9, [0], .eff fun e => ret (e 0)⟩,
  ⟨none, some 10, [9], .eff fun e => effLenSl (e 9)⟩,
  ⟨none, some 11, [], .eff fun e => ret (.v (Value.int (IntKind.i64) 0))⟩]
noncomputable def p51_r3 : List PI := [
  ⟨none, some 12, [11, 10], .eff fun e => effIb (BinOp.lss) (e 11) (e 10)⟩]
noncomputable def p51_r4 : List PI := [
  ⟨none, some 13, [9, 11], .eff fun e => effIdx 1 (e 9) (e 11)⟩,
  ⟨none, some 14, [13], .eff fun e => effLoad1 (e 13)⟩,
  ⟨none, some 5, [14], .eff fun e => ret (e 14)⟩]
noncomputable def p51_r5 : List PI := [
  ⟨none, some 15, [3], .eff fun e => ret (e 3)⟩,
  ⟨none, some 16, [5], .eff fun e => ret (e 5)⟩,
  ⟨none, some 17, [16], .eff fun e => effLenSl (e 16)⟩,
  ⟨none, some 18, [15, 17], .eff fun e => effIb (BinOp.add) (e 15) (e 17)⟩,
  ⟨none, some 3, [18], .eff fun e => ret (e 18)⟩]
noncomputable def p51_r6 : List PI := [
  ⟨none, some 19, [3], .eff fun e => ret (e 3)⟩,
  ⟨none, some 20, [19], .eff fun e => effIb (BinOp.lss) (e 19) (.v (Value.int (IntKind.i64) 0))⟩]
noncomputable def p51_r7 : List PI := [
  ⟨none, some 21, [], .eff fun e => effMkifc 9 (.v (Value.string (⟨#[108, 101, 110, 32, 111, 117, 116, 32, 111, 102, 32, 114, 97, 110, 103, 101]⟩ : ByteArray)))⟩,
  ⟨none, none, [], .eff fun e => none⟩]
noncomputable def p51_r8 : List PI := [
  ⟨none, some 22, [11], .eff fun e => effIb (BinOp.add) (e 11) (.v (Value.int (IntKind.i64) 1))⟩,
  ⟨none, some 11, [22], .eff fun e => ret (e 22)⟩]
noncomputable def p51_l0 : PCode := (.seq (.reg p51_r3 [0, 3, 9, 10, 11, 12]) (.seq (.cond (Operand.tmp 12) .skip (.exit 0)) (.seq (.block 1 (.seq (.reg p51_r4 [0, 3, 5, 9, 10, 11]) (.seq (.reg p51_r5 [0, 3, 9, 10, 11]) (.seq (.reg p51_r6 [0, 3, 9, 10, 11, 20]) (.cond (Operand.tmp 20) (.reg p51_r7 [0, 3, 9, 10, 11]) .skip))))) (.reg p51_r8 [0, 3, 9, 10, 11]))))
noncomputable def p51_r9 : List PI := [
  ⟨none, some 23, [3], .eff fun e => ret (e 3)⟩,
  ⟨none, some 24, [23], .call 76 ([Operand.const (Value.slice none 0 0), Operand.tmp 23])⟩,
  ⟨none, some 6, [24], .eff fun e => ret (e 24)⟩]
noncomputable def p51_r10 : List PI := [
  ⟨none, some 25, [0], .eff fun e => ret (e 0)⟩,
  ⟨none, some 26, [25], .eff fun e => effLenSl (e 25)⟩,
  ⟨none, some 27, [], .eff fun e => ret (.v (Value.int (IntKind.i64) 0))⟩]
noncomputable def p51_r11 : List PI := [
  ⟨none, some 28, [27, 26], .eff fun e => effIb (BinOp.lss) (e 27) (e 26)⟩]
noncomputable def p51_r12 : List PI := [
  ⟨none, some 29, [25, 27], .eff fun e => effIdx 1 (e 25) (e 27)⟩,
  ⟨none, some 30, [29], .eff fun e => effLoad1 (e 29)⟩,
  ⟨none, some 8, [30], .eff fun e => ret (e 30)⟩]
noncomputable def p51_r13 : List PI := [
  ⟨none, some 31, [6], .eff fun e => ret (e 6)⟩,
  ⟨none, some 32, [8], .eff fun e => ret (e 8)⟩,
  ⟨none, some 33, [31, 32], .eff fun e => effApp 1 8 (e 31) (e 32)⟩,
  ⟨none, some 6, [33], .eff fun e => ret (e 33)⟩]
noncomputable def p51_r14 : List PI := [
  ⟨none, some 34, [27], .eff fun e => effIb (BinOp.add) (e 27) (.v (Value.int (IntKind.i64) 1))⟩,
  ⟨none, some 27, [34], .eff fun e => ret (e 34)⟩]
noncomputable def p51_l1 : PCode := (.seq (.reg p51_r11 [6, 25, 26, 27, 28]) (.seq (.cond (Operand.tmp 28) .skip (.exit 2)) (.seq (.block 3 (.seq (.reg p51_r12 [6, 8, 25, 26, 27]) (.reg p51_r13 [6, 25, 26, 27]))) (.reg p51_r14 [6, 25, 26, 27]))))
noncomputable def p51_r15 : List PI := [
  ⟨none, some 35, [6], .eff fun e => ret (e 6)⟩,
  ⟨none, some 2, [35], .eff fun e => ret (e 35)⟩]
noncomputable def p51 : PCode := (.seq (.reg p51_r0 [0]) (.seq (.reg p51_r1 [0, 3]) (.seq (.seq (.reg p51_r2 [0, 3, 9, 10, 11]) (.block 0 (.loop p51_l0))) (.seq (.reg p51_r9 [0, 6]) (.seq (.seq (.reg p51_r10 [6, 25, 26, 27]) (.block 2 (.loop p51_l1))) (.seq (.reg p51_r15 [2]) .ret))))))
theorem P51 : PFn Try.prog 51 ⟨p51, [SRes.tmp 2], 36⟩ := ⟨c51, F51, by kernel_rfl⟩
end Go.Sx.Wk
set_option maxRecDepth 100000
namespace Go.Sx.Wk
open Go Go.Sx Go.Proofs

noncomputable def p52_r0 : List PI := [
  ⟨none, some 4, [0], .eff fun e => ret (e 0)⟩,
  ⟨none, some 5, [4], .eff fun e => effLenSl (e 4)⟩,
  ⟨none, some 6, [5], .eff fun e => effIb (BinOp.sub) (e 5) (.v (Value.int (IntKind.i64) 1))⟩,
  ⟨none, some 2, [], .eff fun e => ret (.v (Value.int (IntKind.i64) 0))⟩,
  ⟨none, some 3, [6], .eff fun e => ret (e 6)⟩]
noncomputable def p52_r1 : List PI := [
  ⟨none, some 7, [2], .eff fun e => ret (e 2)⟩,
  ⟨none, some 8, [3], .eff fun e => ret (e 3)⟩,
  ⟨none, some 9, [7, 8], .eff fun e => effIb (BinOp.lss) (e 7) (e 8)⟩]
noncomputable def p52_r2 : List PI := [
  ⟨none, some 14, [0], .eff fun e => ret (e 0)⟩,
  ⟨none, some 15, [2], .eff fun e => ret (e 2)⟩,
  ⟨none, some 16, [0], .eff fun e => ret (e 0)⟩,
  ⟨none, some 17, [3], .eff fun e => ret (e 3)⟩,
  ⟨none, some 18, [0], .eff fun e => ret (e 0)⟩,
  ⟨none, some 19, [3], .eff fun e => ret (e 3)⟩,
  ⟨none, some 20, [18, 19], .eff fun e => effIdx 1 (e 18) (e 19)⟩,
  ⟨none, some 21, [20], .eff fun e => effLoad1 (e 20)⟩,
  ⟨none, some 22, [0], .eff fun e => ret (e 0)⟩,
  ⟨none, some 23, [2], .eff fun e => ret (e 2)⟩,
  ⟨none, some 24, [22, 23], .eff fun e => effIdx 1 (e 22) (e 23)⟩,
  ⟨none, some 25, [24], .eff fun e => effLoad1 (e 24)⟩,
  ⟨none, some 26, [14, 15], .eff fun e => effIdx 1 (e 14) (e 15)⟩,
  ⟨none, none, [26, 21], .eff fun e => effStore 1 (e 26) (e 21)⟩,
  ⟨none, some 27, [16, 17], .eff fun e => effIdx 1 (e 16) (e 17)⟩,
  ⟨none, none, [27, 25], .eff fun e => effStore 1 (e 27) (e 25)⟩]
noncomputable def p52_r3 : List PI := [
  ⟨none, some 10, [2], .eff fun e => ret (e 2)⟩,
  ⟨none, some 11, [10], .eff fun e => effIb (BinOp.add) (e 10) (.v (Value.int (IntKind.i64) 1))⟩,
  ⟨none, some 12, [3], .eff fun e => ret (e 3)⟩,
  ⟨none, some 13, [12], .eff fun e => effIb (BinOp.sub) (e 12) (.v (Value.int (IntKind.i64) 1))⟩,
  ⟨none, some 2, [11], .eff fun e => ret (e 11)⟩,
  ⟨none, some 3, [13], .eff fun e => ret (e 13)⟩]
noncomputable def p52_l0 : PCode := (.seq (.seq (.reg p52_r1 [0, 2, 3, 9]) (.cond (Operand.tmp 9) .skip (.exit 0))) (.seq (.block 1 (.draw p52_r2 [[], [], [], [], [], [], [4, 5], [6, 4, 5], [], [], [8, 9], [10, 8, 9], [0, 1, 0, 1, 4, 5, 6, 7, 11, 4, 5, 6, 4, 5, 10, 8, 9], [12, 7, 0, 1, 4, 5, 6, 7, 11, 0, 1, 0, 1, 4, 5, 6, 7, 11, 4, 5, 6, 4, 5, 10, 8, 9, 6, 4, 5, 4, 5, 6, 4, 5, 10, 8, 9], [2, 3, 0, 1, 2, 3, 4, 5, 6, 7, 8, 9, 10, 11, 12, 13, 4, 5, 6, 4, 5, 8, 9, 10, 8, 9, 0, 1, 0, 1, 4, 5, 6, 7, 11, 4, 5, 6, 4, 5, 10, 8, 9, 12, 7, 0, 1, 4, 5, 6, 7, 11, 0, 1, 0, 1, 4, 5, 6, 7, 11, 4, 5, 6, 4, 5, 10, 8, 9, 6, 4, 5, 4, 5, 6, 4, 5, 10, 8, 9], [14, 11, 13, 0, 1, 2, 3, 4, 5, 6, 7, 8, 9, 10, 11, 12, 13, 2, 3, 0, 1, 2, 3, 4, 5, 6, 7, 8, 9, 10, 11, 12, 13, 4, 5, 6, 4, 5, 8, 9, 10, 8, 9, 0, 1, 0, 1, 4, 5, 6, 7, 11, 4, 5, 6, 4, 5, 10, 8, 9, 12, 7, 0, 1, 4, 5, 6, 7, 11, 0, 1, 0, 1, 4, 5, 6, 7, 11, 4, 5, 6, 4, 5, 10, 8, 9, 6, 4, 5, 4, 5, 6, 4, 5, 10, 8, 9, 10, 8, 9, 12, 7, 0, 1, 4, 5, 6, 7, 11, 0, 1, 0, 1, 4, 5, 6, 7, 11, 4, 5, 6, 4, 5, 10, 8, 9, 6, 4, 5, 4, 5, 6, 4, 5, 10, 8, 9, 4, 5, 6, 4, 5, 8, 9, 10, 8, 9, 0, 1, 0, 1, 4, 5, 6, 7, 11, 4, 5, 6, 4, 5, 10, 8, 9, 12, 7, 0, 1, 4, 5, 6, 7, 11, 0, 1, 0, 1, 4, 5, 6, 7, 11, 4, 5, 6, 4, 5, 10, 8, 9, 6, 4, 5, 4, 5, 6, 4, 5, 10, 8, 9]] [0, 2, 3])) (.reg p52_r3 [0, 2, 3])))
noncomputable def p52 : PCode := (.seq (.reg p52_r0 [0, 2, 3]) (.block 0 (.loop p52_l0)))
theorem P52 : PFn Try.prog 52 ⟨p52, [], 28⟩ := ⟨c52, F52, by kernel_rfl⟩
end Go.Sx.Wk
set_option maxRecDepth 100000
namespace Go.Sx.Wk
open Go Go.Sx Go.Proofs

noncomputable def p72_r0 : List PI := [
  ⟨none, some 4, [], .eff fun e => ret (.v (Value.bool false))⟩]
noncomputable def p72_r1 : List PI := [
  ⟨none, some 5, [0], .eff fun e => ret (e 0)⟩,
  ⟨none, some 6, [1], .eff fun e => ret (e 1)⟩,
  ⟨none, some 7, [5, 6], .call 67 ([Operand.tmp 5, Operand.tmp 6])⟩,
  ⟨none, some 8, [7], .eff fun e => effIb (BinOp.geq) (e 7) (.v (Value.int (IntKind.i64) 0))⟩,
  ⟨none, some 4, [8], .eff fun e => ret (e 8)⟩]
noncomputable def p72 : PCode := (.seq (.reg p72_r0 [0, 1]) (.seq (.reg p72_r1 [4]) .ret))
theorem P72 : PFn Try.prog 72 ⟨p72, [SRes.tmp 4], 9⟩ := ⟨c72, F72, by kernel_rfl⟩
end Go.Sx.Wk
