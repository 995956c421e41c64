/- The codes of the functions, written by a program (Gen.lean), and that they are the functions'. No conditions. -/
import Derived.Test.YtmakepdccccmaaaSxJWd14toWd72
import Derived.KernelRfl
set_option linter.unusedVariables false
set_option maxRecDepth 100000
namespace Go.Sx.Wk
open Go Go.Sx Go.Proofs

noncomputable def p14_r0 : List PI := [
  ⟨none, some 1, [0], .eff fun e => effBox (e 0)⟩,
  ⟨none, some 2, [], .eff fun e => ret (.v (Value.bool false))⟩]
noncomputable def p14_r1 : List PI := [
  ⟨none, some 21, [1], .eff fun e => effLoadN 5 (e 1)⟩,
  ⟨none, some 22, [21], .call 42 ([Operand.tmp 21, Operand.const (Value.int (IntKind.i64) 4), Operand.const (Value.int (IntKind.i64) 8)])⟩,
  ⟨none, some 3, [22], .eff fun e => ret (e 22)⟩]
noncomputable def p14_r2 : List PI := [
  ⟨none, some 24, [3], .eff fun e => ret (e 3)⟩,
  ⟨none, some 25, [24], .call 17 ([Operand.tmp 24])⟩,
  ⟨none, some 23, [25], .eff fun e => ret (e 25)⟩,
  ⟨none, some 26, [23], .eff fun e => effExt 0 (e 23)⟩,
  ⟨none, some 27, [23], .eff fun e => effExt 1 (e 23)⟩,
  ⟨none, some 28, [23], .eff fun e => effExt 2 (e 23)⟩,
  ⟨none, some 4, [26], .eff fun e => ret (e 26)⟩,
  ⟨none, some 5, [27], .eff fun e => ret (e 27)⟩,
  ⟨none, some 6, [28], .eff fun e => ret (e 28)⟩]
noncomputable def p14_r3 : List PI := [
  ⟨none, some 30, [3], .eff fun e => ret (e 3)⟩,
  ⟨none, some 31, [30], .call 19 ([Operand.tmp 30])⟩,
  ⟨none, some 29, [31], .eff fun e => ret (e 31)⟩,
  ⟨none, some 32, [29], .eff fun e => effExt 0 (e 29)⟩,
  ⟨none, some 33, [29], .eff fun e => effExt 1 (e 29)⟩,
  ⟨none, some 7, [32], .eff fun e => ret (e 32)⟩,
  ⟨none, some 8, [33], .eff fun e => ret (e 33)⟩]
noncomputable def p14_r4 : List PI := [
  ⟨none, some 35, [3], .eff fun e => ret (e 3)⟩,
  ⟨none, some 36, [35], .call 21 ([Operand.tmp 35])⟩,
  ⟨none, some 34, [36], .eff fun e => ret (e 36)⟩,
  ⟨none, some 37, [34], .eff fun e => effExt 0 (e 34)⟩,
  ⟨none, some 38, [34], .eff fun e => effExt 1 (e 34)⟩,
  ⟨none, some 9, [37], .eff fun e => ret (e 37)⟩,
  ⟨none, some 10, [38], .eff fun e => ret (e 38)⟩]
noncomputable def p14_r5 : List PI := [
  ⟨none, some 39, [6], .eff fun e => ret (e 6)⟩,
  ⟨none, some 40, [39], .eff fun e => effIb (BinOp.neq) (e 39) (.v (Value.int (IntKind.i64) 0))⟩,
  ⟨none, some 41, [40], .eff fun e => ret (e 40)⟩,
  ⟨some (41, false), some 42, [8], .eff fun e => ret (e 8)⟩,
  ⟨some (41, false), some 43, [42], .eff fun e => effIb (BinOp.neq) (e 42) (.v (Value.int (IntKind.i64) 0))⟩,
  ⟨none, some 44, [41, 43], .eff fun e => effPick (e 41) (.v (Value.bool true)) (e 43)⟩,
  ⟨none, some 45, [44], .eff fun e => ret (e 44)⟩,
  ⟨some (45, false), some 46, [4], .eff fun e => ret (e 4)⟩,
  ⟨some (45, false), some 47, [46], .eff fun e => effIb (BinOp.lss) (e 46) (.v (Value.int (IntKind.i64) 1))⟩,
  ⟨none, some 48, [45, 47], .eff fun e => effPick (e 45) (.v (Value.bool true)) (e 47)⟩,
  ⟨none, some 49, [48], .eff fun e => ret (e 48)⟩,
  ⟨some (49, false), some 50, [5], .eff fun e => ret (e 5)⟩,
  ⟨some (49, false), some 51, [50], .eff fun e => effIb (BinOp.lss) (e 50) (.v (Value.int (IntKind.i64) 1))⟩,
  ⟨none, some 52, [49, 51], .eff fun e => effPick (e 49) (.v (Value.bool true)) (e 51)⟩,
  ⟨none, some 53, [52], .eff fun e => ret (e 52)⟩,
  ⟨some (53, false), some 54, [4], .eff fun e => ret (e 4)⟩,
  ⟨some (53, false), some 55, [5], .eff fun e => ret (e 5)⟩,
  ⟨some (53, false), some 56, [55], .eff fun e => effIb (BinOp.mul) (.v (Value.int (IntKind.i64) 4)) (e 55)⟩,
  ⟨some (53, false), some 57, [54, 56], .eff fun e => effIb (BinOp.gtr) (e 54) (e 56)⟩,
  ⟨none, some 58, [53, 57], .eff fun e => effPick (e 53) (.v (Value.bool true)) (e 57)⟩,
  ⟨none, some 59, [58], .eff fun e => ret (e 58)⟩,
  ⟨some (59, false), some 60, [5], .eff fun e => ret (e 5)⟩,
  ⟨some (59, false), some 61, [60], .eff fun e => effIb (BinOp.gtr) (e 60) (.v (Value.int (IntKind.i64) 840))⟩,
  ⟨none, some 62, [59, 61], .eff fun e => effPick (e 59) (.v (Value.bool true)) (e 61)⟩,
  ⟨none, some 63, [62], .eff fun e => ret (e 62)⟩,
  ⟨some (63, false), some 64, [5], .eff fun e => ret (e 5)⟩,
  ⟨some (63, false), some 65, [64], .eff fun e => effIb (BinOp.rem) (.v (Value.int (IntKind.i64) 840)) (e 64)⟩,
  ⟨some (63, false), some 66, [65], .eff fun e => effIb (BinOp.neq) (e 65) (.v (Value.int (IntKind.i64) 0))⟩,
  ⟨none, some 67, [63, 66], .eff fun e => effPick (e 63) (.v (Value.bool true)) (e 66)⟩,
  ⟨none, some 68, [67], .eff fun e => ret (e 67)⟩,
  ⟨some (68, false), some 69, [3], .eff fun e => ret (e 3)⟩,
  ⟨some (68, false), some 70, [4], .eff fun e => ret (e 4)⟩,
  ⟨some (68, false), some 71, [5], .eff fun e => ret (e 5)⟩,
  ⟨some (68, false), some 72, [69, 70, 71], .call 38 ([Operand.tmp 69, Operand.tmp 70, Operand.tmp 71])⟩,
  ⟨some (68, false), some 73, [72], .eff fun e => effIb (BinOp.neq) (e 72) (.v (Value.int (IntKind.i64) 0))⟩,
  ⟨none, some 74, [68, 73], .eff fun e => effPick (e 68) (.v (Value.bool true)) (e 73)⟩]
noncomputable def p14_r6 : List PI := [
  ⟨none, some 2, [], .eff fun e => ret (.v (Value.bool false))⟩]
noncomputable def p14_r7 : List PI := [
  ⟨none, some 11, [], .eff fun e => ret (.v (Value.int (IntKind.i64) 2))⟩]
noncomputable def p14_r8 : List PI := [
  ⟨none, some 75, [11], .eff fun e => ret (e 11)⟩,
  ⟨none, some 76, [5], .eff fun e => ret (e 5)⟩,
  ⟨none, some 77, [75, 76], .eff fun e => effIb (BinOp.leq) (e 75) (e 76)⟩]
noncomputable def p14_r9 : List PI := [
  ⟨none, some 80, [4], .eff fun e => ret (e 4)⟩,
  ⟨none, some 81, [11], .eff fun e => ret (e 11)⟩,
  ⟨none, some 82, [80, 81], .eff fun e => effIb (BinOp.rem) (e 80) (e 81)⟩,
  ⟨none, some 83, [82], .eff fun e => effIb (BinOp.eql) (e 82) (.v (Value.int (IntKind.i64) 0))⟩,
  ⟨none, some 84, [83], .eff fun e => ret (e 83)⟩,
  ⟨some (84, true), some 85, [5], .eff fun e => ret (e 5)⟩,
  ⟨some (84, true), some 86, [11], .eff fun e => ret (e 11)⟩,
  ⟨some (84, true), some 87, [85, 86], .eff fun e => effIb (BinOp.rem) (e 85) (e 86)⟩,
  ⟨some (84, true), some 88, [87], .eff fun e => effIb (BinOp.eql) (e 87) (.v (Value.int (IntKind.i64) 0))⟩,
  ⟨none, some 89, [84, 88], .eff fun e => effPick (e 84) (e 88) (.v (Value.bool false))⟩]
noncomputable def p14_r10 : List PI := [
  ⟨none, some 2, [], .eff fun e => ret (.v (Value.bool false))⟩]
noncomputable def p14_r11 : List PI := [
  ⟨none, some 78, [11], .eff fun e => ret (e 11)⟩,
  ⟨none, some 79, [78], .eff fun e => effIb (BinOp.add) (e 78) (.v (Value.int (IntKind.i64) 1))⟩,
  ⟨none, some 11, [79], .eff fun e => ret (e 79)⟩]
noncomputable def p14_l0 : PCode := (.seq (.seq (.reg p14_r8 [3, 4, 5, 7, 9, 10, 11, 77]) (.cond (Operand.tmp 77) .skip (.exit 0))) (.seq (.block 1 (.seq (.reg p14_r9 [3, 4, 5, 7, 9, 10, 11, 89]) (.cond (Operand.tmp 89) (.seq (.reg p14_r10 [2]) .ret) .skip))) (.reg p14_r11 [3, 4, 5, 7, 9, 10, 11])))
noncomputable def p14_r12 : List PI := [
  ⟨none, some 90, [3], .eff fun e => ret (e 3)⟩,
  ⟨none, some 91, [90], .call 38 ([Operand.tmp 90, Operand.const (Value.int (IntKind.i64) 1), Operand.const (Value.int (IntKind.i64) 1)])⟩,
  ⟨none, some 92, [91], .eff fun e => effIb (BinOp.gtr) (e 91) (.v (Value.int (IntKind.i64) 0))⟩,
  ⟨none, some 93, [92], .eff fun e => ret (e 92)⟩,
  ⟨some (93, true), some 94, [7], .eff fun e => ret (e 7)⟩,
  ⟨none, some 95, [93, 94], .eff fun e => effPick (e 93) (e 94) (.v (Value.bool false))⟩,
  ⟨none, some 96, [95], .eff fun e => ret (e 95)⟩,
  ⟨some (96, false), some 97, [3], .eff fun e => ret (e 3)⟩,
  ⟨some (96, false), some 98, [97], .call 38 ([Operand.tmp 97, Operand.const (Value.int (IntKind.i64) 5), Operand.const (Value.int (IntKind.i64) 6)])⟩,
  ⟨some (96, false), some 99, [98], .eff fun e => effIb (BinOp.leq) (e 98) (.v (Value.int (IntKind.i64) 0))⟩,
  ⟨some (96, false), some 100, [99], .eff fun e => ret (e 99)⟩,
  ⟨some (100, true), some 101, [7], .eff fun e => ret (e 7)⟩,
  ⟨some (100, true), some 102, [101], .eff fun e => effNt (e 101)⟩,
  ⟨some (96, false), some 103, [100, 102], .eff fun e => effPick (e 100) (e 102) (.v (Value.bool false))⟩,
  ⟨none, some 104, [96, 103], .eff fun e => effPick (e 96) (.v (Value.bool true)) (e 103)⟩]
noncomputable def p14_r13 : List PI := [
  ⟨none, some 2, [], .eff fun e => ret (.v (Value.bool false))⟩]
noncomputable def p14_r14 : List PI := [
  ⟨none, some 106, [3], .eff fun e => ret (e 3)⟩,
  ⟨none, some 107, [106], .call 32 ([Operand.tmp 106, Operand.const (Value.int (IntKind.i64) 60)])⟩,
  ⟨none, some 105, [107], .eff fun e => ret (e 107)⟩,
  ⟨none, some 108, [105], .eff fun e => effExt 0 (e 105)⟩,
  ⟨none, some 109, [105], .eff fun e => effExt 1 (e 105)⟩,
  ⟨none, some 12, [108], .eff fun e => ret (e 108)⟩,
  ⟨none, some 13, [109], .eff fun e => ret (e 109)⟩]
noncomputable def p14_r15 : List PI := [
  ⟨none, some 111, [3], .eff fun e => ret (e 3)⟩,
  ⟨none, some 112, [111], .call 34 ([Operand.tmp 111])⟩,
  ⟨none, some 110, [112], .eff fun e => ret (e 112)⟩,
  ⟨none, some 113, [110], .eff fun e => effExt 0 (e 110)⟩,
  ⟨none, some 114, [110], .eff fun e => effExt 1 (e 110)⟩,
  ⟨none, some 115, [110], .eff fun e => effExt 2 (e 110)⟩,
  ⟨none, some 14, [113], .eff fun e => ret (e 113)⟩,
  ⟨none, some 15, [114], .eff fun e => ret (e 114)⟩,
  ⟨none, some 16, [115], .eff fun e => ret (e 115)⟩]
noncomputable def p14_r16 : List PI := [
  ⟨none, some 116, [7], .eff fun e => ret (e 7)⟩,
  ⟨none, some 117, [116], .eff fun e => effNt (e 116)⟩]
noncomputable def p14_r17 : List PI := [
  ⟨none, some 118, [10], .eff fun e => ret (e 10)⟩,
  ⟨none, some 119, [118], .eff fun e => effIb (BinOp.eql) (e 118) (.v (Value.int (IntKind.i64) 0))⟩,
  ⟨none, some 120, [119], .eff fun e => ret (e 119)⟩,
  ⟨some (120, true), some 121, [9], .eff fun e => ret (e 9)⟩,
  ⟨some (120, true), some 122, [121], .eff fun e => effIb (BinOp.geq) (e 121) (.v (Value.int (IntKind.i64) 0))⟩,
  ⟨none, some 123, [120, 122], .eff fun e => effPick (e 120) (e 122) (.v (Value.bool false))⟩,
  ⟨none, some 124, [123], .eff fun e => ret (e 123)⟩,
  ⟨some (124, true), some 125, [13], .eff fun e => ret (e 13)⟩,
  ⟨some (124, true), some 126, [125], .eff fun e => effIb (BinOp.eql) (e 125) (.v (Value.int (IntKind.i64) 12))⟩,
  ⟨none, some 127, [124, 126], .eff fun e => effPick (e 124) (e 126) (.v (Value.bool false))⟩,
  ⟨none, some 128, [127], .eff fun e => ret (e 127)⟩,
  ⟨some (128, true), some 129, [16], .eff fun e => ret (e 16)⟩,
  ⟨some (128, true), some 130, [129], .eff fun e => effIb (BinOp.eql) (e 129) (.v (Value.int (IntKind.i64) 12))⟩,
  ⟨none, some 131, [128, 130], .eff fun e => effPick (e 128) (e 130) (.v (Value.bool false))⟩,
  ⟨none, some 132, [131], .eff fun e => ret (e 131)⟩,
  ⟨some (132, true), some 133, [12], .eff fun e => ret (e 12)⟩,
  ⟨some (132, true), some 134, [133], .eff fun e => effLenSl (e 133)⟩,
  ⟨some (132, true), some 135, [14], .eff fun e => ret (e 14)⟩,
  ⟨some (132, true), some 136, [135], .eff fun e => effLenSl (e 135)⟩,
  ⟨some (132, true), some 137, [134, 136], .eff fun e => effIb (BinOp.add) (e 134) (e 136)⟩,
  ⟨some (132, true), some 138, [15], .eff fun e => ret (e 15)⟩,
  ⟨some (132, true), some 139, [138], .eff fun e => effLenSl (e 138)⟩,
  ⟨some (132, true), some 140, [137, 139], .eff fun e => effIb (BinOp.add) (e 137) (e 139)⟩,
  ⟨some (132, true), some 141, [140], .eff fun e => effIb (BinOp.eql) (e 140) (.v (Value.int (IntKind.i64) 0))⟩,
  ⟨none, some 142, [132, 141], .eff fun e => effPick (e 132) (e 141) (.v (Value.bool false))⟩,
  ⟨none, some 143, [142], .eff fun e => ret (e 142)⟩,
  ⟨some (143, true), some 144, [], .call 16 ([])⟩,
  ⟨none, some 145, [143, 144], .eff fun e => effPick (e 143) (e 144) (.v (Value.bool false))⟩,
  ⟨none, some 2, [145], .eff fun e => ret (e 145)⟩]
noncomputable def p14_r18 : List PI := [
  ⟨none, some 146, [10], .eff fun e => ret (e 10)⟩,
  ⟨none, some 147, [146], .eff fun e => effIb (BinOp.neq) (e 146) (.v (Value.int (IntKind.i64) 13))⟩,
  ⟨none, some 148, [147], .eff fun e => ret (e 147)⟩,
  ⟨some (148, false), some 149, [9], .eff fun e => ret (e 9)⟩,
  ⟨some (148, false), some 150, [149], .eff fun e => effIb (BinOp.neq) (e 149) (.v (Value.int (IntKind.i64) 0))⟩,
  ⟨none, some 151, [148, 150], .eff fun e => effPick (e 148) (.v (Value.bool true)) (e 150)⟩,
  ⟨none, some 152, [151], .eff fun e => ret (e 151)⟩,
  ⟨some (152, false), some 153, [13], .eff fun e => ret (e 13)⟩,
  ⟨some (152, false), some 154, [153], .eff fun e => effIb (BinOp.neq) (e 153) (.v (Value.int (IntKind.i64) 0))⟩,
  ⟨none, some 155, [152, 154], .eff fun e => effPick (e 152) (.v (Value.bool true)) (e 154)⟩,
  ⟨none, some 156, [155], .eff fun e => ret (e 155)⟩,
  ⟨some (156, false), some 157, [16], .eff fun e => ret (e 16)⟩,
  ⟨some (156, false), some 158, [157], .eff fun e => effIb (BinOp.neq) (e 157) (.v (Value.int (IntKind.i64) 0))⟩,
  ⟨none, some 159, [156, 158], .eff fun e => effPick (e 156) (.v (Value.bool true)) (e 158)⟩,
  ⟨none, some 160, [159], .eff fun e => ret (e 159)⟩,
  ⟨some (160, false), some 161, [12], .eff fun e => ret (e 12)⟩,
  ⟨some (160, false), some 162, [161], .eff fun e => effLenSl (e 161)⟩,
  ⟨some (160, false), some 163, [162], .eff fun e => effIb (BinOp.neq) (e 162) (.v (Value.int (IntKind.i64) 60))⟩,
  ⟨none, some 164, [160, 163], .eff fun e => effPick (e 160) (.v (Value.bool true)) (e 163)⟩,
  ⟨none, some 165, [164], .eff fun e => ret (e 164)⟩,
  ⟨some (165, false), some 166, [3], .eff fun e => ret (e 3)⟩,
  ⟨some (165, false), some 167, [12], .eff fun e => ret (e 12)⟩,
  ⟨some (165, false), some 168, [166, 167], .call 43 ([Operand.tmp 166, Operand.tmp 167])⟩,
  ⟨some (165, false), some 169, [168], .eff fun e => effNt (e 168)⟩,
  ⟨none, some 170, [165, 169], .eff fun e => effPick (e 165) (.v (Value.bool true)) (e 169)⟩,
  ⟨none, some 171, [170], .eff fun e => ret (e 170)⟩,
  ⟨some (171, false), some 172, [15], .eff fun e => ret (e 15)⟩,
  ⟨some (171, false), some 173, [172], .eff fun e => effLenSl (e 172)⟩,
  ⟨some (171, false), some 174, [173], .eff fun e => effIb (BinOp.eql) (e 173) (.v (Value.int (IntKind.i64) 0))⟩,
  ⟨none, some 175, [171, 174], .eff fun e => effPick (e 171) (.v (Value.bool true)) (e 174)⟩]
noncomputable def p14_r19 : List PI := [
  ⟨none, some 2, [], .eff fun e => ret (.v (Value.bool false))⟩]
noncomputable def p14_r20 : List PI := [
  ⟨none, some 176, [12], .eff fun e => ret (e 12)⟩,
  ⟨none, some 177, [176], .eff fun e => effLenSl (e 176)⟩,
  ⟨none, some 178, [], .eff fun e => ret (.v (Value.int (IntKind.i64) 0))⟩]
noncomputable def p14_r21 : List PI := [
  ⟨none, some 179, [178, 177], .eff fun e => effIb (BinOp.lss) (e 178) (e 177)⟩]
noncomputable def p14_r22 : List PI := [
  ⟨none, some 180, [178], .eff fun e => ret (e 178)⟩,
  ⟨none, some 181, [176, 178], .eff fun e => effIdx 1 (e 176) (e 178)⟩,
  ⟨none, some 182, [181], .eff fun e => effLoad1 (e 181)⟩,
  ⟨none, some 17, [180], .eff fun e => ret (e 180)⟩,
  ⟨none, some 18, [182], .eff fun e => ret (e 182)⟩]
noncomputable def p14_r23 : List PI := [
  ⟨none, some 183, [17], .eff fun e => ret (e 17)⟩,
  ⟨none, some 19, [183], .eff fun e => ret (e 183)⟩]
noncomputable def p14_r24 : List PI := [
  ⟨none, some 184, [17], .eff fun e => ret (e 17)⟩,
  ⟨none, some 185, [14], .eff fun e => ret (e 14)⟩,
  ⟨none, some 186, [185], .eff fun e => effLenSl (e 185)⟩,
  ⟨none, some 187, [184, 186], .eff fun e => effIb (BinOp.geq) (e 184) (e 186)⟩]
noncomputable def p14_r25 : List PI := [
  ⟨none, some 188, [17], .eff fun e => ret (e 17)⟩,
  ⟨none, some 189, [14], .eff fun e => ret (e 14)⟩,
  ⟨none, some 190, [189], .eff fun e => effLenSl (e 189)⟩,
  ⟨none, some 191, [188, 190], .eff fun e => effIb (BinOp.sub) (e 188) (e 190)⟩,
  ⟨none, some 192, [15], .eff fun e => ret (e 15)⟩,
  ⟨none, some 193, [192], .eff fun e => effLenSl (e 192)⟩,
  ⟨none, some 194, [191, 193], .eff fun e => effIb (BinOp.rem) (e 191) (e 193)⟩,
  ⟨none, some 19, [194], .eff fun e => ret (e 194)⟩]
noncomputable def p14_r26 : List PI := [
  ⟨none, some 195, [18], .eff fun e => ret (e 18)⟩,
  ⟨none, some 196, [15], .eff fun e => ret (e 15)⟩,
  ⟨none, some 197, [19], .eff fun e => ret (e 19)⟩,
  ⟨none, some 198, [196, 197], .eff fun e => effIdx 1 (e 196) (e 197)⟩,
  ⟨none, some 199, [198], .eff fun e => effLoad1 (e 198)⟩,
  ⟨none, some 200, [195, 199], .eff fun e => effIb (BinOp.neq) (e 195) (e 199)⟩]
noncomputable def p14_r27 : List PI := [
  ⟨none, some 2, [], .eff fun e => ret (.v (Value.bool false))⟩]
noncomputable def p14_r28 : List PI := [
  ⟨none, some 201, [18], .eff fun e => ret (e 18)⟩,
  ⟨none, some 202, [14], .eff fun e => ret (e 14)⟩,
  ⟨none, some 203, [19], .eff fun e => ret (e 19)⟩,
  ⟨none, some 204, [202, 203], .eff fun e => effIdx 1 (e 202) (e 203)⟩,
  ⟨none, some 205, [204], .eff fun e => effLoad1 (e 204)⟩,
  ⟨none, some 206, [201, 205], .eff fun e => effIb (BinOp.neq) (e 201) (e 205)⟩]
noncomputable def p14_r29 : List PI := [
  ⟨none, some 2, [], .eff fun e => ret (.v (Value.bool false))⟩]
noncomputable def p14_r30 : List PI := [
  ⟨none, some 207, [178], .eff fun e => effIb (BinOp.add) (e 178) (.v (Value.int (IntKind.i64) 1))⟩,
  ⟨none, some 178, [207], .eff fun e => ret (e 207)⟩]
noncomputable def p14_l1 : PCode := (.seq (.reg p14_r21 [3, 14, 15, 176, 177, 178, 179]) (.seq (.cond (Operand.tmp 179) .skip (.exit 2)) (.seq (.block 3 (.seq (.reg p14_r22 [3, 14, 15, 17, 18, 176, 177, 178]) (.seq (.reg p14_r23 [3, 14, 15, 17, 18, 19, 176, 177, 178]) (.seq (.reg p14_r24 [3, 14, 15, 17, 18, 19, 176, 177, 178, 187]) (.cond (Operand.tmp 187) (.seq (.reg p14_r25 [3, 14, 15, 18, 19, 176, 177, 178]) (.seq (.reg p14_r26 [3, 14, 15, 176, 177, 178, 200]) (.cond (Operand.tmp 200) (.seq (.reg p14_r27 [2]) .ret) .skip))) (.seq (.reg p14_r28 [3, 14, 15, 176, 177, 178, 206]) (.cond (Operand.tmp 206) (.seq (.reg p14_r29 [2]) .ret) .skip))))))) (.reg p14_r30 [3, 14, 15, 176, 177, 178]))))
noncomputable def p14_r31 : List PI := [
  ⟨none, some 208, [14], .eff fun e => ret (e 14)⟩,
  ⟨none, some 209, [15], .eff fun e => ret (e 15)⟩,
  ⟨none, some 210, [15], .eff fun e => ret (e 15)⟩,
  ⟨none, some 211, [15], .eff fun e => ret (e 15)⟩,
  ⟨none, some 212, [15], .eff fun e => ret (e 15)⟩,
  ⟨none, some 213, [15], .eff fun e => ret (e 15)⟩,
  ⟨none, some 214, [15], .eff fun e => ret (e 15)⟩,
  ⟨none, some 215, [15], .eff fun e => ret (e 15)⟩,
  ⟨none, some 216, [15], .eff fun e => ret (e 15)⟩,
  ⟨none, some 217, [15], .eff fun e => ret (e 15)⟩,
  ⟨none, some 218, [208, 209, 210, 211, 212, 213, 214, 215, 216, 217], .eff fun e => effMks 10 1 ([Value.slice none 0 0, Value.slice none 0 0, Value.slice none 0 0, Value.slice none 0 0, Value.slice none 0 0, Value.slice none 0 0, Value.slice none 0 0, Value.slice none 0 0, Value.slice none 0 0, Value.slice none 0 0]) [(0, 1, (e 208)), (1, 1, (e 209)), (2, 1, (e 210)), (3, 1, (e 211)), (4, 1, (e 212)), (5, 1, (e 213)), (6, 1, (e 214)), (7, 1, (e 215)), (8, 1, (e 216)), (9, 1, (e 217))]⟩,
  ⟨none, some 219, [218], .call 51 ([Operand.tmp 218])⟩,
  ⟨none, some 20, [219], .eff fun e => ret (e 219)⟩]
noncomputable def p14_r32 : List PI := [
  ⟨none, some 220, [3], .eff fun e => ret (e 3)⟩,
  ⟨none, some 221, [20], .eff fun e => ret (e 20)⟩,
  ⟨none, some 222, [220, 221], .call 43 ([Operand.tmp 220, Operand.tmp 221])⟩,
  ⟨none, some 223, [222], .eff fun e => ret (e 222)⟩,
  ⟨some (223, true), some 224, [15], .eff fun e => ret (e 15)⟩,
  ⟨some (223, true), some 225, [224], .eff fun e => effLenSl (e 224)⟩,
  ⟨some (223, true), some 226, [225], .eff fun e => effIb (BinOp.gtr) (e 225) (.v (Value.int (IntKind.i64) 60))⟩,
  ⟨some (223, true), some 227, [226], .eff fun e => ret (e 226)⟩,
  ⟨some (227, false), some 228, [3], .eff fun e => ret (e 3)⟩,
  ⟨some (227, false), some 229, [15], .eff fun e => ret (e 15)⟩,
  ⟨some (227, false), some 230, [228, 229], .call 30 ([Operand.tmp 228, Operand.tmp 229])⟩,
  ⟨some (227, false), some 231, [230], .eff fun e => effIb (BinOp.eql) (e 230) (.v (Value.int (IntKind.i64) 0))⟩,
  ⟨some (223, true), some 232, [227, 231], .eff fun e => effPick (e 227) (.v (Value.bool true)) (e 231)⟩,
  ⟨none, some 233, [223, 232], .eff fun e => effPick (e 223) (e 232) (.v (Value.bool false))⟩,
  ⟨none, some 234, [233], .eff fun e => ret (e 233)⟩,
  ⟨some (234, true), some 235, [], .call 16 ([])⟩,
  ⟨none, some 236, [234, 235], .eff fun e => effPick (e 234) (e 235) (.v (Value.bool false))⟩,
  ⟨none, some 2, [236], .eff fun e => ret (e 236)⟩]
noncomputable def p14 : PCode := (.seq (.reg p14_r0 [1]) (.seq (.reg p14_r1 [3]) (.seq (.reg p14_r2 [3, 4, 5, 6]) (.seq (.reg p14_r3 [3, 4, 5, 6, 7, 8]) (.seq (.reg p14_r4 [3, 4, 5, 6, 7, 8, 9, 10]) (.seq (.seq (.reg p14_r5 [3, 4, 5, 7, 9, 10, 74]) (.cond (Operand.tmp 74) (.seq (.reg p14_r6 [2]) .ret) .skip)) (.seq (.seq (.reg p14_r7 [3, 4, 5, 7, 9, 10, 11]) (.block 0 (.loop p14_l0))) (.seq (.seq (.reg p14_r12 [3, 7, 9, 10, 104]) (.cond (Operand.tmp 104) (.seq (.reg p14_r13 [2]) .ret) .skip)) (.seq (.reg p14_r14 [3, 7, 9, 10, 12, 13]) (.seq (.reg p14_r15 [3, 7, 9, 10, 12, 13, 14, 15, 16]) (.seq (.seq (.reg p14_r16 [3, 9, 10, 12, 13, 14, 15, 16, 117]) (.cond (Operand.tmp 117) (.seq (.reg p14_r17 [2]) .ret) .skip)) (.seq (.seq (.reg p14_r18 [3, 12, 14, 15, 175]) (.cond (Operand.tmp 175) (.seq (.reg p14_r19 [2]) .ret) .skip)) (.seq (.seq (.reg p14_r20 [3, 14, 15, 176, 177, 178]) (.block 2 (.loop p14_l1))) (.seq (.reg p14_r31 [3, 15, 20]) (.seq (.reg p14_r32 [2]) .ret)))))))))))))))
theorem P14 : PFn Try.prog 14 ⟨p14, [SRes.tmp 2], 237⟩ := ⟨c14, F14, by kernel_rfl⟩
end Go.Sx.Wk
set_option maxRecDepth 100000
namespace Go.Sx.Wk
open Go Go.Sx Go.Proofs

noncomputable def p38_r0 : List PI := [
  ⟨none, some 6, [], .eff fun e => ret (.v (Value.int (IntKind.i64) 0))⟩]
noncomputable def p38_r1 : List PI := [
  ⟨none, some 7, [], .eff fun e => ret (.v (Value.int (IntKind.i64) 0))⟩]
noncomputable def p38_r2 : List PI := [
  ⟨none, some 10, [0], .eff fun e => ret (e 0)⟩,
  ⟨none, some 11, [10], .eff fun e => effLenSl (e 10)⟩,
  ⟨none, some 12, [], .eff fun e => ret (.v (Value.int (IntKind.i64) 0))⟩]
noncomputable def p38_r3 : List PI := [
  ⟨none, some 13, [12, 11], .eff fun e => effIb (BinOp.lss) (e 12) (e 11)⟩]
noncomputable def p38_r4 : List PI := [
  ⟨none, some 14, [10, 12], .eff fun e => effIdx 1 (e 10) (e 12)⟩,
  ⟨none, some 15, [14], .eff fun e => effLoad1 (e 14)⟩,
  ⟨none, some 9, [15], .eff fun e => ret (e 15)⟩]
noncomputable def p38_r5 : List PI := [
  ⟨none, some 16, [7], .eff fun e => ret (e 7)⟩,
  ⟨none, some 17, [9], .eff fun e => ret (e 9)⟩,
  ⟨none, some 18, [17], .eff fun e => effIb (BinOp.quo) (.v (Value.int (IntKind.i64) 840)) (e 17)⟩,
  ⟨none, some 19, [2], .eff fun e => ret (e 2)⟩,
  ⟨none, some 20, [18, 19], .eff fun e => effIb (BinOp.mul) (e 18) (e 19)⟩,
  ⟨none, some 21, [16, 20], .eff fun e => effIb (BinOp.add) (e 16) (e 20)⟩,
  ⟨none, some 7, [21], .eff fun e => ret (e 21)⟩]
noncomputable def p38_r6 : List PI := [
  ⟨none, some 22, [12], .eff fun e => effIb (BinOp.add) (e 12) (.v (Value.int (IntKind.i64) 1))⟩,
  ⟨none, some 12, [22], .eff fun e => ret (e 22)⟩]
noncomputable def p38_l0 : PCode := (.seq (.reg p38_r3 [1, 2, 7, 10, 11, 12, 13]) (.seq (.cond (Operand.tmp 13) .skip (.exit 0)) (.seq (.block 1 (.seq (.reg p38_r4 [1, 2, 7, 9, 10, 11, 12]) (.reg p38_r5 [1, 2, 7, 10, 11, 12]))) (.reg p38_r6 [1, 2, 7, 10, 11, 12]))))
noncomputable def p38_r7 : List PI := [
  ⟨none, some 23, [7], .eff fun e => ret (e 7)⟩,
  ⟨none, some 24, [1], .eff fun e => ret (e 1)⟩,
  ⟨none, some 25, [24], .eff fun e => effIb (BinOp.mul) (.v (Value.int (IntKind.i64) 840)) (e 24)⟩,
  ⟨none, some 26, [23, 25], .eff fun e => effIb (BinOp.sub) (e 23) (e 25)⟩,
  ⟨none, some 27, [26], .eff fun e => effBig true [(.v (Value.int (IntKind.i64) (-1))), (e 26)]⟩,
  ⟨none, some 28, [27], .eff fun e => effBig false [(.v (Value.int (IntKind.i64) 1)), (e 27)]⟩,
  ⟨none, some 6, [28], .eff fun e => ret (e 28)⟩]
noncomputable def p38 : PCode := (.seq (.reg p38_r0 [0, 1, 2]) (.seq (.reg p38_r1 [0, 1, 2, 7]) (.seq (.seq (.reg p38_r2 [1, 2, 7, 10, 11, 12]) (.block 0 (.loop p38_l0))) (.seq (.reg p38_r7 [6]) .ret))))
theorem P38 : PFn Try.prog 38 ⟨p38, [SRes.tmp 6], 29⟩ := ⟨c38, F38, by kernel_rfl⟩
end Go.Sx.Wk
set_option maxRecDepth 100000
namespace Go.Sx.Wk
open Go Go.Sx Go.Proofs

noncomputable def p42_r0 : List PI := [
  ⟨none, some 3, [0], .eff fun e => effBox (e 0)⟩,
  ⟨none, some 6, [], .eff fun e => ret (.v (Value.slice none 0 0))⟩]
noncomputable def p42_r1 : List PI := [
  ⟨none, some 7, [], .eff fun e => ret (.v (Value.slice none 0 0))⟩]
noncomputable def p42_r2 : List PI := [
  ⟨none, some 10, [3], .eff fun e => effOff 1 (e 3)⟩,
  ⟨none, some 11, [3], .eff fun e => effOff 0 (e 3)⟩,
  ⟨none, some 12, [11], .eff fun e => effLoad1 (e 11)⟩,
  ⟨none, some 13, [12], .eff fun e => effCi (IntKind.i64) (e 12)⟩,
  ⟨none, some 14, [1], .eff fun e => ret (e 1)⟩,
  ⟨none, some 15, [13, 14], .eff fun e => effIb (BinOp.rem) (e 13) (e 14)⟩,
  ⟨none, some 16, [15], .eff fun e => effIb (BinOp.add) (.v (Value.int (IntKind.i64) 1)) (e 15)⟩,
  ⟨none, some 17, [10, 16], .eff fun e => effSlcA 4 1 (e 10) none (some (e 16)) none⟩,
  ⟨none, some 18, [17], .eff fun e => effLenSl (e 17)⟩,
  ⟨none, some 19, [], .eff fun e => ret (.v (Value.int (IntKind.i64) 0))⟩]
noncomputable def p42_r3 : List PI := [
  ⟨none, some 20, [19, 18], .eff fun e => effIb (BinOp.lss) (e 19) (e 18)⟩]
noncomputable def p42_r4 : List PI := [
  ⟨none, some 21, [17, 19], .eff fun e => effIdx 1 (e 17) (e 19)⟩,
  ⟨none, some 22, [21], .eff fun e => effLoad1 (e 21)⟩,
  ⟨none, some 9, [22], .eff fun e => ret (e 22)⟩]
noncomputable def p42_r5 : List PI := [
  ⟨none, some 23, [7], .eff fun e => ret (e 7)⟩,
  ⟨none, some 24, [9], .eff fun e => ret (e 9)⟩,
  ⟨none, some 25, [24], .eff fun e => effCi (IntKind.i64) (e 24)⟩,
  ⟨none, some 26, [2], .eff fun e => ret (e 2)⟩,
  ⟨none, some 27, [25, 26], .eff fun e => effIb (BinOp.rem) (e 25) (e 26)⟩,
  ⟨none, some 28, [27], .eff fun e => effIb (BinOp.add) (.v (Value.int (IntKind.i64) 1)) (e 27)⟩,
  ⟨none, some 29, [28], .eff fun e => effMks 1 1 ([Value.int (IntKind.i64) 0]) [(0, 1, (e 28))]⟩,
  ⟨none, some 30, [23, 29], .eff fun e => effApp 1 8 (e 23) (e 29)⟩,
  ⟨none, some 7, [30], .eff fun e => ret (e 30)⟩]
noncomputable def p42_r6 : List PI := [
  ⟨none, some 31, [19], .eff fun e => effIb (BinOp.add) (e 19) (.v (Value.int (IntKind.i64) 1))⟩,
  ⟨none, some 19, [31], .eff fun e => ret (e 31)⟩]
noncomputable def p42_l0 : PCode := (.seq (.reg p42_r3 [2, 7, 17, 18, 19, 20]) (.seq (.cond (Operand.tmp 20) .skip (.exit 0)) (.seq (.block 1 (.seq (.reg p42_r4 [2, 7, 9, 17, 18, 19]) (.reg p42_r5 [2, 7, 17, 18, 19]))) (.reg p42_r6 [2, 7, 17, 18, 19]))))
noncomputable def p42_r7 : List PI := [
  ⟨none, some 32, [7], .eff fun e => ret (e 7)⟩,
  ⟨none, some 6, [32], .eff fun e => ret (e 32)⟩]
noncomputable def p42 : PCode := (.seq (.reg p42_r0 [1, 2, 3]) (.seq (.reg p42_r1 [1, 2, 3, 7]) (.seq (.seq (.reg p42_r2 [2, 7, 17, 18, 19]) (.block 0 (.loop p42_l0))) (.seq (.reg p42_r7 [6]) .ret))))
theorem P42 : PFn Try.prog 42 ⟨p42, [SRes.tmp 6], 33⟩ := ⟨c42, F42, by kernel_rfl⟩
end Go.Sx.Wk
set_option maxRecDepth 100000
namespace Go.Sx.Wk
open Go Go.Sx Go.Proofs

noncomputable def p43_r0 : List PI := [
  ⟨none, some 4, [], .eff fun e => ret (.v (Value.bool false))⟩]
noncomputable def p43_r1 : List PI := [
  ⟨none, some 8, [0], .eff fun e => ret (e 0)⟩,
  ⟨none, some 9, [8], .eff fun e => effLenSl (e 8)⟩,
  ⟨none, some 10, [], .eff fun e => ret (.v (Value.int (IntKind.i64) 0))⟩]
noncomputable def p43_r2 : List PI := [
  ⟨none, some 11, [10, 9], .eff fun e => effIb (BinOp.lss) (e 10) (e 9)⟩]
noncomputable def p43_r3 : List PI := [
  ⟨none, some 12, [10], .eff fun e => ret (e 10)⟩,
  ⟨none, some 13, [8, 10], .eff fun e => effIdx 1 (e 8) (e 10)⟩,
  ⟨none, some 14, [13], .eff fun e => effLoad1 (e 13)⟩,
  ⟨none, some 5, [12], .eff fun e => ret (e 12)⟩,
  ⟨none, some 6, [14], .eff fun e => ret (e 14)⟩]
noncomputable def p43_r4 : List PI := [
  ⟨none, some 7, [], .eff fun e => ret (.v (Value.int (IntKind.i64) 0))⟩]
noncomputable def p43_r5 : List PI := [
  ⟨none, some 15, [7], .eff fun e => ret (e 7)⟩,
  ⟨none, some 16, [6], .eff fun e => ret (e 6)⟩,
  ⟨none, some 17, [15, 16], .eff fun e => effIb (BinOp.add) (e 15) (e 16)⟩,
  ⟨none, some 18, [1], .eff fun e => ret (e 1)⟩,
  ⟨none, some 19, [18], .eff fun e => effLenSl (e 18)⟩,
  ⟨none, some 20, [17, 19], .eff fun e => effIb (BinOp.leq) (e 17) (e 19)⟩]
noncomputable def p43_r6 : List PI := [
  ⟨none, some 23, [1], .eff fun e => ret (e 1)⟩,
  ⟨none, some 24, [7], .eff fun e => ret (e 7)⟩,
  ⟨none, some 25, [7], .eff fun e => ret (e 7)⟩,
  ⟨none, some 26, [6], .eff fun e => ret (e 6)⟩,
  ⟨none, some 27, [25, 26], .eff fun e => effIb (BinOp.add) (e 25) (e 26)⟩,
  ⟨none, some 28, [23, 24, 27], .eff fun e => effSlc 1 (e 23) (some (e 24)) (some (e 27)) none⟩,
  ⟨none, some 29, [5], .eff fun e => ret (e 5)⟩,
  ⟨none, some 30, [28, 29], .call 72 ([Operand.tmp 28, Operand.tmp 29])⟩,
  ⟨none, some 31, [30], .eff fun e => effNt (e 30)⟩]
noncomputable def p43_r7 : List PI := [
  ⟨none, some 4, [], .eff fun e => ret (.v (Value.bool false))⟩]
noncomputable def p43_r8 : List PI := [
  ⟨none, some 21, [7], .eff fun e => ret (e 7)⟩,
  ⟨none, some 22, [21], .eff fun e => effIb (BinOp.add) (e 21) (.v (Value.int (IntKind.i64) 1))⟩,
  ⟨none, some 7, [22], .eff fun e => ret (e 22)⟩]
noncomputable def p43_l0 : PCode := (.seq (.seq (.reg p43_r5 [1, 5, 6, 7, 8, 9, 10, 20]) (.cond (Operand.tmp 20) .skip (.exit 2))) (.seq (.block 3 (.seq (.reg p43_r6 [1, 5, 6, 7, 8, 9, 10, 31]) (.cond (Operand.tmp 31) (.seq (.reg p43_r7 [4]) .ret) .skip))) (.reg p43_r8 [1, 5, 6, 7, 8, 9, 10])))
noncomputable def p43_r9 : List PI := [
  ⟨none, some 32, [10], .eff fun e => effIb (BinOp.add) (e 10) (.v (Value.int (IntKind.i64) 1))⟩,
  ⟨none, some 10, [32], .eff fun e => ret (e 32)⟩]
noncomputable def p43_l1 : PCode := (.seq (.reg p43_r2 [1, 8, 9, 10, 11]) (.seq (.cond (Operand.tmp 11) .skip (.exit 0)) (.seq (.block 1 (.seq (.reg p43_r3 [1, 5, 6, 8, 9, 10]) (.seq (.reg p43_r4 [1, 5, 6, 7, 8, 9, 10]) (.block 2 (.loop p43_l0))))) (.reg p43_r9 [1, 8, 9, 10]))))
noncomputable def p43_r10 : List PI := [
  ⟨none, some 4, [], .eff fun e => ret (.v (Value.bool true))⟩]
noncomputable def p43 : PCode := (.seq (.reg p43_r0 [0, 1]) (.seq (.seq (.reg p43_r1 [1, 8, 9, 10]) (.block 0 (.loop p43_l1))) (.seq (.reg p43_r10 [4]) .ret)))
theorem P43 : PFn Try.prog 43 ⟨p43, [SRes.tmp 4], 33⟩ := ⟨c43, F43, by kernel_rfl⟩
end Go.Sx.Wk
set_option maxRecDepth 100000
namespace Go.Sx.Wk
open Go Go.Sx Go.Proofs

noncomputable def p51_r0 : List PI := [
  ⟨none, some 2, [], .eff fun e => ret (.v (Value.slice none 0 0))⟩]
noncomputable def p51_r1 : List PI := [
  ⟨none, some 3, [], .eff fun e => ret (.v (Value.int (IntKind.i64) 0))⟩]
noncomputable def p51_r2 : List PI := [
  ⟨none, some 9, [0], .eff fun e => ret (e 0)⟩,
  ⟨none, some 10, [9], .eff fun e => effLenSl (e 9)⟩,
  ⟨none, some 11, [], .eff fun e => ret (.v (Value.int (IntKind.i64) 0))⟩]
noncomputable def p51_r3 : List PI := [
  ⟨none, some 12, [11, 10], .eff fun e => effIb (BinOp.lss) (e 11) (e 10)⟩]
noncomputable def p51_r4 : List PI := [
  ⟨none, some 13, [9, 11], .eff fun e => effIdx 1 (e 9) (e 11)⟩,
  ⟨none, some 14, [13], .eff fun e => effLoad1 (e 13)⟩,
  ⟨none, some 5, [14], .eff fun e => ret (e 14)⟩]
noncomputable def p51_r5 : List PI := [
  ⟨none, some 15, [3], .eff fun e => ret (e 3)⟩,
  ⟨none, some 16, [5], .eff fun e => ret (e 5)⟩,
  ⟨none, some 17, [16], .eff fun e => effLenSl (e 16)⟩,
  ⟨none, some 18, [15, 17], .eff fun e => effIb (BinOp.add) (e 15) (e 17)⟩,
  ⟨none, some 3, [18], .eff fun e => ret (e 18)⟩]
noncomputable def p51_r6 : List PI := [
  ⟨none, some 19, [3], .eff fun e => ret (e 3)⟩,
  ⟨none, some 20, [19], .eff fun e => effIb (BinOp.lss) (e 19) (.v (Value.int (IntKind.i64) 0))⟩]
noncomputable def p51_r7 : List PI := [
  ⟨none, some 21, [], .eff fun e => effMkifc 9 (.v (Value.string (⟨#[108, 101, 110, 32, 111, 117, 116, 32, 111, 102, 32, 114, 97, 110, 103, 101]⟩ : ByteArray)))⟩,
  ⟨none, none, [], .eff fun e => none⟩]
noncomputable def p51_r8 : List PI := [
  ⟨none, some 22, [11], .eff fun e => effIb (BinOp.add) (e 11) (.v (Value.int (IntKind.i64) 1))⟩,
  ⟨none, some 11, [22], .eff fun e => ret (e 22)⟩]
noncomputable def p51_l0 : PCode := (.seq (.reg p51_r3 [0, 3, 9, 10, 11, 12]) (.seq (.cond (Operand.tmp 12) .skip (.exit 0)) (.seq (.block 1 (.seq (.reg p51_r4 [0, 3, 5, 9, 10, 11]) (.seq (.reg p51_r5 [0, 3, 9, 10, 11]) (.seq (.reg p51_r6 [0, 3, 9, 10, 11, 20]) (.cond (Operand.tmp 20) (.reg p51_r7 [0, 3, 9, 10, 11]) .skip))))) (.reg p51_r8 [0, 3, 9, 10, 11]))))
noncomputable def p51_r9 : List PI := [
  ⟨none, some 23, [3], .eff fun e => ret (e 3)⟩,
  ⟨none, some 24, [23], .call 76 ([Operand.const (Value.slice none 0 0), Operand.tmp 23])⟩,
  ⟨none, some 6, [24], .eff fun e => ret (e 24)⟩]
noncomputable def p51_r10 : List PI := [
  ⟨none, some 25, [0], .eff fun e => ret (e 0)⟩,
  ⟨none, some 26, [25], .eff fun e => effLenSl (e 25)⟩,
  ⟨none, some 27, [], .eff fun e => ret (.v (Value.int (IntKind.i64) 0))⟩]
noncomputable def p51_r11 : List PI := [
  ⟨none, some 28, [27, 26], .eff fun e => effIb (BinOp.lss) (e 27) (e 26)⟩]
noncomputable def p51_r12 : List PI := [
  ⟨none, some 29, [25, 27], .eff fun e => effIdx 1 (e 25) (e 27)⟩,
  ⟨none, some 30, [29], .eff fun e => effLoad1 (e 29)⟩,
  ⟨none, some 8, [30], .eff fun e => ret (e 30)⟩]
noncomputable def p51_r13 : List PI := [
  ⟨none, some 31, [6], .eff fun e => ret (e 6)⟩,
  ⟨none, some 32, [8], .eff fun e => ret (e 8)⟩,
  ⟨none, some 33, [31, 32], .eff fun e => effApp 1 8 (e 31) (e 32)⟩,
  ⟨none, some 6, [33], .eff fun e => ret (e 33)⟩]
noncomputable def p51_r14 : List PI := [
  ⟨none, some 34, [27], .eff fun e => effIb (BinOp.add) (e 27) (.v (Value.int (IntKind.i64) 1))⟩,
  ⟨none, some 27, [34], .eff fun e => ret (e 34)⟩]
noncomputable def p51_l1 : PCode := (.seq (.reg p51_r11 [6, 25, 26, 27, 28]) (.seq (.cond (Operand.tmp 28) .skip (.exit 2)) (.seq (.block 3 (.seq (.reg p51_r12 [6, 8, 25, 26, 27]) (.reg p51_r13 [6, 25, 26, 27]))) (.reg p51_r14 [6, 25, 26, 27]))))
noncomputable def p51_r15 : List PI := [
  ⟨none, some 35, [6], .eff fun e => ret (e 6)⟩,
  ⟨none, some 2, [35], .eff fun e => ret (e 35)⟩]
noncomputable def p51 : PCode := (.seq (.reg p51_r0 [0]) (.seq (.reg p51_r1 [0, 3]) (.seq (.seq (.reg p51_r2 [0, 3, 9, 10, 11]) (.block 0 (.loop p51_l0))) (.seq (.reg p51_r9 [0, 6]) (.seq (.seq (.reg p51_r10 [6, 25, 26, 27]) (.block 2 (.loop p51_l1))) (.seq (.reg p51_r15 [2]) .ret))))))
theorem P51 : PFn Try.prog 51 ⟨p51, [SRes.tmp 2], 36⟩ := ⟨c51, F51, by kernel_rfl⟩
end Go.Sx.Wk
set_option maxRecDepth 100000
namespace Go.Sx.Wk
open Go Go.Sx Go.Proofs

noncomputable def p72_r0 : List PI := [
  ⟨none, some 4, [], .eff fun e => ret (.v (Value.bool false))⟩]
noncomputable def p72_r1 : List PI := [
  ⟨none, some 5, [0], .eff fun e => ret (e 0)⟩,
  ⟨none, some 6, [1], .eff fun e => ret (e 1)⟩,
  ⟨none, some 7, [5, 6], .call 67 ([Operand.tmp 5, Operand.tmp 6])⟩,
  ⟨none, some 8, [7], .eff fun e => effIb (BinOp.geq) (e 7) (.v (Value.int (IntKind.i64) 0))⟩,
  ⟨none, some 4, [8], .eff fun e => ret (e 8)⟩]
noncomputable def p72 : PCode := (.seq (.reg p72_r0 [0, 1]) (.seq (.reg p72_r1 [4]) .ret))
theorem P72 : PFn Try.prog 72 ⟨p72, [SRes.tmp 4], 9⟩ := ⟨c72, F72, by kernel_rfl⟩
end Go.Sx.Wk
