/- The codes of the functions, written by a program (Gen.lean), and that they are the functions'. No conditions. -/
import Derived.Test.YtfiebjbhiflfpaaDoorSxJNtoNq
import Derived.KernelRfl
import Derived.Test.YtfiebjbhiflfpaaDoorProg
set_option linter.unusedVariables false
set_option linter.unusedSimpArgs false
set_option maxRecDepth 100000
namespace Go.Sx.Ch
open Go Go.Sx Go.Proofs
noncomputable def p12_r0 : List PI := [
  ⟨none, some 2, [0], .eff fun e => effBox (e 0)⟩,
  ⟨none, some 4, [], .eff fun e => ret (.v (.bool false))⟩]
noncomputable def p12_r1 : List PI := [
  ⟨none, some 22, [2], .eff fun e => effLoadN 18 (e 2)⟩,
  ⟨none, some 23, [22], .call 49 ([.tmp 22, .const (.int .i64 8)])⟩,
  ⟨none, some 5, [], .eff fun e => effAlloc ([.slice none 0 0])⟩,
  ⟨none, none, [5, 23], .eff fun e => effStore 1 (e 5) (e 23)⟩]
noncomputable def p12_r2 : List PI := [
  ⟨none, some 24, [5], .eff fun e => effLoadN 1 (e 5)⟩,
  ⟨none, some 25, [24], .call 59 ([.tmp 24])⟩,
  ⟨none, some 26, [25], .eff fun e => effIb .quo (e 25) (.v (.int .i64 2))⟩,
  ⟨none, some 6, [26], .eff fun e => ret (e 26)⟩]
noncomputable def p12_r3 : List PI := [
  ⟨none, some 27, [6], .eff fun e => ret (e 6)⟩,
  ⟨none, some 28, [27], .eff fun e => effIb .eql (e 27) (.v (.int .i64 0))⟩]
noncomputable def p12_r4 : List PI := [
  ⟨none, some 30, [5], .eff fun e => effLoadN 1 (e 5)⟩,
  ⟨none, some 31, [30], .call 21 ([.tmp 30, .const (.int .i64 0)])⟩,
  ⟨none, some 29, [31], .eff fun e => ret (e 31)⟩,
  ⟨none, some 32, [29], .eff fun e => effExt 0 (e 29)⟩,
  ⟨none, some 33, [29], .eff fun e => effExt 1 (e 29)⟩,
  ⟨none, some 7, [], .eff fun e => effAlloc ([.slice none 0 0])⟩,
  ⟨none, none, [7, 32], .eff fun e => effStore 1 (e 7) (e 32)⟩,
  ⟨none, some 8, [33], .eff fun e => ret (e 33)⟩]
noncomputable def p12_r5 : List PI := [
  ⟨none, some 34, [8], .eff fun e => ret (e 8)⟩,
  ⟨none, some 35, [34], .eff fun e => effIb .eql (e 34) (.v (.int .i64 2))⟩,
  ⟨none, some 36, [35], .eff fun e => ret (e 35)⟩,
  ⟨some (36, true), some 37, [], .call 16 ([])⟩,
  ⟨none, some 38, [36, 37], .eff fun e => effPick (e 36) (e 37) (.v (.bool false))⟩,
  ⟨none, some 4, [38], .eff fun e => ret (e 38)⟩]
noncomputable def p12_r6 : List PI := [
  ⟨none, some 39, [1], .eff fun e => ret (e 1)⟩,
  ⟨none, some 40, [39], .eff fun e => effCi .i64 (e 39)⟩,
  ⟨none, some 41, [6], .eff fun e => ret (e 6)⟩,
  ⟨none, some 42, [40, 41], .eff fun e => effIb .rem (e 40) (e 41)⟩,
  ⟨none, some 9, [42], .eff fun e => ret (e 42)⟩]
noncomputable def p12_r7 : List PI := [
  ⟨none, some 10, [], .eff fun e => effAlloc ([.slice none 0 0])⟩]
noncomputable def p12_r8 : List PI := [
  ⟨none, some 43, [5], .eff fun e => effOff 0 (e 5)⟩,
  ⟨none, some 44, [43], .eff fun e => effLoad1 (e 43)⟩,
  ⟨none, some 45, [44], .eff fun e => effLenSl (e 44)⟩,
  ⟨none, some 46, [], .eff fun e => ret (.v (.int .i64 0))⟩]
noncomputable def p12_r9 : List PI := [
  ⟨none, some 47, [46, 45], .eff fun e => effIb .lss (e 46) (e 45)⟩]
noncomputable def p12_r10 : List PI := [
  ⟨none, some 48, [44, 46], .eff fun e => effIdx 1 (e 44) (e 46)⟩,
  ⟨none, some 49, [48], .eff fun e => effLoad1 (e 48)⟩,
  ⟨none, some 12, [49], .eff fun e => ret (e 49)⟩]
noncomputable def p12_r11 : List PI := [
  ⟨none, some 13, [], .eff fun e => ret (.v (.slice none 0 0))⟩]
noncomputable def p12_r12 : List PI := [
  ⟨none, some 50, [12], .eff fun e => ret (e 12)⟩,
  ⟨none, some 51, [50], .eff fun e => effLenSl (e 50)⟩,
  ⟨none, some 52, [], .eff fun e => ret (.v (.int .i64 0))⟩]
noncomputable def p12_r13 : List PI := [
  ⟨none, some 53, [52, 51], .eff fun e => effIb .lss (e 52) (e 51)⟩]
noncomputable def p12_r14 : List PI := [
  ⟨none, some 54, [50, 52], .eff fun e => effIdx 1 (e 50) (e 52)⟩,
  ⟨none, some 55, [54], .eff fun e => effLoad1 (e 54)⟩,
  ⟨none, some 15, [55], .eff fun e => ret (e 55)⟩]
noncomputable def p12_r15 : List PI := [
  ⟨none, some 56, [15], .eff fun e => ret (e 15)⟩,
  ⟨none, some 57, [56], .eff fun e => effIb .quo (e 56) (.v (.int .i64 2))⟩,
  ⟨none, some 58, [9], .eff fun e => ret (e 9)⟩,
  ⟨none, some 59, [57, 58], .eff fun e => effIb .lss (e 57) (e 58)⟩]
noncomputable def p12_r16 : List PI := [
  ⟨none, some 60, [13], .eff fun e => ret (e 13)⟩,
  ⟨none, some 61, [15], .eff fun e => ret (e 15)⟩,
  ⟨none, some 62, [61], .eff fun e => effMks 1 1 ([.int .i64 0]) [(0, 1, (e 61))]⟩,
  ⟨none, some 63, [60, 62], .eff fun e => effApp 1 8 (e 60) (e 62)⟩,
  ⟨none, some 13, [63], .eff fun e => ret (e 63)⟩]
noncomputable def p12_r17 : List PI := [
  ⟨none, some 64, [15], .eff fun e => ret (e 15)⟩,
  ⟨none, some 65, [64], .eff fun e => effIb .quo (e 64) (.v (.int .i64 2))⟩,
  ⟨none, some 66, [9], .eff fun e => ret (e 9)⟩,
  ⟨none, some 67, [65, 66], .eff fun e => effIb .gtr (e 65) (e 66)⟩]
noncomputable def p12_r18 : List PI := [
  ⟨none, some 68, [13], .eff fun e => ret (e 13)⟩,
  ⟨none, some 69, [15], .eff fun e => ret (e 15)⟩,
  ⟨none, some 70, [69], .eff fun e => effIb .sub (e 69) (.v (.int .i64 2))⟩,
  ⟨none, some 71, [70], .eff fun e => effMks 1 1 ([.int .i64 0]) [(0, 1, (e 70))]⟩,
  ⟨none, some 72, [68, 71], .eff fun e => effApp 1 8 (e 68) (e 71)⟩,
  ⟨none, some 13, [72], .eff fun e => ret (e 72)⟩]
noncomputable def p12_r19 : List PI := [
  ⟨none, some 73, [52], .eff fun e => effIb .add (e 52) (.v (.int .i64 1))⟩,
  ⟨none, some 52, [73], .eff fun e => ret (e 73)⟩]
noncomputable def p12_l0 : PCode := (.seq (.reg p12_r13 [5, 6, 9, 10, 13, 44, 45, 46, 50, 51, 52, 53]) (.seq (.cond (.tmp 53) .skip (.exit 2)) (.seq (.block 3 (.seq (.reg p12_r14 [5, 6, 9, 10, 13, 15, 44, 45, 46, 50, 51, 52]) (.seq (.reg p12_r15 [5, 6, 9, 10, 13, 15, 44, 45, 46, 50, 51, 52, 59]) (.cond (.tmp 59) (.reg p12_r16 [5, 6, 9, 10, 13, 44, 45, 46, 50, 51, 52]) (.seq (.reg p12_r17 [5, 6, 9, 10, 13, 15, 44, 45, 46, 50, 51, 52, 67]) (.cond (.tmp 67) (.reg p12_r18 [5, 6, 9, 10, 13, 44, 45, 46, 50, 51, 52]) .skip)))))) (.reg p12_r19 [5, 6, 9, 10, 13, 44, 45, 46, 50, 51, 52]))))
noncomputable def p12_r20 : List PI := [
  ⟨none, some 74, [13], .eff fun e => ret (e 13)⟩,
  ⟨none, some 75, [74], .eff fun e => effEqn true (TypeDesc.slice 3) (e 74)⟩]
noncomputable def p12_r21 : List PI := [
  ⟨none, some 76, [10], .eff fun e => effOff 0 (e 10)⟩,
  ⟨none, some 77, [76], .eff fun e => effLoad1 (e 76)⟩,
  ⟨none, some 78, [13], .eff fun e => ret (e 13)⟩,
  ⟨none, some 79, [78], .eff fun e => effMks 1 1 ([.slice none 0 0]) [(0, 1, (e 78))]⟩,
  ⟨none, some 80, [77, 79], .eff fun e => effApp 1 24 (e 77) (e 79)⟩,
  ⟨none, some 81, [10], .eff fun e => effOff 0 (e 10)⟩,
  ⟨none, none, [81, 80], .eff fun e => effStore 1 (e 81) (e 80)⟩]
noncomputable def p12_r22 : List PI := [
  ⟨none, some 82, [46], .eff fun e => effIb .add (e 46) (.v (.int .i64 1))⟩,
  ⟨none, some 46, [82], .eff fun e => ret (e 82)⟩]
noncomputable def p12_l1 : PCode := (.seq (.reg p12_r9 [5, 6, 9, 10, 44, 45, 46, 47]) (.seq (.cond (.tmp 47) .skip (.exit 0)) (.seq (.block 1 (.seq (.reg p12_r10 [5, 6, 9, 10, 12, 44, 45, 46]) (.seq (.reg p12_r11 [5, 6, 9, 10, 12, 13, 44, 45, 46]) (.seq (.seq (.reg p12_r12 [5, 6, 9, 10, 13, 44, 45, 46, 50, 51, 52]) (.block 2 (.loop p12_l0))) (.seq (.reg p12_r20 [5, 6, 9, 10, 13, 44, 45, 46, 75]) (.cond (.tmp 75) (.reg p12_r21 [5, 6, 9, 10, 44, 45, 46]) .skip)))))) (.reg p12_r22 [5, 6, 9, 10, 44, 45, 46]))))
noncomputable def p12_r23 : List PI := [
  ⟨none, some 84, [5], .eff fun e => effLoadN 1 (e 5)⟩,
  ⟨none, some 85, [9], .eff fun e => ret (e 9)⟩,
  ⟨none, some 86, [84, 85], .call 21 ([.tmp 84, .tmp 85])⟩,
  ⟨none, some 83, [86], .eff fun e => ret (e 86)⟩,
  ⟨none, some 87, [83], .eff fun e => effExt 0 (e 83)⟩,
  ⟨none, some 88, [83], .eff fun e => effExt 1 (e 83)⟩,
  ⟨none, some 16, [], .eff fun e => effAlloc ([.slice none 0 0])⟩,
  ⟨none, none, [16, 87], .eff fun e => effStore 1 (e 16) (e 87)⟩,
  ⟨none, some 17, [88], .eff fun e => ret (e 88)⟩]
noncomputable def p12_r24 : List PI := [
  ⟨none, some 90, [5], .eff fun e => effLoadN 1 (e 5)⟩,
  ⟨none, some 91, [6], .eff fun e => ret (e 6)⟩,
  ⟨none, some 92, [90, 91], .call 21 ([.tmp 90, .tmp 91])⟩,
  ⟨none, some 89, [92], .eff fun e => ret (e 92)⟩,
  ⟨none, some 93, [89], .eff fun e => effExt 0 (e 89)⟩,
  ⟨none, some 94, [89], .eff fun e => effExt 1 (e 89)⟩,
  ⟨none, some 18, [], .eff fun e => effAlloc ([.slice none 0 0])⟩,
  ⟨none, none, [18, 93], .eff fun e => effStore 1 (e 18) (e 93)⟩,
  ⟨none, some 19, [94], .eff fun e => ret (e 94)⟩]
noncomputable def p12_r25 : List PI := [
  ⟨none, some 95, [17], .eff fun e => ret (e 17)⟩,
  ⟨none, some 96, [95], .eff fun e => effIb .neq (e 95) (.v (.int .i64 0))⟩,
  ⟨none, some 97, [96], .eff fun e => ret (e 96)⟩,
  ⟨some (97, false), some 98, [19], .eff fun e => ret (e 19)⟩,
  ⟨some (97, false), some 99, [98], .eff fun e => effIb .neq (e 98) (.v (.int .i64 2))⟩,
  ⟨none, some 100, [97, 99], .eff fun e => effPick (e 97) (.v (.bool true)) (e 99)⟩,
  ⟨none, some 101, [100], .eff fun e => ret (e 100)⟩,
  ⟨some (101, false), some 102, [16], .eff fun e => effOff 0 (e 16)⟩,
  ⟨some (101, false), some 103, [102], .eff fun e => effLoad1 (e 102)⟩,
  ⟨some (101, false), some 104, [10], .eff fun e => effLoadN 1 (e 10)⟩,
  ⟨some (101, false), some 105, [104], .call 57 ([.tmp 104])⟩,
  ⟨some (101, false), some 106, [103, 105], .call 23 ([.tmp 103, .tmp 105])⟩,
  ⟨some (101, false), some 107, [106], .eff fun e => effNt (e 106)⟩,
  ⟨none, some 108, [101, 107], .eff fun e => effPick (e 101) (.v (.bool true)) (e 107)⟩]
noncomputable def p12_r26 : List PI := [
  ⟨none, some 4, [], .eff fun e => ret (.v (.bool false))⟩]
noncomputable def p12_r27 : List PI := [
  ⟨none, some 110, [5], .eff fun e => effLoadN 1 (e 5)⟩,
  ⟨none, some 111, [110], .call 37 ([.tmp 110])⟩,
  ⟨none, some 109, [111], .eff fun e => ret (e 111)⟩,
  ⟨none, some 112, [109], .eff fun e => effExt 0 (e 109)⟩,
  ⟨none, some 113, [109], .eff fun e => effExt 1 (e 109)⟩,
  ⟨none, some 20, [112], .eff fun e => ret (e 112)⟩,
  ⟨none, some 17, [113], .eff fun e => ret (e 113)⟩]
noncomputable def p12_r28 : List PI := [
  ⟨none, some 115, [16], .eff fun e => effLoadN 1 (e 16)⟩,
  ⟨none, some 116, [115], .call 37 ([.tmp 115])⟩,
  ⟨none, some 114, [116], .eff fun e => ret (e 116)⟩,
  ⟨none, some 117, [114], .eff fun e => effExt 0 (e 114)⟩,
  ⟨none, some 118, [114], .eff fun e => effExt 1 (e 114)⟩,
  ⟨none, some 21, [117], .eff fun e => ret (e 117)⟩,
  ⟨none, some 19, [118], .eff fun e => ret (e 118)⟩]
noncomputable def p12_r29 : List PI := [
  ⟨none, some 119, [17], .eff fun e => ret (e 17)⟩,
  ⟨none, some 120, [119], .eff fun e => effIb .eql (e 119) (.v (.int .i64 0))⟩,
  ⟨none, some 121, [120], .eff fun e => ret (e 120)⟩,
  ⟨some (121, true), some 122, [19], .eff fun e => ret (e 19)⟩,
  ⟨some (121, true), some 123, [122], .eff fun e => effIb .eql (e 122) (.v (.int .i64 0))⟩,
  ⟨none, some 124, [121, 123], .eff fun e => effPick (e 121) (e 123) (.v (.bool false))⟩,
  ⟨none, some 125, [124], .eff fun e => ret (e 124)⟩,
  ⟨some (125, true), some 126, [20], .eff fun e => ret (e 20)⟩,
  ⟨some (125, true), some 127, [5], .eff fun e => effLoadN 1 (e 5)⟩,
  ⟨some (125, true), some 128, [127], .call 53 ([.tmp 127])⟩,
  ⟨some (125, true), some 129, [126, 128], .eff fun e => effIb .eql (e 126) (e 128)⟩,
  ⟨none, some 130, [125, 129], .eff fun e => effPick (e 125) (e 129) (.v (.bool false))⟩,
  ⟨none, some 131, [130], .eff fun e => ret (e 130)⟩,
  ⟨some (131, true), some 132, [21], .eff fun e => ret (e 21)⟩,
  ⟨some (131, true), some 133, [20], .eff fun e => ret (e 20)⟩,
  ⟨some (131, true), some 134, [132, 133], .eff fun e => effIb .eql (e 132) (e 133)⟩,
  ⟨some (131, true), some 135, [134], .eff fun e => ret (e 134)⟩,
  ⟨some (135, false), some 136, [21], .eff fun e => ret (e 21)⟩,
  ⟨some (135, false), some 137, [20], .eff fun e => ret (e 20)⟩,
  ⟨some (135, false), some 138, [137], .eff fun e => effIb .sub (e 137) (.v (.int .i64 1))⟩,
  ⟨some (135, false), some 139, [136, 138], .eff fun e => effIb .eql (e 136) (e 138)⟩,
  ⟨some (131, true), some 140, [135, 139], .eff fun e => effPick (e 135) (.v (.bool true)) (e 139)⟩,
  ⟨none, some 141, [131, 140], .eff fun e => effPick (e 131) (e 140) (.v (.bool false))⟩,
  ⟨none, some 142, [141], .eff fun e => ret (e 141)⟩,
  ⟨some (142, true), some 143, [21], .eff fun e => ret (e 21)⟩,
  ⟨some (142, true), some 144, [143], .eff fun e => effIb .geq (e 143) (.v (.int .i64 0))⟩,
  ⟨none, some 145, [142, 144], .eff fun e => effPick (e 142) (e 144) (.v (.bool false))⟩,
  ⟨none, some 146, [145], .eff fun e => ret (e 145)⟩,
  ⟨some (146, true), some 147, [], .call 16 ([])⟩,
  ⟨none, some 148, [146, 147], .eff fun e => effPick (e 146) (e 147) (.v (.bool false))⟩,
  ⟨none, some 4, [148], .eff fun e => ret (e 148)⟩]
noncomputable def p12 : PCode := (.seq (.reg p12_r0 [1, 2]) (.seq (.reg p12_r1 [1, 5]) (.seq (.reg p12_r2 [1, 5, 6]) (.seq (.seq (.reg p12_r3 [1, 5, 6, 28]) (.cond (.tmp 28) (.seq (.reg p12_r4 [8]) (.seq (.reg p12_r5 [4]) .ret)) .skip)) (.seq (.reg p12_r6 [5, 6, 9]) (.seq (.reg p12_r7 [5, 6, 9, 10]) (.seq (.seq (.reg p12_r8 [5, 6, 9, 10, 44, 45, 46]) (.block 0 (.loop p12_l1))) (.seq (.reg p12_r23 [5, 6, 10, 16, 17]) (.seq (.reg p12_r24 [5, 10, 16, 17, 19]) (.seq (.seq (.draw p12_r25 [[], [0], [1, 0], [2, 1, 0], [3, 2, 1, 0], [4, 3, 2, 1, 0], [5, 4, 3, 2, 1, 0], [6, 5, 4, 3, 2, 1, 0], [7, 6, 5, 4, 3, 2, 1, 0], [6, 5, 4, 3, 2, 1, 0], [9, 6, 5, 4, 3, 2, 1, 0], [8, 10, 7, 9, 6, 5, 4, 3, 2, 1, 0], [11, 8, 10, 7, 9, 6, 5, 4, 3, 2, 1, 0], [12, 11, 8, 10, 7, 9, 6, 5, 4, 3, 2, 1, 0]] [5, 16, 108]) (.cond (.tmp 108) (.seq (.reg p12_r26 [4]) .ret) .skip)) (.seq (.reg p12_r27 [5, 16, 17, 20]) (.seq (.reg p12_r28 [5, 17, 19, 20, 21]) (.seq (.reg p12_r29 [4]) .ret)))))))))))))
theorem P12 : PFn Tryd.prog 12 ⟨p12, [.tmp 4], 149⟩ := .mk2 Tryd.f12 (Tryd.f12.body.getD .skip) [[1, 2], [1, 5], [1, 5, 6], [1, 5, 6, 28], [8], [4], [5, 6, 9], [5, 6, 9, 10], [5, 6, 9, 10, 44, 45, 46], [5, 6, 9, 10, 44, 45, 46, 47], [5, 6, 9, 10, 12, 44, 45, 46], [5, 6, 9, 10, 12, 13, 44, 45, 46], [5, 6, 9, 10, 13, 44, 45, 46, 50, 51, 52], [5, 6, 9, 10, 13, 44, 45, 46, 50, 51, 52, 53], [5, 6, 9, 10, 13, 15, 44, 45, 46, 50, 51, 52], [5, 6, 9, 10, 13, 15, 44, 45, 46, 50, 51, 52, 59], [5, 6, 9, 10, 13, 44, 45, 46, 50, 51, 52], [5, 6, 9, 10, 13, 15, 44, 45, 46, 50, 51, 52, 67], [5, 6, 9, 10, 13, 44, 45, 46, 50, 51, 52], [5, 6, 9, 10, 13, 44, 45, 46, 50, 51, 52], [5, 6, 9, 10, 13, 44, 45, 46, 75], [5, 6, 9, 10, 44, 45, 46], [5, 6, 9, 10, 44, 45, 46], [5, 6, 10, 16, 17], [5, 10, 16, 17, 19], [5, 16, 108], [4], [5, 16, 17, 20], [5, 17, 19, 20, 21], [4]] Tryd.func12 (by kernel_rfl) (by kernel_rfl) (by kernel_rfl) (by kernel_rfl) (by decide)
end Go.Sx.Ch
