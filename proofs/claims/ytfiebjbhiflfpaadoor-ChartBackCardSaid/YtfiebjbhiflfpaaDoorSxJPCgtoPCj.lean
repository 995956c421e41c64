/- The codes of the functions, written by a program (Gen.lean), and that they are the functions'. No conditions. -/
import Derived.Test.YtfiebjbhiflfpaaDoorSxJNtoNq
import Derived.KernelRfl
import Derived.Test.YtfiebjbhiflfpaaDoorProg
import Derived.Test.YtfiebjbhiflfpaaDoorSxPCf
import Derived.Test.YtfiebjbhiflfpaaDoorSxO
import Derived.Test.YtfiebjbhiflfpaaDoorSxJW
set_option linter.unusedVariables false
set_option linter.unusedSimpArgs false
section
set_option maxRecDepth 100000
namespace Go.Sx.Ch
open Go Go.Sx Go.Proofs
noncomputable def p62_r0 : List PI := [
  ⟨none, some 5, [0], .eff fun e => ret (e 0)⟩,
  ⟨none, some 6, [5], .eff fun e => effLenSl (e 5)⟩,
  ⟨none, some 4, [6], .eff fun e => ret (e 6)⟩]
noncomputable def p62_r1 : List PI := [
  ⟨none, some 7, [0], .eff fun e => ret (e 0)⟩,
  ⟨none, some 8, [4], .eff fun e => ret (e 4)⟩,
  ⟨none, some 9, [4], .eff fun e => ret (e 4)⟩,
  ⟨none, some 10, [9], .eff fun e => effCi .u64 (e 9)⟩,
  ⟨none, some 11, [10], .call 95 ([.tmp 10])⟩,
  ⟨none, some 12, [1], .eff fun e => ret (e 1)⟩,
  ⟨none, some 13, [7, 8, 11, 12], .call 94 ([.tmp 7, .const (.int .i64 0), .tmp 8, .tmp 11, .tmp 12])⟩]
noncomputable def p62 : PCode := (.seq (.reg p62_r0 [0, 1, 4]) (.reg p62_r1 []))
theorem P62 : PFn Tryd.prog 62 ⟨p62, [], 14⟩ := .mk2 Tryd.f62 (Tryd.f62.body.getD .skip) [[0, 1, 4], []] Tryd.func62 (by kernel_rfl) (by kernel_rfl) (by kernel_rfl) (by kernel_rfl) (by decide)
noncomputable def p94_r0 : List PI := [
  ⟨none, some 10, [], .eff fun e => ret (.v (.bool true))⟩]
noncomputable def p94_r1 : List PI := [
  ⟨none, some 11, [], .eff fun e => ret (.v (.bool true))⟩]
noncomputable def p94_r2 : List PI := [
  ⟨none, some 21, [2], .eff fun e => ret (e 2)⟩,
  ⟨none, some 22, [1], .eff fun e => ret (e 1)⟩,
  ⟨none, some 23, [21, 22], .eff fun e => effIb .sub (e 21) (e 22)⟩,
  ⟨none, some 12, [23], .eff fun e => ret (e 23)⟩]
noncomputable def p94_r3 : List PI := [
  ⟨none, some 24, [12], .eff fun e => ret (e 12)⟩,
  ⟨none, some 25, [24], .eff fun e => effIb .leq (e 24) (.v (.int .i64 12))⟩]
noncomputable def p94_r4 : List PI := [
  ⟨none, some 26, [0], .eff fun e => ret (e 0)⟩,
  ⟨none, some 27, [1], .eff fun e => ret (e 1)⟩,
  ⟨none, some 28, [2], .eff fun e => ret (e 2)⟩,
  ⟨none, some 29, [4], .eff fun e => ret (e 4)⟩,
  ⟨none, some 30, [26, 27, 28, 29], .call 104 ([.tmp 26, .tmp 27, .tmp 28, .tmp 29])⟩]
noncomputable def p94_r5 : List PI := [
  ⟨none, some 31, [3], .eff fun e => ret (e 3)⟩,
  ⟨none, some 32, [31], .eff fun e => effIb .eql (e 31) (.v (.int .i64 0))⟩]
noncomputable def p94_r6 : List PI := [
  ⟨none, some 33, [0], .eff fun e => ret (e 0)⟩,
  ⟨none, some 34, [1], .eff fun e => ret (e 1)⟩,
  ⟨none, some 35, [2], .eff fun e => ret (e 2)⟩,
  ⟨none, some 36, [4], .eff fun e => ret (e 4)⟩,
  ⟨none, some 37, [33, 34, 35, 36], .call 105 ([.tmp 33, .tmp 34, .tmp 35, .tmp 36])⟩]
noncomputable def p94_r7 : List PI := [
  ⟨none, some 38, [10], .eff fun e => ret (e 10)⟩,
  ⟨none, some 39, [38], .eff fun e => effNt (e 38)⟩]
noncomputable def p94_r8 : List PI := [
  ⟨none, some 40, [0], .eff fun e => ret (e 0)⟩,
  ⟨none, some 41, [1], .eff fun e => ret (e 1)⟩,
  ⟨none, some 42, [2], .eff fun e => ret (e 2)⟩,
  ⟨none, some 43, [4], .eff fun e => ret (e 4)⟩,
  ⟨none, some 44, [40, 41, 42, 43], .call 106 ([.tmp 40, .tmp 41, .tmp 42, .tmp 43])⟩]
noncomputable def p94_r9 : List PI := [
  ⟨none, some 45, [3], .eff fun e => ret (e 3)⟩,
  ⟨none, some 46, [45], .eff fun e => effIb .sub (e 45) (.v (.int .i64 1))⟩,
  ⟨none, some 3, [46], .eff fun e => ret (e 46)⟩]
noncomputable def p94_r10 : List PI := [
  ⟨none, some 48, [0], .eff fun e => ret (e 0)⟩,
  ⟨none, some 49, [1], .eff fun e => ret (e 1)⟩,
  ⟨none, some 50, [2], .eff fun e => ret (e 2)⟩,
  ⟨none, some 51, [4], .eff fun e => ret (e 4)⟩,
  ⟨none, some 52, [48, 49, 50, 51], .call 107 ([.tmp 48, .tmp 49, .tmp 50, .tmp 51])⟩,
  ⟨none, some 47, [52], .eff fun e => ret (e 52)⟩,
  ⟨none, some 53, [47], .eff fun e => effExt 0 (e 47)⟩,
  ⟨none, some 54, [47], .eff fun e => effExt 1 (e 47)⟩,
  ⟨none, some 13, [53], .eff fun e => ret (e 53)⟩,
  ⟨none, some 14, [54], .eff fun e => ret (e 54)⟩]
noncomputable def p94_r11 : List PI := [
  ⟨none, some 55, [14], .eff fun e => ret (e 14)⟩,
  ⟨none, some 56, [55], .eff fun e => effIb .eql (e 55) (.v (.int .i64 2))⟩]
noncomputable def p94_r12 : List PI := [
  ⟨none, some 57, [0], .eff fun e => ret (e 0)⟩,
  ⟨none, some 58, [1], .eff fun e => ret (e 1)⟩,
  ⟨none, some 59, [2], .eff fun e => ret (e 2)⟩,
  ⟨none, some 60, [4], .eff fun e => ret (e 4)⟩,
  ⟨none, some 61, [57, 58, 59, 60], .call 108 ([.tmp 57, .tmp 58, .tmp 59, .tmp 60])⟩]
noncomputable def p94_r13 : List PI := [
  ⟨none, some 62, [2], .eff fun e => ret (e 2)⟩,
  ⟨none, some 63, [62], .eff fun e => effIb .sub (e 62) (.v (.int .i64 1))⟩,
  ⟨none, some 64, [13], .eff fun e => ret (e 13)⟩,
  ⟨none, some 65, [1], .eff fun e => ret (e 1)⟩,
  ⟨none, some 66, [64, 65], .eff fun e => effIb .sub (e 64) (e 65)⟩,
  ⟨none, some 67, [63, 66], .eff fun e => effIb .sub (e 63) (e 66)⟩,
  ⟨none, some 13, [67], .eff fun e => ret (e 67)⟩]
noncomputable def p94_r14 : List PI := [
  ⟨none, some 14, [], .eff fun e => ret (.v (.int .i64 1))⟩]
noncomputable def p94_r15 : List PI := [
  ⟨none, some 68, [10], .eff fun e => ret (e 10)⟩,
  ⟨none, some 69, [68], .eff fun e => ret (e 68)⟩,
  ⟨some (69, true), some 70, [11], .eff fun e => ret (e 11)⟩,
  ⟨none, some 71, [69, 70], .eff fun e => effPick (e 69) (e 70) (.v (.bool false))⟩,
  ⟨none, some 72, [71], .eff fun e => ret (e 71)⟩,
  ⟨some (72, true), some 73, [14], .eff fun e => ret (e 14)⟩,
  ⟨some (72, true), some 74, [73], .eff fun e => effIb .eql (e 73) (.v (.int .i64 1))⟩,
  ⟨none, some 75, [72, 74], .eff fun e => effPick (e 72) (e 74) (.v (.bool false))⟩]
noncomputable def p94_r16 : List PI := [
  ⟨none, some 76, [0], .eff fun e => ret (e 0)⟩,
  ⟨none, some 77, [1], .eff fun e => ret (e 1)⟩,
  ⟨none, some 78, [2], .eff fun e => ret (e 2)⟩,
  ⟨none, some 79, [4], .eff fun e => ret (e 4)⟩,
  ⟨none, some 80, [76, 77, 78, 79], .call 109 ([.tmp 76, .tmp 77, .tmp 78, .tmp 79])⟩]
noncomputable def p94_r17 : List PI := [
  ⟨none, some 81, [1], .eff fun e => ret (e 1)⟩,
  ⟨none, some 82, [81], .eff fun e => effIb .gtr (e 81) (.v (.int .i64 0))⟩,
  ⟨none, some 83, [82], .eff fun e => ret (e 82)⟩,
  ⟨some (83, true), some 84, [4], .eff fun e => ret (e 4)⟩,
  ⟨some (83, true), some 85, [0], .eff fun e => ret (e 0)⟩,
  ⟨some (83, true), some 86, [1], .eff fun e => ret (e 1)⟩,
  ⟨some (83, true), some 87, [86], .eff fun e => effIb .sub (e 86) (.v (.int .i64 1))⟩,
  ⟨some (83, true), some 88, [85, 87], .eff fun e => effIdx 1 (e 85) (e 87)⟩,
  ⟨some (83, true), some 89, [88], .eff fun e => effLoad1 (e 88)⟩,
  ⟨some (83, true), some 90, [0], .eff fun e => ret (e 0)⟩,
  ⟨some (83, true), some 91, [13], .eff fun e => ret (e 13)⟩,
  ⟨some (83, true), some 92, [90, 91], .eff fun e => effIdx 1 (e 90) (e 91)⟩,
  ⟨some (83, true), some 93, [92], .eff fun e => effLoad1 (e 92)⟩,
  ⟨some (83, true), some 94, [84, 89, 93], .callv (.tmp 84) ([.tmp 89, .tmp 93])⟩,
  ⟨some (83, true), some 95, [94], .eff fun e => effIb .lss (e 94) (.v (.int .i64 0))⟩,
  ⟨some (83, true), some 96, [95], .eff fun e => effNt (e 95)⟩,
  ⟨none, some 97, [83, 96], .eff fun e => effPick (e 83) (e 96) (.v (.bool false))⟩]
noncomputable def p94_r18 : List PI := [
  ⟨none, some 98, [0], .eff fun e => ret (e 0)⟩,
  ⟨none, some 99, [1], .eff fun e => ret (e 1)⟩,
  ⟨none, some 100, [2], .eff fun e => ret (e 2)⟩,
  ⟨none, some 101, [13], .eff fun e => ret (e 13)⟩,
  ⟨none, some 102, [4], .eff fun e => ret (e 4)⟩,
  ⟨none, some 103, [98, 99, 100, 101, 102], .call 110 ([.tmp 98, .tmp 99, .tmp 100, .tmp 101, .tmp 102])⟩,
  ⟨none, some 15, [103], .eff fun e => ret (e 103)⟩]
noncomputable def p94_r19 : List PI := [
  ⟨none, some 104, [15], .eff fun e => ret (e 15)⟩,
  ⟨none, some 1, [104], .eff fun e => ret (e 104)⟩]
noncomputable def p94_r20 : List PI := [
  ⟨none, some 106, [0], .eff fun e => ret (e 0)⟩,
  ⟨none, some 107, [1], .eff fun e => ret (e 1)⟩,
  ⟨none, some 108, [2], .eff fun e => ret (e 2)⟩,
  ⟨none, some 109, [13], .eff fun e => ret (e 13)⟩,
  ⟨none, some 110, [4], .eff fun e => ret (e 4)⟩,
  ⟨none, some 111, [106, 107, 108, 109, 110], .call 111 ([.tmp 106, .tmp 107, .tmp 108, .tmp 109, .tmp 110])⟩,
  ⟨none, some 105, [111], .eff fun e => ret (e 111)⟩,
  ⟨none, some 112, [105], .eff fun e => effExt 0 (e 105)⟩,
  ⟨none, some 113, [105], .eff fun e => effExt 1 (e 105)⟩,
  ⟨none, some 16, [112], .eff fun e => ret (e 112)⟩,
  ⟨none, some 17, [113], .eff fun e => ret (e 113)⟩]
noncomputable def p94_r21 : List PI := [
  ⟨none, some 114, [17], .eff fun e => ret (e 17)⟩,
  ⟨none, some 11, [114], .eff fun e => ret (e 114)⟩]
noncomputable def p94_r22 : List PI := [
  ⟨none, some 115, [16], .eff fun e => ret (e 16)⟩,
  ⟨none, some 116, [1], .eff fun e => ret (e 1)⟩,
  ⟨none, some 117, [115, 116], .eff fun e => effIb .sub (e 115) (e 116)⟩,
  ⟨none, some 118, [2], .eff fun e => ret (e 2)⟩,
  ⟨none, some 119, [16], .eff fun e => ret (e 16)⟩,
  ⟨none, some 120, [118, 119], .eff fun e => effIb .sub (e 118) (e 119)⟩,
  ⟨none, some 18, [117], .eff fun e => ret (e 117)⟩,
  ⟨none, some 19, [120], .eff fun e => ret (e 120)⟩]
noncomputable def p94_r23 : List PI := [
  ⟨none, some 121, [12], .eff fun e => ret (e 12)⟩,
  ⟨none, some 122, [121], .eff fun e => effIb .quo (e 121) (.v (.int .i64 8))⟩,
  ⟨none, some 20, [122], .eff fun e => ret (e 122)⟩]
noncomputable def p94_r24 : List PI := [
  ⟨none, some 123, [18], .eff fun e => ret (e 18)⟩,
  ⟨none, some 124, [19], .eff fun e => ret (e 19)⟩,
  ⟨none, some 125, [123, 124], .eff fun e => effIb .lss (e 123) (e 124)⟩]
noncomputable def p94_r25 : List PI := [
  ⟨none, some 126, [18], .eff fun e => ret (e 18)⟩,
  ⟨none, some 127, [20], .eff fun e => ret (e 20)⟩,
  ⟨none, some 128, [126, 127], .eff fun e => effIb .geq (e 126) (e 127)⟩,
  ⟨none, some 10, [128], .eff fun e => ret (e 128)⟩]
noncomputable def p94_r26 : List PI := [
  ⟨none, some 129, [0], .eff fun e => ret (e 0)⟩,
  ⟨none, some 130, [1], .eff fun e => ret (e 1)⟩,
  ⟨none, some 131, [16], .eff fun e => ret (e 16)⟩,
  ⟨none, some 132, [3], .eff fun e => ret (e 3)⟩,
  ⟨none, some 133, [4], .eff fun e => ret (e 4)⟩,
  ⟨none, some 134, [129, 130, 131, 132, 133], .call 94 ([.tmp 129, .tmp 130, .tmp 131, .tmp 132, .tmp 133])⟩]
noncomputable def p94_r27 : List PI := [
  ⟨none, some 135, [16], .eff fun e => ret (e 16)⟩,
  ⟨none, some 136, [135], .eff fun e => effIb .add (e 135) (.v (.int .i64 1))⟩,
  ⟨none, some 1, [136], .eff fun e => ret (e 136)⟩]
noncomputable def p94_r28 : List PI := [
  ⟨none, some 137, [19], .eff fun e => ret (e 19)⟩,
  ⟨none, some 138, [20], .eff fun e => ret (e 20)⟩,
  ⟨none, some 139, [137, 138], .eff fun e => effIb .geq (e 137) (e 138)⟩,
  ⟨none, some 10, [139], .eff fun e => ret (e 139)⟩]
noncomputable def p94_r29 : List PI := [
  ⟨none, some 140, [0], .eff fun e => ret (e 0)⟩,
  ⟨none, some 141, [16], .eff fun e => ret (e 16)⟩,
  ⟨none, some 142, [141], .eff fun e => effIb .add (e 141) (.v (.int .i64 1))⟩,
  ⟨none, some 143, [2], .eff fun e => ret (e 2)⟩,
  ⟨none, some 144, [3], .eff fun e => ret (e 3)⟩,
  ⟨none, some 145, [4], .eff fun e => ret (e 4)⟩,
  ⟨none, some 146, [140, 142, 143, 144, 145], .call 94 ([.tmp 140, .tmp 142, .tmp 143, .tmp 144, .tmp 145])⟩]
noncomputable def p94_r30 : List PI := [
  ⟨none, some 147, [16], .eff fun e => ret (e 16)⟩,
  ⟨none, some 2, [147], .eff fun e => ret (e 147)⟩]
noncomputable def p94_l0 : PCode := (.block 1 (.seq (.reg p94_r2 [0, 1, 2, 3, 4, 10, 11, 12]) (.seq (.seq (.reg p94_r3 [0, 1, 2, 3, 4, 10, 11, 12, 25]) (.cond (.tmp 25) (.seq (.reg p94_r4 []) .ret) .skip)) (.seq (.seq (.reg p94_r5 [0, 1, 2, 3, 4, 10, 11, 12, 32]) (.cond (.tmp 32) (.seq (.reg p94_r6 []) .ret) .skip)) (.seq (.seq (.reg p94_r7 [0, 1, 2, 3, 4, 10, 11, 12, 39]) (.cond (.tmp 39) (.seq (.reg p94_r8 [0, 1, 2, 3, 4, 10, 11, 12]) (.reg p94_r9 [0, 1, 2, 3, 4, 10, 11, 12])) .skip)) (.seq (.reg p94_r10 [0, 1, 2, 3, 4, 10, 11, 12, 13, 14]) (.seq (.seq (.reg p94_r11 [0, 1, 2, 3, 4, 10, 11, 12, 13, 14, 56]) (.cond (.tmp 56) (.seq (.reg p94_r12 [0, 1, 2, 3, 4, 10, 11, 12, 13]) (.seq (.reg p94_r13 [0, 1, 2, 3, 4, 10, 11, 12, 13]) (.reg p94_r14 [0, 1, 2, 3, 4, 10, 11, 12, 13, 14]))) .skip)) (.seq (.seq (.reg p94_r15 [0, 1, 2, 3, 4, 10, 11, 12, 13, 75]) (.cond (.tmp 75) (.seq (.reg p94_r16 [0, 1, 2, 3, 4, 10, 11, 12, 13, 80]) (.cond (.tmp 80) .ret .skip)) .skip)) (.seq (.seq (.draw p94_r17 [[], [0], [1, 0], [2, 1, 0], [2, 1, 0], [2, 1, 0], [5, 2, 1, 0], [4, 6, 5, 2, 1, 0], [7, 4, 6, 5, 2, 1, 0], [2, 1, 0], [2, 1, 0], [9, 10, 2, 1, 0], [11, 9, 10, 2, 1, 0], [3, 8, 12, 7, 4, 6, 5, 11, 9, 10, 2, 1, 0], [13, 3, 8, 12, 7, 4, 6, 5, 11, 9, 10, 2, 1, 0], [14, 13, 3, 8, 12, 7, 4, 6, 5, 11, 9, 10, 2, 1, 0], [15, 14, 13, 3, 8, 12, 7, 4, 6, 5, 11, 9, 10, 2, 1, 0]] [0, 1, 2, 3, 4, 10, 11, 12, 13, 97]) (.cond (.tmp 97) (.seq (.reg p94_r18 [0, 2, 3, 4, 10, 11, 15]) (.seq (.reg p94_r19 [0, 1, 2, 3, 4, 10, 11]) (.exit 1))) .skip)) (.seq (.reg p94_r20 [0, 1, 2, 3, 4, 12, 16, 17]) (.seq (.reg p94_r21 [0, 1, 2, 3, 4, 11, 12, 16]) (.seq (.reg p94_r22 [0, 1, 2, 3, 4, 11, 12, 16, 18, 19]) (.seq (.reg p94_r23 [0, 1, 2, 3, 4, 11, 16, 18, 19, 20]) (.seq (.reg p94_r24 [0, 1, 2, 3, 4, 11, 16, 18, 19, 20, 125]) (.cond (.tmp 125) (.seq (.reg p94_r25 [0, 1, 2, 3, 4, 10, 11, 16]) (.seq (.reg p94_r26 [0, 2, 3, 4, 10, 11, 16]) (.reg p94_r27 [0, 1, 2, 3, 4, 10, 11]))) (.seq (.reg p94_r28 [0, 1, 2, 3, 4, 10, 11, 16]) (.seq (.reg p94_r29 [0, 1, 3, 4, 10, 11, 16]) (.reg p94_r30 [0, 1, 2, 3, 4, 10, 11]))))))))))))))))))
noncomputable def p94 : PCode := (.seq (.reg p94_r0 [0, 1, 2, 3, 4, 10]) (.seq (.reg p94_r1 [0, 1, 2, 3, 4, 10, 11]) (.block 0 (.loop p94_l0))))
theorem P94 : PFn Tryd.prog 94 ⟨p94, [], 148⟩ := .mk2 Tryd.f94 (Tryd.f94.body.getD .skip) [[0, 1, 2, 3, 4, 10], [0, 1, 2, 3, 4, 10, 11], [0, 1, 2, 3, 4, 10, 11, 12], [0, 1, 2, 3, 4, 10, 11, 12, 25], [], [0, 1, 2, 3, 4, 10, 11, 12, 32], [], [0, 1, 2, 3, 4, 10, 11, 12, 39], [0, 1, 2, 3, 4, 10, 11, 12], [0, 1, 2, 3, 4, 10, 11, 12], [0, 1, 2, 3, 4, 10, 11, 12, 13, 14], [0, 1, 2, 3, 4, 10, 11, 12, 13, 14, 56], [0, 1, 2, 3, 4, 10, 11, 12, 13], [0, 1, 2, 3, 4, 10, 11, 12, 13], [0, 1, 2, 3, 4, 10, 11, 12, 13, 14], [0, 1, 2, 3, 4, 10, 11, 12, 13, 75], [0, 1, 2, 3, 4, 10, 11, 12, 13, 80], [0, 1, 2, 3, 4, 10, 11, 12, 13, 97], [0, 2, 3, 4, 10, 11, 15], [0, 1, 2, 3, 4, 10, 11], [0, 1, 2, 3, 4, 12, 16, 17], [0, 1, 2, 3, 4, 11, 12, 16], [0, 1, 2, 3, 4, 11, 12, 16, 18, 19], [0, 1, 2, 3, 4, 11, 16, 18, 19, 20], [0, 1, 2, 3, 4, 11, 16, 18, 19, 20, 125], [0, 1, 2, 3, 4, 10, 11, 16], [0, 2, 3, 4, 10, 11, 16], [0, 1, 2, 3, 4, 10, 11], [0, 1, 2, 3, 4, 10, 11, 16], [0, 1, 3, 4, 10, 11, 16], [0, 1, 2, 3, 4, 10, 11]] Tryd.func94 (by kernel_rfl) (by kernel_rfl) (by kernel_rfl) (by kernel_rfl) (by decide)
noncomputable def p112_r0 : List PI := [
  ⟨none, some 2, [], .eff fun e => ret (.v (.int .i64 0))⟩]
noncomputable def p112_r1 : List PI := [
  ⟨none, some 3, [0], .eff fun e => ret (e 0)⟩,
  ⟨none, some 4, [3], .eff fun e => effIb .geq (e 3) (.v (.int .u32 65536))⟩]
noncomputable def p112_r2 : List PI := [
  ⟨none, some 5, [0], .eff fun e => ret (e 0)⟩,
  ⟨none, some 6, [5], .eff fun e => SOp.eff Tryd.prog (evalA e) (SOp.bin .shr 65 (.tmp 5) (.const (.int .u64 16)))⟩,
  ⟨none, some 0, [6], .eff fun e => ret (e 6)⟩]
noncomputable def p112_r3 : List PI := [
  ⟨none, some 2, [], .eff fun e => ret (.v (.int .i64 16))⟩]
noncomputable def p112_r4 : List PI := [
  ⟨none, some 7, [0], .eff fun e => ret (e 0)⟩,
  ⟨none, some 8, [7], .eff fun e => effIb .geq (e 7) (.v (.int .u32 256))⟩]
noncomputable def p112_r5 : List PI := [
  ⟨none, some 9, [0], .eff fun e => ret (e 0)⟩,
  ⟨none, some 10, [9], .eff fun e => SOp.eff Tryd.prog (evalA e) (SOp.bin .shr 65 (.tmp 9) (.const (.int .u64 8)))⟩,
  ⟨none, some 0, [10], .eff fun e => ret (e 10)⟩]
noncomputable def p112_r6 : List PI := [
  ⟨none, some 11, [2], .eff fun e => ret (e 2)⟩,
  ⟨none, some 12, [11], .eff fun e => effIb .add (e 11) (.v (.int .i64 8))⟩,
  ⟨none, some 2, [12], .eff fun e => ret (e 12)⟩]
noncomputable def p112_r7 : List PI := [
  ⟨none, some 13, [2], .eff fun e => ret (e 2)⟩,
  ⟨none, some 14, [0], .eff fun e => ret (e 0)⟩,
  ⟨none, some 15, [14], .eff fun e => effCi .u8 (e 14)⟩,
  ⟨none, some 16, [15], .eff fun e => effIdxS (.v (Value.string (⟨#[0, 1, 2, 2, 3, 3, 3, 3, 4, 4, 4, 4, 4, 4, 4, 4, 5, 5, 5, 5, 5, 5, 5, 5, 5, 5, 5, 5, 5, 5, 5, 5, 6, 6, 6, 6, 6, 6, 6, 6, 6, 6, 6, 6, 6, 6, 6, 6, 6, 6, 6, 6, 6, 6, 6, 6, 6, 6, 6, 6, 6, 6, 6, 6, 7, 7, 7, 7, 7, 7, 7, 7, 7, 7, 7, 7, 7, 7, 7, 7, 7, 7, 7, 7, 7, 7, 7, 7, 7, 7, 7, 7, 7, 7, 7, 7, 7, 7, 7, 7, 7, 7, 7, 7, 7, 7, 7, 7, 7, 7, 7, 7, 7, 7, 7, 7, 7, 7, 7, 7, 7, 7, 7, 7, 7, 7, 7, 7, 8, 8, 8, 8, 8, 8, 8, 8, 8, 8, 8, 8, 8, 8, 8, 8, 8, 8, 8, 8, 8, 8, 8, 8, 8, 8, 8, 8, 8, 8, 8, 8, 8, 8, 8, 8, 8, 8, 8, 8, 8, 8, 8, 8, 8, 8, 8, 8, 8, 8, 8, 8, 8, 8, 8, 8, 8, 8, 8, 8, 8, 8, 8, 8, 8, 8, 8, 8, 8, 8, 8, 8, 8, 8, 8, 8, 8, 8, 8, 8, 8, 8, 8, 8, 8, 8, 8, 8, 8, 8, 8, 8, 8, 8, 8, 8, 8, 8, 8, 8, 8, 8, 8, 8, 8, 8, 8, 8, 8, 8, 8, 8, 8, 8, 8, 8, 8, 8, 8, 8, 8, 8, 8, 8, 8, 8, 8, 8]⟩ : ByteArray))) (e 15)⟩,
  ⟨none, some 17, [16], .eff fun e => effCi .i64 (e 16)⟩,
  ⟨none, some 18, [13, 17], .eff fun e => effIb .add (e 13) (e 17)⟩,
  ⟨none, some 2, [18], .eff fun e => ret (e 18)⟩]
noncomputable def p112 : PCode := (.seq (.reg p112_r0 [0, 2]) (.seq (.seq (.reg p112_r1 [0, 2, 4]) (.cond (.tmp 4) (.seq (.reg p112_r2 [0]) (.reg p112_r3 [0, 2])) .skip)) (.seq (.seq (.reg p112_r4 [0, 2, 8]) (.cond (.tmp 8) (.seq (.reg p112_r5 [0, 2]) (.reg p112_r6 [0, 2])) .skip)) (.seq (.reg p112_r7 [2]) .ret))))
theorem P112 : PFn Tryd.prog 112 ⟨p112, [.tmp 2], 19⟩ := .mk2 Tryd.f112 (Tryd.f112.body.getD .skip) [[0, 2], [0, 2, 4], [0], [0, 2], [0, 2, 8], [0, 2], [0, 2], [2]] Tryd.func112 (by kernel_rfl) (by kernel_rfl) (by kernel_rfl) (by kernel_rfl) (by decide)
noncomputable def p113_r0 : List PI := [
  ⟨none, some 2, [], .eff fun e => ret (.v (.int .i64 0))⟩]
noncomputable def p113_r1 : List PI := [
  ⟨none, some 3, [0], .eff fun e => ret (e 0)⟩,
  ⟨none, some 4, [3], .eff fun e => effIb .geq (e 3) (.v (.int .u64 4294967296))⟩]
noncomputable def p113_r2 : List PI := [
  ⟨none, some 5, [0], .eff fun e => ret (e 0)⟩,
  ⟨none, some 6, [5], .eff fun e => SOp.eff Tryd.prog (evalA e) (SOp.bin .shr 126 (.tmp 5) (.const (.int .u64 32)))⟩,
  ⟨none, some 0, [6], .eff fun e => ret (e 6)⟩]
noncomputable def p113_r3 : List PI := [
  ⟨none, some 2, [], .eff fun e => ret (.v (.int .i64 32))⟩]
noncomputable def p113_r4 : List PI := [
  ⟨none, some 7, [0], .eff fun e => ret (e 0)⟩,
  ⟨none, some 8, [7], .eff fun e => effIb .geq (e 7) (.v (.int .u64 65536))⟩]
noncomputable def p113_r5 : List PI := [
  ⟨none, some 9, [0], .eff fun e => ret (e 0)⟩,
  ⟨none, some 10, [9], .eff fun e => SOp.eff Tryd.prog (evalA e) (SOp.bin .shr 126 (.tmp 9) (.const (.int .u64 16)))⟩,
  ⟨none, some 0, [10], .eff fun e => ret (e 10)⟩]
noncomputable def p113_r6 : List PI := [
  ⟨none, some 11, [2], .eff fun e => ret (e 2)⟩,
  ⟨none, some 12, [11], .eff fun e => effIb .add (e 11) (.v (.int .i64 16))⟩,
  ⟨none, some 2, [12], .eff fun e => ret (e 12)⟩]
noncomputable def p113_r7 : List PI := [
  ⟨none, some 13, [0], .eff fun e => ret (e 0)⟩,
  ⟨none, some 14, [13], .eff fun e => effIb .geq (e 13) (.v (.int .u64 256))⟩]
noncomputable def p113_r8 : List PI := [
  ⟨none, some 15, [0], .eff fun e => ret (e 0)⟩,
  ⟨none, some 16, [15], .eff fun e => SOp.eff Tryd.prog (evalA e) (SOp.bin .shr 126 (.tmp 15) (.const (.int .u64 8)))⟩,
  ⟨none, some 0, [16], .eff fun e => ret (e 16)⟩]
noncomputable def p113_r9 : List PI := [
  ⟨none, some 17, [2], .eff fun e => ret (e 2)⟩,
  ⟨none, some 18, [17], .eff fun e => effIb .add (e 17) (.v (.int .i64 8))⟩,
  ⟨none, some 2, [18], .eff fun e => ret (e 18)⟩]
noncomputable def p113_r10 : List PI := [
  ⟨none, some 19, [2], .eff fun e => ret (e 2)⟩,
  ⟨none, some 20, [0], .eff fun e => ret (e 0)⟩,
  ⟨none, some 21, [20], .eff fun e => effCi .u8 (e 20)⟩,
  ⟨none, some 22, [21], .eff fun e => effIdxS (.v (Value.string (⟨#[0, 1, 2, 2, 3, 3, 3, 3, 4, 4, 4, 4, 4, 4, 4, 4, 5, 5, 5, 5, 5, 5, 5, 5, 5, 5, 5, 5, 5, 5, 5, 5, 6, 6, 6, 6, 6, 6, 6, 6, 6, 6, 6, 6, 6, 6, 6, 6, 6, 6, 6, 6, 6, 6, 6, 6, 6, 6, 6, 6, 6, 6, 6, 6, 7, 7, 7, 7, 7, 7, 7, 7, 7, 7, 7, 7, 7, 7, 7, 7, 7, 7, 7, 7, 7, 7, 7, 7, 7, 7, 7, 7, 7, 7, 7, 7, 7, 7, 7, 7, 7, 7, 7, 7, 7, 7, 7, 7, 7, 7, 7, 7, 7, 7, 7, 7, 7, 7, 7, 7, 7, 7, 7, 7, 7, 7, 7, 7, 8, 8, 8, 8, 8, 8, 8, 8, 8, 8, 8, 8, 8, 8, 8, 8, 8, 8, 8, 8, 8, 8, 8, 8, 8, 8, 8, 8, 8, 8, 8, 8, 8, 8, 8, 8, 8, 8, 8, 8, 8, 8, 8, 8, 8, 8, 8, 8, 8, 8, 8, 8, 8, 8, 8, 8, 8, 8, 8, 8, 8, 8, 8, 8, 8, 8, 8, 8, 8, 8, 8, 8, 8, 8, 8, 8, 8, 8, 8, 8, 8, 8, 8, 8, 8, 8, 8, 8, 8, 8, 8, 8, 8, 8, 8, 8, 8, 8, 8, 8, 8, 8, 8, 8, 8, 8, 8, 8, 8, 8, 8, 8, 8, 8, 8, 8, 8, 8, 8, 8, 8, 8, 8, 8, 8, 8, 8, 8]⟩ : ByteArray))) (e 21)⟩,
  ⟨none, some 23, [22], .eff fun e => effCi .i64 (e 22)⟩,
  ⟨none, some 24, [19, 23], .eff fun e => effIb .add (e 19) (e 23)⟩,
  ⟨none, some 2, [24], .eff fun e => ret (e 24)⟩]
noncomputable def p113 : PCode := (.seq (.reg p113_r0 [0, 2]) (.seq (.seq (.reg p113_r1 [0, 2, 4]) (.cond (.tmp 4) (.seq (.reg p113_r2 [0]) (.reg p113_r3 [0, 2])) .skip)) (.seq (.seq (.reg p113_r4 [0, 2, 8]) (.cond (.tmp 8) (.seq (.reg p113_r5 [0, 2]) (.reg p113_r6 [0, 2])) .skip)) (.seq (.seq (.reg p113_r7 [0, 2, 14]) (.cond (.tmp 14) (.seq (.reg p113_r8 [0, 2]) (.reg p113_r9 [0, 2])) .skip)) (.seq (.reg p113_r10 [2]) .ret)))))
theorem P113 : PFn Tryd.prog 113 ⟨p113, [.tmp 2], 25⟩ := .mk2 Tryd.f113 (Tryd.f113.body.getD .skip) [[0, 2], [0, 2, 4], [0], [0, 2], [0, 2, 8], [0, 2], [0, 2], [0, 2, 14], [0, 2], [0, 2], [2]] Tryd.func113 (by kernel_rfl) (by kernel_rfl) (by kernel_rfl) (by kernel_rfl) (by decide)
end Go.Sx.Ch
end
section
set_option maxRecDepth 100000
namespace Go.Sx.Ch
open Go Go.Sx Go.Proofs
noncomputable def p95_r0 : List PI := [
  ⟨none, some 2, [], .eff fun e => ret (.v (.int .i64 0))⟩]
noncomputable def p95_r1 : List PI := [
  ⟨none, some 3, [0], .eff fun e => ret (e 0)⟩,
  ⟨none, some 4, [3], .eff fun e => effCi .u32 (e 3)⟩,
  ⟨none, some 5, [4], .call 112 ([.tmp 4])⟩,
  ⟨none, some 2, [5], .eff fun e => ret (e 5)⟩]
noncomputable def p95_r2 : List PI := [
  ⟨none, some 6, [0], .eff fun e => ret (e 0)⟩,
  ⟨none, some 7, [6], .call 113 ([.tmp 6])⟩,
  ⟨none, some 2, [7], .eff fun e => ret (e 7)⟩]
noncomputable def p95 : PCode := (.seq (.reg p95_r0 [0]) (.seq (.cond (.const (.bool false)) (.seq (.reg p95_r1 [2]) .ret) .skip) (.seq (.reg p95_r2 [2]) .ret)))
theorem P95 : PFn Tryd.prog 95 ⟨p95, [.tmp 2], 8⟩ := .mk2 Tryd.f95 (Tryd.f95.body.getD .skip) [[0], [2], [2]] Tryd.func95 (by kernel_rfl) (by kernel_rfl) (by kernel_rfl) (by kernel_rfl) (by decide)
end Go.Sx.Ch
end
section
namespace Go.Sx.Ch
open Go Go.Sx Go.Proofs
noncomputable def tabS : List (Nat × PEnt) := [
  (95, ⟨p95, [SRes.tmp 2], 8⟩),
  (112, ⟨p112, [SRes.tmp 2], 19⟩),
  (113, ⟨p113, [SRes.tmp 2], 25⟩),
  (115, ⟨p115, [SRes.tmp 2], 7⟩),
  (116, ⟨p116, [SRes.tmp 2], 33⟩)]
theorem tabS_ok : PTabOk Tryd.prog tabS := ⟨P95, P112, P113, P115, P116, trivial⟩
end Go.Sx.Ch
end
section
namespace Go.Sx.Ch
def upF (M : List (List Int)) (a j : Nat) : Nat → Nat → Nat
  | 0, i => i
  | f + 1, i => if i ≤ j ∧ kx M i < kx M a then upF M a j f (i + 1) else i
def dnF (M : List (List Int)) (a i : Nat) : Nat → Nat
  | 0 => 0
  | j + 1 => if i ≤ j + 1 ∧ ¬ kx M (j + 1) < kx M a then dnF M a i j else j + 1
theorem upF_ok (M : List (List Int)) (a j : Nat) : ∀ (f i : Nat), i + f = j + 1 → i ≤ upF M a j f i ∧ upF M a j f i ≤ j + 1 ∧ (∀ p, i ≤ p → p < upF M a j f i → kx M p < kx M a) ∧ (upF M a j f i ≤ j → ¬ kx M (upF M a j f i) < kx M a)
  | 0, i, h => ⟨Nat.le_refl _, by simp only [upF]; omega, fun p h1 h2 => by simp only [upF] at h2; omega, fun h2 => by simp only [upF] at h2; omega⟩
  | f + 1, i, h => by
    simp only [upF]
    by_cases hc : i ≤ j ∧ kx M i < kx M a
    · rw [if_pos hc]
      obtain ⟨h1, h2, h3, h4⟩ := upF_ok M a j f (i + 1) (by omega)
      refine ⟨by omega, h2, fun p hp hp2 => ?_, h4⟩
      by_cases e : p = i
      · rw [e]; exact hc.2
      · exact h3 p (by omega) hp2
    · rw [if_neg hc]
      exact ⟨Nat.le_refl _, by omega, fun p h1 h2 => by omega, fun h2 h3 => hc ⟨h2, h3⟩⟩
theorem dnF_ok (M : List (List Int)) (a i : Nat) (hi : 0 < i) : ∀ j, i ≤ j + 1 → dnF M a i j ≤ j ∧ i ≤ dnF M a i j + 1 ∧ (∀ p, dnF M a i j < p → p ≤ j → ¬ kx M p < kx M a) ∧ (i ≤ dnF M a i j → kx M (dnF M a i j) < kx M a)
  | 0, h => ⟨Nat.le_refl _, by simp only [dnF]; omega, fun p h1 h2 => by omega, fun h2 => by simp only [dnF] at h2; omega⟩
  | j + 1, h => by
    simp only [dnF]
    by_cases hc : i ≤ j + 1 ∧ ¬ kx M (j + 1) < kx M a
    · rw [if_pos hc]
      obtain ⟨h1, h2, h3, h4⟩ := dnF_ok M a i hi j hc.1
      refine ⟨by omega, h2, fun p hp hp2 => ?_, h4⟩
      by_cases e : p = j + 1
      · rw [e]; exact hc.2
      · exact h3 p hp (by omega)
    · rw [if_neg hc]
      refine ⟨Nat.le_refl _, h, fun p h1 h2 => by omega, fun h2 => ?_⟩
      apply Classical.byContradiction
      intro h3
      exact hc ⟨h2, h3⟩
def parL (a : Nat) : Nat → List (List Int) → Nat → Nat → List (List Int) × Nat
  | 0, M, i, j => (M, j)
  | f + 1, M, i, j =>
    if upF M a j (j + 1 - i) i ≤ dnF M a (upF M a j (j + 1 - i) i) j then
      parL a f (swp M (upF M a j (j + 1 - i) i) (dnF M a (upF M a j (j + 1 - i) i) j)) (upF M a j (j + 1 - i) i + 1) (dnF M a (upF M a j (j + 1 - i) i) j - 1)
    else (M, dnF M a (upF M a j (j + 1 - i) i) j)
structure Pt (a b i j : Nat) (M : List (List Int)) : Prop where
  ai : a < i
  jb : j < b
  ij : i ≤ j + 1
  bl : b ≤ M.length
  lo : ∀ p, a < p → p < i → kx M p < kx M a
  hi : ∀ p, j < p → p < b → ¬ kx M p < kx M a
theorem Pt.next {a b i j : Nat} {M : List (List Int)} (h : Pt a b i j M) :
    (upF M a j (j + 1 - i) i ≤ dnF M a (upF M a j (j + 1 - i) i) j → Pt a b (upF M a j (j + 1 - i) i + 1) (dnF M a (upF M a j (j + 1 - i) i) j - 1) (swp M (upF M a j (j + 1 - i) i) (dnF M a (upF M a j (j + 1 - i) i) j)) ∧
      i ≤ upF M a j (j + 1 - i) i ∧ dnF M a (upF M a j (j + 1 - i) i) j ≤ j ∧ Rg (a + 1) b M (swp M (upF M a j (j + 1 - i) i) (dnF M a (upF M a j (j + 1 - i) i) j))) ∧
    (¬ upF M a j (j + 1 - i) i ≤ dnF M a (upF M a j (j + 1 - i) i) j → a ≤ dnF M a (upF M a j (j + 1 - i) i) j ∧ dnF M a (upF M a j (j + 1 - i) i) j < b ∧ (∀ p, a < p → p ≤ dnF M a (upF M a j (j + 1 - i) i) j → kx M p < kx M a) ∧ ∀ p, dnF M a (upF M a j (j + 1 - i) i) j < p → p < b → ¬ kx M p < kx M a) := by
  obtain ⟨ai, jb, ij, hb, lo, hi⟩ := h
  obtain ⟨u1, u2, u3, u4⟩ := upF_ok M a j (j + 1 - i) i (by omega)
  generalize upF M a j (j + 1 - i) i = i' at *
  obtain ⟨d1, d2, d3, d4⟩ := dnF_ok M a i' (by omega) j (by omega)
  generalize dnF M a i' j = j' at *
  have lo' : ∀ p, a < p → p < i' → kx M p < kx M a := fun p h1 h2 => by
    by_cases e : p < i
    · exact lo p h1 e
    · exact u3 p (by omega) h2
  have hi' : ∀ p, j' < p → p < b → ¬ kx M p < kx M a := fun p h1 h2 => by
    by_cases e : j < p
    · exact hi p e h2
    · exact d3 p h1 (by omega)
  constructor
  · intro hle
    have k1 := u4 (by omega)
    have k2 := d4 hle
    have hne : i' ≠ j' := fun e => by rw [e] at k1; exact k1 k2
    have l1 : i' < M.length := by omega
    have l2 : j' < M.length := by omega
    refine ⟨⟨by omega, by omega, by omega, by simpa using hb, fun p h1 h2 => ?_, fun p h1 h2 => ?_⟩, u1, d1, Rg.swp hb ⟨by omega, by omega⟩ ⟨by omega, by omega⟩⟩
    · rw [swp_kx l1 l2, swp_kx l1 l2, if_neg (show ¬ a = j' by omega), if_neg (show ¬ a = i' by omega), if_neg (show ¬ p = j' by omega)]
      by_cases e : p = i'
      · rw [if_pos e]; exact k2
      · rw [if_neg e]; exact lo' p h1 (by omega)
    · rw [swp_kx l1 l2, swp_kx l1 l2, if_neg (show ¬ a = j' by omega), if_neg (show ¬ a = i' by omega)]
      by_cases e : p = j'
      · rw [if_pos e]; exact k1
      · rw [if_neg e, if_neg (by omega)]; exact hi' p (by omega) h2
  · intro hle
    exact ⟨by omega, by omega, fun p h1 h2 => lo' p h1 (by omega), hi'⟩
theorem parL_ok {a b : Nat} : ∀ {f i j : Nat} {M : List (List Int)}, Pt a b i j M → j + 1 < i + f → Rg (a + 1) b M (parL a f M i j).1 ∧ a ≤ (parL a f M i j).2 ∧ (parL a f M i j).2 < b ∧ (∀ p, a < p → p ≤ (parL a f M i j).2 → kx (parL a f M i j).1 p < kx (parL a f M i j).1 a) ∧ ∀ p, (parL a f M i j).2 < p → p < b → ¬ kx (parL a f M i j).1 p < kx (parL a f M i j).1 a
  | 0, i, j, M, h, hf => by have := h.ij; omega
  | f + 1, i, j, M, h, hf => by
    obtain ⟨h1, h2⟩ := h.next
    simp only [parL]
    split
    · rename_i hc
      obtain ⟨q1, q2, q3, q4⟩ := h1 hc
      obtain ⟨r1, r2⟩ := parL_ok (f := f) q1 (by have := h.ai; omega)
      exact ⟨q4.trans r1, r2⟩
    · rename_i hc
      obtain ⟨q1, q2, q3, q4⟩ := h2 hc
      exact ⟨.refl _ _ _, q1, q2, q3, q4⟩
def parF (a b pv : Nat) (M : List (List Int)) : List (List Int) × Nat × Bool :=
  if upF (swp M a pv) a (b - 1) (b - 1 + 1 - (a + 1)) (a + 1) ≤ dnF (swp M a pv) a (upF (swp M a pv) a (b - 1) (b - 1 + 1 - (a + 1)) (a + 1)) (b - 1) then
    (swp (parL a b (swp M a pv) (a + 1) (b - 1)).1 (parL a b (swp M a pv) (a + 1) (b - 1)).2 a, (parL a b (swp M a pv) (a + 1) (b - 1)).2, false)
  else (swp (swp M a pv) (dnF (swp M a pv) a (upF (swp M a pv) a (b - 1) (b - 1 + 1 - (a + 1)) (a + 1)) (b - 1)) a, dnF (swp M a pv) a (upF (swp M a pv) a (b - 1) (b - 1 + 1 - (a + 1)) (a + 1)) (b - 1), true)
theorem pt_init {a b pv : Nat} {M : List (List Int)} (hab : a + 1 < b) (hb : b ≤ M.length) : Pt a b (a + 1) (b - 1) (swp M a pv) :=
  ⟨by omega, by omega, by omega, by simpa using hb, fun p h1 h2 => by omega, fun p h1 h2 => by omega⟩
theorem par_end {a b m : Nat} {M N : List (List Int)} (hd : Dst M) (hb : b ≤ M.length) (h : Rg a b M N) (hab : a < b) (ham : a ≤ m) (hm : m < b) (lo : ∀ p, a < p → p ≤ m → kx N p < kx N a) (hi : ∀ p, m < p → p < b → ¬ kx N p < kx N a) :
    Rg a b M (swp N m a) ∧ (∀ p, a ≤ p → p < m → kx (swp N m a) p < kx (swp N m a) m) ∧ ∀ p, m < p → p < b → kx (swp N m a) m < kx (swp N m a) p := by
  have hl := h.len
  have l1 : m < N.length := by omega
  have l2 : a < N.length := by omega
  have dN := hd.of_perm h.perm
  have em : kx (swp N m a) m = kx N a := by
    rw [swp_kx l1 l2]
    split
    · rename_i e; rw [e]
    · rw [if_pos rfl]
  refine ⟨h.trans (Rg.swp (by omega) ⟨by omega, hm⟩ ⟨by omega, hab⟩), fun p h1 h2 => ?_, fun p h1 h2 => ?_⟩
  · rw [em, swp_kx l1 l2]
    by_cases e : p = a
    · rw [if_pos e]; exact lo m (by omega) (Nat.le_refl _)
    · rw [if_neg e, if_neg (by omega)]; exact lo p (by omega) (by omega)
  · rw [em, swp_kx l1 l2, if_neg (by omega), if_neg (by omega)]
    have h3 := hi p h1 h2
    have h4 : kx N p ≠ kx N a := fun e => by have := dN p a (by omega) l2 e; omega
    omega
theorem parF_ok {a b pv : Nat} {M : List (List Int)} (hd : Dst M) (hab : a + 1 < b) (hb : b ≤ M.length) (hp : a ≤ pv ∧ pv < b) :
    Rg a b M (parF a b pv M).1 ∧ a ≤ (parF a b pv M).2.1 ∧ (parF a b pv M).2.1 < b ∧ (∀ p, a ≤ p → p < (parF a b pv M).2.1 → kx (parF a b pv M).1 p < kx (parF a b pv M).1 (parF a b pv M).2.1) ∧
      ∀ p, (parF a b pv M).2.1 < p → p < b → kx (parF a b pv M).1 (parF a b pv M).2.1 < kx (parF a b pv M).1 p := by
  have h0 : Rg a b M (swp M a pv) := Rg.swp hb ⟨by omega, by omega⟩ hp
  have hP := pt_init (pv := pv) hab hb
  unfold parF
  split
  · obtain ⟨r1, r2, r3, r4, r5⟩ := parL_ok (f := b) hP (by omega)
    obtain ⟨q1, q2, q3⟩ := par_end hd hb (h0.trans (r1.sub (by omega) (Nat.le_refl _))) (by omega) r2 r3 r4 r5
    exact ⟨q1, r2, r3, q2, q3⟩
  · rename_i hc
    obtain ⟨r2, r3, r4, r5⟩ := hP.next.2 hc
    obtain ⟨q1, q2, q3⟩ := par_end hd hb h0 (by omega) r2 r3 r4 r5
    exact ⟨q1, r2, r3, q2, q3⟩
theorem srt_parts {a b m : Nat} {M K N : List (List Int)} (hd : Dst M) (hb : b ≤ M.length) (ham : a ≤ m) (hm : m < b) (hlo : ∀ p, a ≤ p → p < m → kx M p < kx M m) (hhi : ∀ p, m < p → p < b → kx M m < kx M p)
    (h1 : Rg a m M K) (s1 : Srt a m K) (h2 : Rg (m + 1) b K N) (s2 : Srt (m + 1) b N) : Rg a b M N ∧ Srt a b N := by
  have dK := hd.of_perm h1.perm
  have l1 := h1.len
  have l2 := h2.len
  refine ⟨(h1.sub (Nat.le_refl _) (by omega)).trans (h2.sub (by omega) (Nat.le_refl _)), fun p q hp hpq hq => ?_⟩
  have em : kx N m = kx M m := kx_of (by rw [h2.out m (by omega), h1.out m (by omega)])
  have hl : ∀ p, a ≤ p → p < m → kx N p < kx M m := fun p hp hpm => by
    obtain ⟨j, j1, j2, j3⟩ := h1.from hd (by omega) (i := p) ⟨hp, hpm⟩
    have := hlo j j1 j2
    rw [← kx_of j3, ← kx_of (h2.out p (by omega))] at this
    exact this
  have hr : ∀ p, m < p → p < b → kx M m < kx N p := fun p hp hpb => by
    obtain ⟨j, j1, j2, j3⟩ := h2.from dK (by omega) (i := p) ⟨by omega, hpb⟩
    have := hhi j (by omega) j2
    rw [← kx_of (h1.out j (by omega)), ← kx_of j3] at this
    exact this
  by_cases c1 : q < m
  · have := s1 p q hp hpq c1
    rw [← kx_of (h2.out p (by omega)), ← kx_of (h2.out q (by omega))] at this
    exact this
  · by_cases c2 : q = m
    · rw [c2, em]; exact hl p hp (by omega)
    · by_cases c3 : p < m
      · have := hl p hp c3; have := hr q (by omega) hq; omega
      · by_cases c4 : p = m
        · rw [c4, em]; exact hr q (by omega) hq
        · exact s2 p q (by omega) hpq hq
theorem srtOn_parts {a b m : Nat} {M : List (List Int)} (hd : Dst M) (hb : b ≤ M.length) (ham : a ≤ m) (hm : m < b) (hlo : ∀ p, a ≤ p → p < m → kx M p < kx M m) (hhi : ∀ p, m < p → p < b → kx M m < kx M p) :
    srtOn (m + 1) b (srtOn a m M) = srtOn a b M ∧ srtOn a m (srtOn (m + 1) b M) = srtOn a b M := by
  obtain ⟨h1, s1⟩ := srtOn_ok (a := a) (b := m) hd (by omega)
  have l1 := h1.len
  obtain ⟨h2, s2⟩ := srtOn_ok (a := m + 1) (b := b) (hd.of_perm h1.perm) (by omega)
  obtain ⟨h3, s3⟩ := srt_parts hd hb ham hm hlo hhi h1 s1 h2 s2
  have e1 := srtOn_eq hd hb h3 s3
  refine ⟨e1.symm, ?_⟩
  obtain ⟨h4, s4⟩ := srtOn_ok (a := m + 1) (b := b) hd hb
  have l4 := h4.len
  obtain ⟨h5, s5⟩ := srtOn_ok (a := a) (b := m) (hd.of_perm h4.perm) (by omega)
  have l5 := h5.len
  refine (srtOn_eq hd hb ((h4.sub (by omega) (Nat.le_refl _)).trans (h5.sub (Nat.le_refl _) (by omega))) fun p q hp hpq hq => ?_).symm
  have d4 := hd.of_perm h4.perm
  have em : kx (srtOn a m (srtOn (m + 1) b M)) m = kx M m := kx_of (by rw [h5.out m (by omega), h4.out m (by omega)])
  have hl : ∀ p, a ≤ p → p < m → kx (srtOn a m (srtOn (m + 1) b M)) p < kx M m := fun p hp hpm => by
    obtain ⟨j, j1, j2, j3⟩ := h5.from d4 (by omega) (i := p) ⟨hp, hpm⟩
    have := hlo j j1 j2
    rw [← kx_of (h4.out j (by omega)), ← kx_of j3] at this
    exact this
  have hr : ∀ p, m < p → p < b → kx M m < kx (srtOn a m (srtOn (m + 1) b M)) p := fun p hp hpb => by
    obtain ⟨j, j1, j2, j3⟩ := h4.from hd hb (i := p) ⟨by omega, hpb⟩
    have := hhi j (by omega) j2
    rw [← kx_of j3, ← kx_of (h5.out p (by omega))] at this
    exact this
  by_cases c1 : q < m
  · exact s5 p q hp hpq c1
  · by_cases c2 : q = m
    · rw [c2, em]; exact hl p hp (by omega)
    · by_cases c3 : p < m
      · have := hl p hp c3; have := hr q (by omega) hq; omega
      · by_cases c4 : p = m
        · rw [c4, em]; exact hr q (by omega) hq
        · have := s4 p q (by omega) hpq hq
          rw [← kx_of (h5.out p (by omega)), ← kx_of (h5.out q (by omega))] at this
          exact this
end Go.Sx.Ch
end
section
set_option maxRecDepth 100000
namespace Go.Sx.Ch
open Go Go.Sx Go.Proofs
noncomputable def p60_r0 : List PI := [
  ⟨none, some 4, [0], .eff fun e => ret (e 0)⟩,
  ⟨none, some 5, [4], .eff fun e => effLenSl (e 4)⟩,
  ⟨none, some 6, [5], .eff fun e => effIb .sub (e 5) (.v (.int .i64 1))⟩,
  ⟨none, some 2, [], .eff fun e => ret (.v (.int .i64 0))⟩,
  ⟨none, some 3, [6], .eff fun e => ret (e 6)⟩]
noncomputable def p60_r1 : List PI := [
  ⟨none, some 7, [2], .eff fun e => ret (e 2)⟩,
  ⟨none, some 8, [3], .eff fun e => ret (e 3)⟩,
  ⟨none, some 9, [7, 8], .eff fun e => effIb .lss (e 7) (e 8)⟩]
noncomputable def p60_r2 : List PI := [
  ⟨none, some 14, [0], .eff fun e => ret (e 0)⟩,
  ⟨none, some 15, [2], .eff fun e => ret (e 2)⟩,
  ⟨none, some 16, [0], .eff fun e => ret (e 0)⟩,
  ⟨none, some 17, [3], .eff fun e => ret (e 3)⟩,
  ⟨none, some 18, [0], .eff fun e => ret (e 0)⟩,
  ⟨none, some 19, [3], .eff fun e => ret (e 3)⟩,
  ⟨none, some 20, [18, 19], .eff fun e => effIdx 1 (e 18) (e 19)⟩,
  ⟨none, some 21, [20], .eff fun e => effLoad1 (e 20)⟩,
  ⟨none, some 22, [0], .eff fun e => ret (e 0)⟩,
  ⟨none, some 23, [2], .eff fun e => ret (e 2)⟩,
  ⟨none, some 24, [22, 23], .eff fun e => effIdx 1 (e 22) (e 23)⟩,
  ⟨none, some 25, [24], .eff fun e => effLoad1 (e 24)⟩,
  ⟨none, some 26, [14, 15], .eff fun e => effIdx 1 (e 14) (e 15)⟩,
  ⟨none, none, [26, 21], .eff fun e => effStore 1 (e 26) (e 21)⟩,
  ⟨none, some 27, [16, 17], .eff fun e => effIdx 1 (e 16) (e 17)⟩,
  ⟨none, none, [27, 25], .eff fun e => effStore 1 (e 27) (e 25)⟩]
noncomputable def p60_r3 : List PI := [
  ⟨none, some 10, [2], .eff fun e => ret (e 2)⟩,
  ⟨none, some 11, [10], .eff fun e => effIb .add (e 10) (.v (.int .i64 1))⟩,
  ⟨none, some 12, [3], .eff fun e => ret (e 3)⟩,
  ⟨none, some 13, [12], .eff fun e => effIb .sub (e 12) (.v (.int .i64 1))⟩,
  ⟨none, some 2, [11], .eff fun e => ret (e 11)⟩,
  ⟨none, some 3, [13], .eff fun e => ret (e 13)⟩]
noncomputable def p60_l0 : PCode := (.seq (.seq (.reg p60_r1 [0, 2, 3, 9]) (.cond (.tmp 9) .skip (.exit 0))) (.seq (.block 1 (.draw p60_r2 [[], [], [], [], [], [], [4, 5], [6, 4, 5], [], [], [8, 9], [10, 8, 9], [0, 1, 7, 11, 6, 4, 5, 10, 8, 9], [12, 0, 1, 7, 11, 6, 4, 5, 10, 8, 9], [2, 3, 13, 12, 0, 1, 7, 11, 6, 4, 5, 10, 8, 9], [14, 2, 3, 13, 12, 0, 1, 7, 11, 6, 4, 5, 10, 8, 9]] [0, 2, 3])) (.reg p60_r3 [0, 2, 3])))
noncomputable def p60 : PCode := (.seq (.reg p60_r0 [0, 2, 3]) (.block 0 (.loop p60_l0)))
theorem P60 : PFn Tryd.prog 60 ⟨p60, [], 28⟩ := .mk2 Tryd.f60 (Tryd.f60.body.getD .skip) [[0, 2, 3], [0, 2, 3, 9], [0, 2, 3], [0, 2, 3]] Tryd.func60 (by kernel_rfl) (by kernel_rfl) (by kernel_rfl) (by kernel_rfl) (by decide)
noncomputable def p63_r0 : List PI := [
  ⟨none, some 4, [], .eff fun e => ret (.v (.int .i64 0))⟩]
noncomputable def p63_r1 : List PI := [
  ⟨none, some 5, [0], .eff fun e => ret (e 0)⟩,
  ⟨none, some 6, [5], .eff fun e => effIdx 1 (e 5) (.v (.int .i64 0))⟩,
  ⟨none, some 7, [6], .eff fun e => effLoad1 (e 6)⟩,
  ⟨none, some 8, [1], .eff fun e => ret (e 1)⟩,
  ⟨none, some 9, [8], .eff fun e => effIdx 1 (e 8) (.v (.int .i64 0))⟩,
  ⟨none, some 10, [9], .eff fun e => effLoad1 (e 9)⟩,
  ⟨none, some 11, [7, 10], .eff fun e => effIb .sub (e 7) (e 10)⟩,
  ⟨none, some 4, [11], .eff fun e => ret (e 11)⟩]
noncomputable def p63 : PCode := (.seq (.reg p63_r0 [0, 1]) (.seq (.draw p63_r1 [[], [0], [1, 0], [], [3], [4, 3], [2, 5, 1, 0, 4, 3], [6, 2, 5, 1, 0, 4, 3]] [4]) .ret))
theorem P63 : PFn Tryd.prog 63 ⟨p63, [.tmp 4], 12⟩ := .mk2 Tryd.f63 (Tryd.f63.body.getD .skip) [[0, 1], [4]] Tryd.func63 (by kernel_rfl) (by kernel_rfl) (by kernel_rfl) (by kernel_rfl) (by decide)
end Go.Sx.Ch
end
