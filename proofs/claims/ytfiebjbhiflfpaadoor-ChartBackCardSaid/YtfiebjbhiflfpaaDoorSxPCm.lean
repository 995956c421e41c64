/- The codes of the functions, written by a program (Gen.lean), and that they are the functions'. No conditions. -/
import Derived.Test.YtfiebjbhiflfpaaDoorSxJNtoNq
import Derived.KernelRfl
import Derived.Test.YtfiebjbhiflfpaaDoorProg
set_option linter.unusedVariables false
set_option linter.unusedSimpArgs false
set_option maxRecDepth 100000
namespace Go.Sx.Ch
open Go Go.Sx Go.Proofs
noncomputable def p13_r0 : List PI := [
  ⟨none, some 1, [0], .eff fun e => effBox (e 0)⟩,
  ⟨none, some 2, [], .eff fun e => ret (.v (.bool false))⟩]
noncomputable def p13_r1 : List PI := [
  ⟨none, some 21, [1], .eff fun e => effLoadN 18 (e 1)⟩,
  ⟨none, some 22, [21], .call 49 ([.tmp 21, .const (.int .i64 8)])⟩,
  ⟨none, some 3, [], .eff fun e => effAlloc ([.slice none 0 0])⟩,
  ⟨none, none, [3, 22], .eff fun e => effStore 1 (e 3) (e 22)⟩]
noncomputable def p13_r2 : List PI := [
  ⟨none, some 4, [], .eff fun e => effAlloc ([.slice none 0 0])⟩]
noncomputable def p13_r3 : List PI := [
  ⟨none, some 23, [3], .eff fun e => effOff 0 (e 3)⟩,
  ⟨none, some 24, [23], .eff fun e => effLoad1 (e 23)⟩,
  ⟨none, some 25, [24], .eff fun e => effLenSl (e 24)⟩,
  ⟨none, some 26, [], .eff fun e => ret (.v (.int .i64 0))⟩]
noncomputable def p13_r4 : List PI := [
  ⟨none, some 27, [26, 25], .eff fun e => effIb .lss (e 26) (e 25)⟩]
noncomputable def p13_r5 : List PI := [
  ⟨none, some 28, [24, 26], .eff fun e => effIdx 1 (e 24) (e 26)⟩,
  ⟨none, some 29, [28], .eff fun e => effLoad1 (e 28)⟩,
  ⟨none, some 6, [29], .eff fun e => ret (e 29)⟩]
noncomputable def p13_r6 : List PI := [
  ⟨none, some 30, [6], .eff fun e => ret (e 6)⟩,
  ⟨none, some 31, [30], .call 50 ([.tmp 30])⟩,
  ⟨none, some 7, [31], .eff fun e => ret (e 31)⟩]
noncomputable def p13_r7 : List PI := [
  ⟨none, some 32, [7], .eff fun e => ret (e 7)⟩,
  ⟨none, some 33, [32], .call 60 ([.tmp 32])⟩]
noncomputable def p13_r8 : List PI := [
  ⟨none, some 34, [4], .eff fun e => effOff 0 (e 4)⟩,
  ⟨none, some 35, [34], .eff fun e => effLoad1 (e 34)⟩,
  ⟨none, some 36, [7], .eff fun e => ret (e 7)⟩,
  ⟨none, some 37, [36], .eff fun e => effMks 1 1 ([.slice none 0 0]) [(0, 1, (e 36))]⟩,
  ⟨none, some 38, [35, 37], .eff fun e => effApp 1 24 (e 35) (e 37)⟩,
  ⟨none, some 39, [4], .eff fun e => effOff 0 (e 4)⟩,
  ⟨none, none, [39, 38], .eff fun e => effStore 1 (e 39) (e 38)⟩]
noncomputable def p13_r9 : List PI := [
  ⟨none, some 40, [26], .eff fun e => effIb .add (e 26) (.v (.int .i64 1))⟩,
  ⟨none, some 26, [40], .eff fun e => ret (e 40)⟩]
noncomputable def p13_l0 : PCode := (.seq (.reg p13_r4 [3, 4, 24, 25, 26, 27]) (.seq (.cond (.tmp 27) .skip (.exit 0)) (.seq (.block 1 (.seq (.reg p13_r5 [3, 4, 6, 24, 25, 26]) (.seq (.reg p13_r6 [3, 4, 7, 24, 25, 26]) (.seq (.reg p13_r7 [3, 4, 7, 24, 25, 26]) (.reg p13_r8 [3, 4, 24, 25, 26]))))) (.reg p13_r9 [3, 4, 24, 25, 26]))))
noncomputable def p13_r10 : List PI := [
  ⟨none, some 42, [3], .eff fun e => effLoadN 1 (e 3)⟩,
  ⟨none, some 43, [42], .call 19 ([.tmp 42])⟩,
  ⟨none, some 41, [43], .eff fun e => ret (e 43)⟩,
  ⟨none, some 44, [41], .eff fun e => effExt 0 (e 41)⟩,
  ⟨none, some 45, [41], .eff fun e => effExt 1 (e 41)⟩,
  ⟨none, some 8, [], .eff fun e => effAlloc ([.slice none 0 0])⟩,
  ⟨none, none, [8, 44], .eff fun e => effStore 1 (e 8) (e 44)⟩,
  ⟨none, some 9, [45], .eff fun e => ret (e 45)⟩]
noncomputable def p13_r11 : List PI := [
  ⟨none, some 46, [9], .eff fun e => ret (e 9)⟩,
  ⟨none, some 47, [46], .eff fun e => effIb .neq (e 46) (.v (.int .i64 0))⟩,
  ⟨none, some 48, [47], .eff fun e => ret (e 47)⟩,
  ⟨some (48, false), some 49, [8], .eff fun e => effOff 0 (e 8)⟩,
  ⟨some (48, false), some 50, [49], .eff fun e => effLoad1 (e 49)⟩,
  ⟨some (48, false), some 51, [4], .eff fun e => effLoadN 1 (e 4)⟩,
  ⟨some (48, false), some 52, [51], .call 57 ([.tmp 51])⟩,
  ⟨some (48, false), some 53, [50, 52], .call 23 ([.tmp 50, .tmp 52])⟩,
  ⟨some (48, false), some 54, [53], .eff fun e => effNt (e 53)⟩,
  ⟨none, some 55, [48, 54], .eff fun e => effPick (e 48) (.v (.bool true)) (e 54)⟩]
noncomputable def p13_r12 : List PI := [
  ⟨none, some 2, [], .eff fun e => ret (.v (.bool false))⟩]
noncomputable def p13_r13 : List PI := [
  ⟨none, some 57, [8], .eff fun e => effLoadN 1 (e 8)⟩,
  ⟨none, some 58, [57], .call 19 ([.tmp 57])⟩,
  ⟨none, some 56, [58], .eff fun e => ret (e 58)⟩,
  ⟨none, some 59, [56], .eff fun e => effExt 0 (e 56)⟩,
  ⟨none, some 60, [56], .eff fun e => effExt 1 (e 56)⟩,
  ⟨none, some 10, [], .eff fun e => effAlloc ([.slice none 0 0])⟩,
  ⟨none, none, [10, 59], .eff fun e => effStore 1 (e 10) (e 59)⟩,
  ⟨none, some 9, [60], .eff fun e => ret (e 60)⟩]
noncomputable def p13_r14 : List PI := [
  ⟨none, some 62, [8], .eff fun e => effLoadN 1 (e 8)⟩,
  ⟨none, some 63, [62], .call 33 ([.tmp 62])⟩,
  ⟨none, some 61, [63], .eff fun e => ret (e 63)⟩,
  ⟨none, some 64, [61], .eff fun e => effExt 0 (e 61)⟩,
  ⟨none, some 65, [61], .eff fun e => effExt 1 (e 61)⟩,
  ⟨none, some 11, [64], .eff fun e => ret (e 64)⟩,
  ⟨none, some 12, [65], .eff fun e => ret (e 65)⟩]
noncomputable def p13_r15 : List PI := [
  ⟨none, some 67, [8], .eff fun e => effLoadN 1 (e 8)⟩,
  ⟨none, some 68, [67], .call 37 ([.tmp 67])⟩,
  ⟨none, some 66, [68], .eff fun e => ret (e 68)⟩,
  ⟨none, some 69, [66], .eff fun e => effExt 0 (e 66)⟩,
  ⟨none, some 70, [66], .eff fun e => effExt 1 (e 66)⟩,
  ⟨none, some 13, [69], .eff fun e => ret (e 69)⟩,
  ⟨none, some 14, [70], .eff fun e => ret (e 70)⟩]
noncomputable def p13_r16 : List PI := [
  ⟨none, some 71, [9], .eff fun e => ret (e 9)⟩,
  ⟨none, some 72, [71], .eff fun e => effIb .neq (e 71) (.v (.int .i64 0))⟩,
  ⟨none, some 73, [72], .eff fun e => ret (e 72)⟩,
  ⟨some (73, false), some 74, [12], .eff fun e => ret (e 12)⟩,
  ⟨some (73, false), some 75, [74], .eff fun e => effIb .neq (e 74) (.v (.int .i64 0))⟩,
  ⟨none, some 76, [73, 75], .eff fun e => effPick (e 73) (.v (.bool true)) (e 75)⟩,
  ⟨none, some 77, [76], .eff fun e => ret (e 76)⟩,
  ⟨some (77, false), some 78, [14], .eff fun e => ret (e 14)⟩,
  ⟨some (77, false), some 79, [78], .eff fun e => effIb .neq (e 78) (.v (.int .i64 0))⟩,
  ⟨none, some 80, [77, 79], .eff fun e => effPick (e 77) (.v (.bool true)) (e 79)⟩,
  ⟨none, some 81, [80], .eff fun e => ret (e 80)⟩,
  ⟨some (81, false), some 82, [10], .eff fun e => effOff 0 (e 10)⟩,
  ⟨some (81, false), some 83, [82], .eff fun e => effLoad1 (e 82)⟩,
  ⟨some (81, false), some 84, [3], .eff fun e => effLoadN 1 (e 3)⟩,
  ⟨some (81, false), some 85, [84], .call 57 ([.tmp 84])⟩,
  ⟨some (81, false), some 86, [83, 85], .call 23 ([.tmp 83, .tmp 85])⟩,
  ⟨some (81, false), some 87, [86], .eff fun e => effNt (e 86)⟩,
  ⟨none, some 88, [81, 87], .eff fun e => effPick (e 81) (.v (.bool true)) (e 87)⟩,
  ⟨none, some 89, [88], .eff fun e => ret (e 88)⟩,
  ⟨some (89, false), some 90, [13], .eff fun e => ret (e 13)⟩,
  ⟨some (89, false), some 91, [3], .eff fun e => effLoadN 1 (e 3)⟩,
  ⟨some (89, false), some 92, [91], .call 53 ([.tmp 91])⟩,
  ⟨some (89, false), some 93, [90, 92], .eff fun e => effIb .neq (e 90) (e 92)⟩,
  ⟨none, some 94, [89, 93], .eff fun e => effPick (e 89) (.v (.bool true)) (e 93)⟩]
noncomputable def p13_r17 : List PI := [
  ⟨none, some 2, [], .eff fun e => ret (.v (.bool false))⟩]
noncomputable def p13_r18 : List PI := [
  ⟨none, some 15, [], .eff fun e => ret (.v (.slice none 0 0))⟩]
noncomputable def p13_r19 : List PI := [
  ⟨none, some 95, [3], .eff fun e => effLoadN 1 (e 3)⟩,
  ⟨none, some 96, [95], .call 56 ([.tmp 95])⟩,
  ⟨none, some 97, [96], .eff fun e => effLenSl (e 96)⟩,
  ⟨none, some 98, [], .eff fun e => ret (.v (.int .i64 0))⟩]
noncomputable def p13_r20 : List PI := [
  ⟨none, some 99, [98, 97], .eff fun e => effIb .lss (e 98) (e 97)⟩]
noncomputable def p13_r21 : List PI := [
  ⟨none, some 100, [96, 98], .eff fun e => effIdx 1 (e 96) (e 98)⟩,
  ⟨none, some 101, [100], .eff fun e => effLoad1 (e 100)⟩,
  ⟨none, some 17, [101], .eff fun e => ret (e 101)⟩]
noncomputable def p13_r22 : List PI := [
  ⟨none, some 18, [], .eff fun e => ret (.v (.slice none 0 0))⟩]
noncomputable def p13_r23 : List PI := [
  ⟨none, some 102, [17], .eff fun e => ret (e 17)⟩,
  ⟨none, some 103, [102], .eff fun e => effLenSl (e 102)⟩,
  ⟨none, some 104, [], .eff fun e => ret (.v (.int .i64 0))⟩]
noncomputable def p13_r24 : List PI := [
  ⟨none, some 105, [104, 103], .eff fun e => effIb .lss (e 104) (e 103)⟩]
noncomputable def p13_r25 : List PI := [
  ⟨none, some 106, [102, 104], .eff fun e => effIdx 1 (e 102) (e 104)⟩,
  ⟨none, some 107, [106], .eff fun e => effLoad1 (e 106)⟩,
  ⟨none, some 20, [107], .eff fun e => ret (e 107)⟩]
noncomputable def p13_r26 : List PI := [
  ⟨none, some 108, [18], .eff fun e => ret (e 18)⟩,
  ⟨none, some 109, [20], .eff fun e => ret (e 20)⟩,
  ⟨none, some 110, [109], .eff fun e => SOp.eff Tryd.prog (evalA e) (SOp.bin .xor 3 (.tmp 109) (.const (.int .i64 1)))⟩,
  ⟨none, some 111, [110], .eff fun e => effMks 1 1 ([.int .i64 0]) [(0, 1, (e 110))]⟩,
  ⟨none, some 112, [108, 111], .eff fun e => effApp 1 8 (e 108) (e 111)⟩,
  ⟨none, some 18, [112], .eff fun e => ret (e 112)⟩]
noncomputable def p13_r27 : List PI := [
  ⟨none, some 113, [104], .eff fun e => effIb .add (e 104) (.v (.int .i64 1))⟩,
  ⟨none, some 104, [113], .eff fun e => ret (e 113)⟩]
noncomputable def p13_l1 : PCode := (.seq (.reg p13_r24 [11, 15, 18, 96, 97, 98, 102, 103, 104, 105]) (.seq (.cond (.tmp 105) .skip (.exit 4)) (.seq (.block 5 (.seq (.reg p13_r25 [11, 15, 18, 20, 96, 97, 98, 102, 103, 104]) (.reg p13_r26 [11, 15, 18, 96, 97, 98, 102, 103, 104]))) (.reg p13_r27 [11, 15, 18, 96, 97, 98, 102, 103, 104]))))
noncomputable def p13_r28 : List PI := [
  ⟨none, some 114, [18], .eff fun e => ret (e 18)⟩,
  ⟨none, some 115, [114], .call 60 ([.tmp 114])⟩]
noncomputable def p13_r29 : List PI := [
  ⟨none, some 116, [15], .eff fun e => ret (e 15)⟩,
  ⟨none, some 117, [18], .eff fun e => ret (e 18)⟩,
  ⟨none, some 118, [117], .call 61 ([.tmp 117])⟩,
  ⟨none, some 119, [118], .eff fun e => effMks 1 1 ([.slice none 0 0]) [(0, 1, (e 118))]⟩,
  ⟨none, some 120, [116, 119], .eff fun e => effApp 1 24 (e 116) (e 119)⟩,
  ⟨none, some 15, [120], .eff fun e => ret (e 120)⟩]
noncomputable def p13_r30 : List PI := [
  ⟨none, some 121, [98], .eff fun e => effIb .add (e 98) (.v (.int .i64 1))⟩,
  ⟨none, some 98, [121], .eff fun e => ret (e 121)⟩]
noncomputable def p13_l2 : PCode := (.seq (.reg p13_r20 [11, 15, 96, 97, 98, 99]) (.seq (.cond (.tmp 99) .skip (.exit 2)) (.seq (.block 3 (.seq (.reg p13_r21 [11, 15, 17, 96, 97, 98]) (.seq (.reg p13_r22 [11, 15, 17, 18, 96, 97, 98]) (.seq (.seq (.reg p13_r23 [11, 15, 18, 96, 97, 98, 102, 103, 104]) (.block 4 (.loop p13_l1))) (.seq (.reg p13_r28 [11, 15, 18, 96, 97, 98]) (.reg p13_r29 [11, 15, 96, 97, 98])))))) (.reg p13_r30 [11, 15, 96, 97, 98]))))
noncomputable def p13_r31 : List PI := [
  ⟨none, some 122, [15], .eff fun e => ret (e 15)⟩,
  ⟨none, some 123, [122], .call 62 ([.tmp 122, .func 63])⟩]
noncomputable def p13_r32 : List PI := [
  ⟨none, some 124, [11], .eff fun e => ret (e 11)⟩,
  ⟨none, some 125, [15], .eff fun e => ret (e 15)⟩,
  ⟨none, some 126, [124, 125], .call 23 ([.tmp 124, .tmp 125])⟩,
  ⟨none, some 127, [126], .eff fun e => ret (e 126)⟩,
  ⟨some (127, true), some 128, [], .call 16 ([])⟩,
  ⟨none, some 129, [127, 128], .eff fun e => effPick (e 127) (e 128) (.v (.bool false))⟩,
  ⟨none, some 2, [129], .eff fun e => ret (e 129)⟩]
noncomputable def p13 : PCode := (.seq (.reg p13_r0 [1]) (.seq (.reg p13_r1 [3]) (.seq (.reg p13_r2 [3, 4]) (.seq (.seq (.reg p13_r3 [3, 4, 24, 25, 26]) (.block 0 (.loop p13_l0))) (.seq (.reg p13_r10 [3, 4, 8, 9]) (.seq (.seq (.draw p13_r11 [[], [0], [1, 0], [2, 1, 0], [3, 2, 1, 0], [2, 1, 0], [5, 2, 1, 0], [4, 6, 3, 5, 2, 1, 0], [7, 4, 6, 3, 5, 2, 1, 0], [8, 7, 4, 6, 3, 5, 2, 1, 0]] [3, 8, 55]) (.cond (.tmp 55) (.seq (.reg p13_r12 [2]) .ret) .skip)) (.seq (.reg p13_r13 [3, 8, 9, 10]) (.seq (.reg p13_r14 [3, 8, 9, 10, 11, 12]) (.seq (.reg p13_r15 [3, 9, 10, 11, 12, 13, 14]) (.seq (.seq (.draw p13_r16 [[], [0], [1, 0], [2, 1, 0], [3, 2, 1, 0], [4, 3, 2, 1, 0], [5, 4, 3, 2, 1, 0], [6, 5, 4, 3, 2, 1, 0], [7, 6, 5, 4, 3, 2, 1, 0], [8, 7, 6, 5, 4, 3, 2, 1, 0], [9, 8, 7, 6, 5, 4, 3, 2, 1, 0], [10, 9, 8, 7, 6, 5, 4, 3, 2, 1, 0], [11, 10, 9, 8, 7, 6, 5, 4, 3, 2, 1, 0], [10, 9, 8, 7, 6, 5, 4, 3, 2, 1, 0], [13, 10, 9, 8, 7, 6, 5, 4, 3, 2, 1, 0], [12, 14, 11, 13, 10, 9, 8, 7, 6, 5, 4, 3, 2, 1, 0], [15, 12, 14, 11, 13, 10, 9, 8, 7, 6, 5, 4, 3, 2, 1, 0], [16, 15, 12, 14, 11, 13, 10, 9, 8, 7, 6, 5, 4, 3, 2, 1, 0], [17, 16, 15, 12, 14, 11, 13, 10, 9, 8, 7, 6, 5, 4, 3, 2, 1, 0], [18, 17, 16, 15, 12, 14, 11, 13, 10, 9, 8, 7, 6, 5, 4, 3, 2, 1, 0], [18, 17, 16, 15, 12, 14, 11, 13, 10, 9, 8, 7, 6, 5, 4, 3, 2, 1, 0], [20, 18, 17, 16, 15, 12, 14, 11, 13, 10, 9, 8, 7, 6, 5, 4, 3, 2, 1, 0], [19, 21, 20, 18, 17, 16, 15, 12, 14, 11, 13, 10, 9, 8, 7, 6, 5, 4, 3, 2, 1, 0], [22, 19, 21, 20, 18, 17, 16, 15, 12, 14, 11, 13, 10, 9, 8, 7, 6, 5, 4, 3, 2, 1, 0]] [3, 11, 94]) (.cond (.tmp 94) (.seq (.reg p13_r17 [2]) .ret) .skip)) (.seq (.reg p13_r18 [3, 11, 15]) (.seq (.seq (.reg p13_r19 [11, 15, 96, 97, 98]) (.block 2 (.loop p13_l2))) (.seq (.reg p13_r31 [11, 15]) (.seq (.reg p13_r32 [2]) .ret))))))))))))))
theorem P13 : PFn Tryd.prog 13 ⟨p13, [.tmp 2], 130⟩ := .mk2 Tryd.f13 (Tryd.f13.body.getD .skip) [[1], [3], [3, 4], [3, 4, 24, 25, 26], [3, 4, 24, 25, 26, 27], [3, 4, 6, 24, 25, 26], [3, 4, 7, 24, 25, 26], [3, 4, 7, 24, 25, 26], [3, 4, 24, 25, 26], [3, 4, 24, 25, 26], [3, 4, 8, 9], [3, 8, 55], [2], [3, 8, 9, 10], [3, 8, 9, 10, 11, 12], [3, 9, 10, 11, 12, 13, 14], [3, 11, 94], [2], [3, 11, 15], [11, 15, 96, 97, 98], [11, 15, 96, 97, 98, 99], [11, 15, 17, 96, 97, 98], [11, 15, 17, 18, 96, 97, 98], [11, 15, 18, 96, 97, 98, 102, 103, 104], [11, 15, 18, 96, 97, 98, 102, 103, 104, 105], [11, 15, 18, 20, 96, 97, 98, 102, 103, 104], [11, 15, 18, 96, 97, 98, 102, 103, 104], [11, 15, 18, 96, 97, 98, 102, 103, 104], [11, 15, 18, 96, 97, 98], [11, 15, 96, 97, 98], [11, 15, 96, 97, 98], [11, 15], [2]] Tryd.func13 (by kernel_rfl) (by kernel_rfl) (by kernel_rfl) (by kernel_rfl) (by decide)
end Go.Sx.Ch
