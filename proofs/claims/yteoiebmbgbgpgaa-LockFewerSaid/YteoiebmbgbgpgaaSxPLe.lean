/- The codes of the functions, written by a program (Gen.lean), and that they are the functions'. No conditions. -/
import Derived.Test.YteoiebmbgbgpgaaSxJNtoNq
import Derived.KernelRfl
import Derived.Test.YteoiebmbgbgpgaaProg
set_option linter.unusedVariables false
set_option linter.unusedSimpArgs false
set_option maxRecDepth 100000
namespace Go.Sx.Lk
open Go Go.Sx Go.Proofs
noncomputable def p9_r0 : List PI := [
  ⟨none, some 2, [0], .eff fun e => effBox (e 0)⟩,
  ⟨none, some 4, [], .eff fun e => ret (.v (.bool false))⟩]
noncomputable def p9_r1 : List PI := [
  ⟨none, some 19, [2], .eff fun e => effLoadN 8 (e 2)⟩,
  ⟨none, some 20, [19], .call 45 ([.tmp 19, .const (.int .i64 7)])⟩,
  ⟨none, some 5, [20], .eff fun e => ret (e 20)⟩]
noncomputable def p9_r2 : List PI := [
  ⟨none, some 21, [5], .eff fun e => ret (e 5)⟩,
  ⟨none, some 22, [21], .eff fun e => effLenSl (e 21)⟩,
  ⟨none, some 6, [22], .eff fun e => ret (e 22)⟩]
noncomputable def p9_r3 : List PI := [
  ⟨none, some 23, [6], .eff fun e => ret (e 6)⟩,
  ⟨none, some 24, [23], .eff fun e => effIb .eql (e 23) (.v (.int .i64 1))⟩]
noncomputable def p9_r4 : List PI := [
  ⟨none, some 25, [], .call 15 ([])⟩,
  ⟨none, some 4, [25], .eff fun e => ret (e 25)⟩]
noncomputable def p9_r5 : List PI := [
  ⟨none, some 26, [1], .eff fun e => ret (e 1)⟩,
  ⟨none, some 27, [26], .eff fun e => effCi .i64 (e 26)⟩,
  ⟨none, some 28, [6], .eff fun e => ret (e 6)⟩,
  ⟨none, some 29, [27, 28], .eff fun e => effIb .rem (e 27) (e 28)⟩,
  ⟨none, some 7, [29], .eff fun e => ret (e 29)⟩]
noncomputable def p9_r6 : List PI := [
  ⟨none, some 8, [], .eff fun e => ret (.v (.slice none 0 0))⟩]
noncomputable def p9_r7 : List PI := [
  ⟨none, some 30, [5], .eff fun e => ret (e 5)⟩,
  ⟨none, some 31, [30], .eff fun e => effLenSl (e 30)⟩,
  ⟨none, some 32, [], .eff fun e => ret (.v (.int .i64 0))⟩]
noncomputable def p9_r8 : List PI := [
  ⟨none, some 33, [32, 31], .eff fun e => effIb .lss (e 32) (e 31)⟩]
noncomputable def p9_r9 : List PI := [
  ⟨none, some 34, [30, 32], .eff fun e => effIdx 1 (e 30) (e 32)⟩,
  ⟨none, some 35, [34], .eff fun e => effLoad1 (e 34)⟩,
  ⟨none, some 10, [35], .eff fun e => ret (e 35)⟩]
noncomputable def p9_r10 : List PI := [
  ⟨none, some 36, [10], .eff fun e => ret (e 10)⟩,
  ⟨none, some 37, [7], .eff fun e => ret (e 7)⟩,
  ⟨none, some 38, [36, 37], .eff fun e => effIb .lss (e 36) (e 37)⟩]
noncomputable def p9_r11 : List PI := [
  ⟨none, some 39, [8], .eff fun e => ret (e 8)⟩,
  ⟨none, some 40, [10], .eff fun e => ret (e 10)⟩,
  ⟨none, some 41, [40], .eff fun e => effMks 1 1 ([.int .i64 0]) [(0, 1, (e 40))]⟩,
  ⟨none, some 42, [39, 41], .eff fun e => effApp 1 8 (e 39) (e 41)⟩,
  ⟨none, some 8, [42], .eff fun e => ret (e 42)⟩]
noncomputable def p9_r12 : List PI := [
  ⟨none, some 43, [10], .eff fun e => ret (e 10)⟩,
  ⟨none, some 44, [7], .eff fun e => ret (e 7)⟩,
  ⟨none, some 45, [43, 44], .eff fun e => effIb .gtr (e 43) (e 44)⟩]
noncomputable def p9_r13 : List PI := [
  ⟨none, some 46, [8], .eff fun e => ret (e 8)⟩,
  ⟨none, some 47, [10], .eff fun e => ret (e 10)⟩,
  ⟨none, some 48, [47], .eff fun e => effIb .sub (e 47) (.v (.int .i64 1))⟩,
  ⟨none, some 49, [48], .eff fun e => effMks 1 1 ([.int .i64 0]) [(0, 1, (e 48))]⟩,
  ⟨none, some 50, [46, 49], .eff fun e => effApp 1 8 (e 46) (e 49)⟩,
  ⟨none, some 8, [50], .eff fun e => ret (e 50)⟩]
noncomputable def p9_r14 : List PI := [
  ⟨none, some 51, [32], .eff fun e => effIb .add (e 32) (.v (.int .i64 1))⟩,
  ⟨none, some 32, [51], .eff fun e => ret (e 51)⟩]
noncomputable def p9_l0 : PCode := (.seq (.reg p9_r8 [5, 7, 8, 30, 31, 32, 33]) (.seq (.cond (.tmp 33) .skip (.exit 0)) (.seq (.block 1 (.seq (.reg p9_r9 [5, 7, 8, 10, 30, 31, 32]) (.seq (.reg p9_r10 [5, 7, 8, 10, 30, 31, 32, 38]) (.cond (.tmp 38) (.reg p9_r11 [5, 7, 8, 30, 31, 32]) (.seq (.reg p9_r12 [5, 7, 8, 10, 30, 31, 32, 45]) (.cond (.tmp 45) (.reg p9_r13 [5, 7, 8, 30, 31, 32]) .skip)))))) (.reg p9_r14 [5, 7, 8, 30, 31, 32]))))
noncomputable def p9_r15 : List PI := [
  ⟨none, some 53, [5], .eff fun e => ret (e 5)⟩,
  ⟨none, some 54, [53], .call 25 ([.tmp 53])⟩,
  ⟨none, some 52, [54], .eff fun e => ret (e 54)⟩,
  ⟨none, some 55, [52], .eff fun e => effExt 0 (e 52)⟩,
  ⟨none, some 56, [52], .eff fun e => effExt 1 (e 52)⟩,
  ⟨none, some 11, [55], .eff fun e => ret (e 55)⟩,
  ⟨none, some 12, [56], .eff fun e => ret (e 56)⟩]
noncomputable def p9_r16 : List PI := [
  ⟨none, some 58, [8], .eff fun e => ret (e 8)⟩,
  ⟨none, some 59, [58], .call 25 ([.tmp 58])⟩,
  ⟨none, some 57, [59], .eff fun e => ret (e 59)⟩,
  ⟨none, some 60, [57], .eff fun e => effExt 0 (e 57)⟩,
  ⟨none, some 61, [57], .eff fun e => effExt 1 (e 57)⟩,
  ⟨none, some 13, [60], .eff fun e => ret (e 60)⟩,
  ⟨none, some 14, [61], .eff fun e => ret (e 61)⟩]
noncomputable def p9_r17 : List PI := [
  ⟨none, some 63, [5], .eff fun e => ret (e 5)⟩,
  ⟨none, some 64, [63], .call 39 ([.tmp 63])⟩,
  ⟨none, some 62, [64], .eff fun e => ret (e 64)⟩,
  ⟨none, some 65, [62], .eff fun e => effExt 0 (e 62)⟩,
  ⟨none, some 66, [62], .eff fun e => effExt 1 (e 62)⟩,
  ⟨none, some 15, [65], .eff fun e => ret (e 65)⟩,
  ⟨none, some 16, [66], .eff fun e => ret (e 66)⟩]
noncomputable def p9_r18 : List PI := [
  ⟨none, some 68, [8], .eff fun e => ret (e 8)⟩,
  ⟨none, some 69, [68], .call 39 ([.tmp 68])⟩,
  ⟨none, some 67, [69], .eff fun e => ret (e 69)⟩,
  ⟨none, some 70, [67], .eff fun e => effExt 0 (e 67)⟩,
  ⟨none, some 71, [67], .eff fun e => effExt 1 (e 67)⟩,
  ⟨none, some 17, [70], .eff fun e => ret (e 70)⟩,
  ⟨none, some 18, [71], .eff fun e => ret (e 71)⟩]
noncomputable def p9_r19 : List PI := [
  ⟨none, some 72, [12], .eff fun e => ret (e 12)⟩,
  ⟨none, some 73, [72], .eff fun e => effIb .eql (e 72) (.v (.int .i64 0))⟩,
  ⟨none, some 74, [73], .eff fun e => ret (e 73)⟩,
  ⟨some (74, true), some 75, [14], .eff fun e => ret (e 14)⟩,
  ⟨some (74, true), some 76, [75], .eff fun e => effIb .eql (e 75) (.v (.int .i64 0))⟩,
  ⟨none, some 77, [74, 76], .eff fun e => effPick (e 74) (e 76) (.v (.bool false))⟩,
  ⟨none, some 78, [77], .eff fun e => ret (e 77)⟩,
  ⟨some (78, true), some 79, [11], .eff fun e => ret (e 11)⟩,
  ⟨some (78, true), some 80, [79], .eff fun e => effNt (e 79)⟩,
  ⟨some (78, true), some 81, [80], .eff fun e => ret (e 80)⟩,
  ⟨some (81, false), some 82, [13], .eff fun e => ret (e 13)⟩,
  ⟨some (78, true), some 83, [81, 82], .eff fun e => effPick (e 81) (.v (.bool true)) (e 82)⟩,
  ⟨none, some 84, [78, 83], .eff fun e => effPick (e 78) (e 83) (.v (.bool false))⟩,
  ⟨none, some 85, [84], .eff fun e => ret (e 84)⟩,
  ⟨some (85, true), some 86, [16], .eff fun e => ret (e 16)⟩,
  ⟨some (85, true), some 87, [86], .eff fun e => effIb .eql (e 86) (.v (.int .i64 0))⟩,
  ⟨some (85, true), some 88, [87], .eff fun e => ret (e 87)⟩,
  ⟨some (88, false), some 89, [16], .eff fun e => ret (e 16)⟩,
  ⟨some (88, false), some 90, [89], .eff fun e => effIb .eql (e 89) (.v (.int .i64 12))⟩,
  ⟨some (85, true), some 91, [88, 90], .eff fun e => effPick (e 88) (.v (.bool true)) (e 90)⟩,
  ⟨none, some 92, [85, 91], .eff fun e => effPick (e 85) (e 91) (.v (.bool false))⟩,
  ⟨none, some 93, [92], .eff fun e => ret (e 92)⟩,
  ⟨some (93, true), some 94, [18], .eff fun e => ret (e 18)⟩,
  ⟨some (93, true), some 95, [94], .eff fun e => effIb .eql (e 94) (.v (.int .i64 0))⟩,
  ⟨some (93, true), some 96, [95], .eff fun e => ret (e 95)⟩,
  ⟨some (96, false), some 97, [18], .eff fun e => ret (e 18)⟩,
  ⟨some (96, false), some 98, [97], .eff fun e => effIb .eql (e 97) (.v (.int .i64 12))⟩,
  ⟨some (93, true), some 99, [96, 98], .eff fun e => effPick (e 96) (.v (.bool true)) (e 98)⟩,
  ⟨none, some 100, [93, 99], .eff fun e => effPick (e 93) (e 99) (.v (.bool false))⟩,
  ⟨none, some 101, [100], .eff fun e => ret (e 100)⟩,
  ⟨some (101, true), some 102, [16], .eff fun e => ret (e 16)⟩,
  ⟨some (101, true), some 103, [102], .eff fun e => effIb .neq (e 102) (.v (.int .i64 0))⟩,
  ⟨some (101, true), some 104, [103], .eff fun e => ret (e 103)⟩,
  ⟨some (104, false), some 105, [18], .eff fun e => ret (e 18)⟩,
  ⟨some (104, false), some 106, [105], .eff fun e => effIb .eql (e 105) (.v (.int .i64 0))⟩,
  ⟨some (101, true), some 107, [104, 106], .eff fun e => effPick (e 104) (.v (.bool true)) (e 106)⟩,
  ⟨none, some 108, [101, 107], .eff fun e => effPick (e 101) (e 107) (.v (.bool false))⟩,
  ⟨none, some 109, [108], .eff fun e => ret (e 108)⟩,
  ⟨some (109, true), some 110, [], .call 15 ([])⟩,
  ⟨none, some 111, [109, 110], .eff fun e => effPick (e 109) (e 110) (.v (.bool false))⟩,
  ⟨none, some 4, [111], .eff fun e => ret (e 111)⟩]
noncomputable def p9 : PCode := (.seq (.reg p9_r0 [1, 2]) (.seq (.reg p9_r1 [1, 5]) (.seq (.reg p9_r2 [1, 5, 6]) (.seq (.seq (.reg p9_r3 [1, 5, 6, 24]) (.cond (.tmp 24) (.seq (.reg p9_r4 [4]) .ret) .skip)) (.seq (.reg p9_r5 [5, 7]) (.seq (.reg p9_r6 [5, 7, 8]) (.seq (.seq (.reg p9_r7 [5, 7, 8, 30, 31, 32]) (.block 0 (.loop p9_l0))) (.seq (.reg p9_r15 [5, 8, 11, 12]) (.seq (.reg p9_r16 [5, 8, 11, 12, 13, 14]) (.seq (.reg p9_r17 [8, 11, 12, 13, 14, 16]) (.seq (.reg p9_r18 [11, 12, 13, 14, 16, 18]) (.seq (.reg p9_r19 [4]) .ret))))))))))))
theorem P9 : PFn Try.prog 9 ⟨p9, [.tmp 4], 112⟩ := .mk2 Try.f9 (Try.f9.body.getD .skip) [[1, 2], [1, 5], [1, 5, 6], [1, 5, 6, 24], [4], [5, 7], [5, 7, 8], [5, 7, 8, 30, 31, 32], [5, 7, 8, 30, 31, 32, 33], [5, 7, 8, 10, 30, 31, 32], [5, 7, 8, 10, 30, 31, 32, 38], [5, 7, 8, 30, 31, 32], [5, 7, 8, 10, 30, 31, 32, 45], [5, 7, 8, 30, 31, 32], [5, 7, 8, 30, 31, 32], [5, 8, 11, 12], [5, 8, 11, 12, 13, 14], [8, 11, 12, 13, 14, 16], [11, 12, 13, 14, 16, 18], [4]] Try.func9 (by kernel_rfl) (by kernel_rfl) (by kernel_rfl) (by kernel_rfl) (by decide)
end Go.Sx.Lk
