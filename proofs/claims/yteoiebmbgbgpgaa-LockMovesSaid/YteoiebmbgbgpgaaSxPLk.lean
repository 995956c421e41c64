/- The codes of the functions, written by a program (Gen.lean), and that they are the functions'. No conditions. -/
import Derived.Test.YteoiebmbgbgpgaaSxJNtoNq
import Derived.KernelRfl
import Derived.Test.YteoiebmbgbgpgaaProg
set_option linter.unusedVariables false
set_option linter.unusedSimpArgs false
set_option maxRecDepth 100000
namespace Go.Sx.Lk
open Go Go.Sx Go.Proofs
noncomputable def p3_r0 : List PI := [
  ⟨none, some 4, [], .eff fun e => ret (.v (.bool false))⟩]
noncomputable def p3_r1 : List PI := [
  ⟨none, some 17, [0], .eff fun e => ret (e 0)⟩,
  ⟨none, some 18, [17], .eff fun e => effLenSl (e 17)⟩,
  ⟨none, some 19, [18], .eff fun e => effIb .gtr (e 18) (.v (.int .i64 60))⟩,
  ⟨none, some 20, [19], .eff fun e => ret (e 19)⟩,
  ⟨some (20, false), some 21, [1], .eff fun e => ret (e 1)⟩,
  ⟨some (20, false), some 22, [21], .eff fun e => effLenS (e 21)⟩,
  ⟨some (20, false), some 23, [22], .eff fun e => effIb .gtr (e 22) (.v (.int .i64 200))⟩,
  ⟨none, some 24, [20, 23], .eff fun e => effPick (e 20) (.v (.bool true)) (e 23)⟩]
noncomputable def p3_r2 : List PI := [
  ⟨none, some 25, [], .call 15 ([])⟩,
  ⟨none, some 4, [25], .eff fun e => ret (e 25)⟩]
noncomputable def p3_r3 : List PI := [
  ⟨none, some 27, [0], .eff fun e => ret (e 0)⟩,
  ⟨none, some 28, [27], .call 16 ([.tmp 27])⟩,
  ⟨none, some 26, [28], .eff fun e => ret (e 28)⟩,
  ⟨none, some 29, [26], .eff fun e => effExt 0 (e 26)⟩,
  ⟨none, some 30, [26], .eff fun e => effExt 1 (e 26)⟩,
  ⟨none, some 5, [29], .eff fun e => ret (e 29)⟩,
  ⟨none, some 6, [30], .eff fun e => ret (e 30)⟩]
noncomputable def p3_r4 : List PI := [
  ⟨none, some 32, [0], .eff fun e => ret (e 0)⟩,
  ⟨none, some 33, [32], .call 17 ([.tmp 32])⟩,
  ⟨none, some 31, [33], .eff fun e => ret (e 33)⟩,
  ⟨none, some 34, [31], .eff fun e => effExt 0 (e 31)⟩,
  ⟨none, some 35, [31], .eff fun e => effExt 1 (e 31)⟩,
  ⟨none, some 7, [34], .eff fun e => ret (e 34)⟩,
  ⟨none, some 8, [35], .eff fun e => ret (e 35)⟩]
noncomputable def p3_r5 : List PI := [
  ⟨none, some 37, [0], .eff fun e => ret (e 0)⟩,
  ⟨none, some 38, [37], .call 18 ([.tmp 37])⟩,
  ⟨none, some 36, [38], .eff fun e => ret (e 38)⟩,
  ⟨none, some 39, [36], .eff fun e => effExt 0 (e 36)⟩,
  ⟨none, some 40, [36], .eff fun e => effExt 1 (e 36)⟩,
  ⟨none, some 9, [39], .eff fun e => ret (e 39)⟩,
  ⟨none, some 10, [40], .eff fun e => ret (e 40)⟩]
noncomputable def p3_r6 : List PI := [
  ⟨none, some 42, [0], .eff fun e => ret (e 0)⟩,
  ⟨none, some 43, [42], .call 19 ([.tmp 42])⟩,
  ⟨none, some 41, [43], .eff fun e => ret (e 43)⟩,
  ⟨none, some 44, [41], .eff fun e => effExt 0 (e 41)⟩,
  ⟨none, some 45, [41], .eff fun e => effExt 1 (e 41)⟩,
  ⟨none, some 11, [44], .eff fun e => ret (e 44)⟩,
  ⟨none, some 12, [45], .eff fun e => ret (e 45)⟩]
noncomputable def p3_r7 : List PI := [
  ⟨none, some 47, [0], .eff fun e => ret (e 0)⟩,
  ⟨none, some 48, [1], .eff fun e => ret (e 1)⟩,
  ⟨none, some 49, [47, 48], .call 20 ([.tmp 47, .tmp 48])⟩,
  ⟨none, some 46, [49], .eff fun e => ret (e 49)⟩,
  ⟨none, some 50, [46], .eff fun e => effExt 0 (e 46)⟩,
  ⟨none, some 51, [46], .eff fun e => effExt 1 (e 46)⟩,
  ⟨none, some 13, [50], .eff fun e => ret (e 50)⟩,
  ⟨none, some 14, [51], .eff fun e => ret (e 51)⟩]
noncomputable def p3_r8 : List PI := [
  ⟨none, some 53, [0], .eff fun e => ret (e 0)⟩,
  ⟨none, some 54, [1], .eff fun e => ret (e 1)⟩,
  ⟨none, some 55, [53, 54], .call 21 ([.tmp 53, .tmp 54])⟩,
  ⟨none, some 52, [55], .eff fun e => ret (e 55)⟩,
  ⟨none, some 56, [52], .eff fun e => effExt 0 (e 52)⟩,
  ⟨none, some 57, [52], .eff fun e => effExt 1 (e 52)⟩,
  ⟨none, some 15, [56], .eff fun e => ret (e 56)⟩,
  ⟨none, some 16, [57], .eff fun e => ret (e 57)⟩]
noncomputable def p3_r9 : List PI := [
  ⟨none, some 58, [5], .eff fun e => ret (e 5)⟩,
  ⟨none, some 59, [7], .eff fun e => ret (e 7)⟩,
  ⟨none, some 60, [58, 59], .call 22 ([.tmp 58, .tmp 59])⟩,
  ⟨none, some 61, [60], .eff fun e => ret (e 60)⟩,
  ⟨some (61, true), some 62, [6], .eff fun e => ret (e 6)⟩,
  ⟨some (61, true), some 63, [8], .eff fun e => ret (e 8)⟩,
  ⟨some (61, true), some 64, [62, 63], .eff fun e => effIb .eql (e 62) (e 63)⟩,
  ⟨none, some 65, [61, 64], .eff fun e => effPick (e 61) (e 64) (.v (.bool false))⟩,
  ⟨none, some 66, [65], .eff fun e => ret (e 65)⟩,
  ⟨some (66, true), some 67, [9], .eff fun e => ret (e 9)⟩,
  ⟨some (66, true), some 68, [11], .eff fun e => ret (e 11)⟩,
  ⟨some (66, true), some 69, [67, 68], .eff fun e => SOp.eff Try.prog (evalA e) (SOp.bin .eql 9 (.tmp 67) (.tmp 68))⟩,
  ⟨none, some 70, [66, 69], .eff fun e => effPick (e 66) (e 69) (.v (.bool false))⟩,
  ⟨none, some 71, [70], .eff fun e => ret (e 70)⟩,
  ⟨some (71, true), some 72, [10], .eff fun e => ret (e 10)⟩,
  ⟨some (71, true), some 73, [12], .eff fun e => ret (e 12)⟩,
  ⟨some (71, true), some 74, [72, 73], .eff fun e => effIb .eql (e 72) (e 73)⟩,
  ⟨none, some 75, [71, 74], .eff fun e => effPick (e 71) (e 74) (.v (.bool false))⟩,
  ⟨none, some 76, [75], .eff fun e => ret (e 75)⟩,
  ⟨some (76, true), some 77, [13], .eff fun e => ret (e 13)⟩,
  ⟨some (76, true), some 78, [15], .eff fun e => ret (e 15)⟩,
  ⟨some (76, true), some 79, [77, 78], .call 22 ([.tmp 77, .tmp 78])⟩,
  ⟨none, some 80, [76, 79], .eff fun e => effPick (e 76) (e 79) (.v (.bool false))⟩,
  ⟨none, some 81, [80], .eff fun e => ret (e 80)⟩,
  ⟨some (81, true), some 82, [14], .eff fun e => ret (e 14)⟩,
  ⟨some (81, true), some 83, [16], .eff fun e => ret (e 16)⟩,
  ⟨some (81, true), some 84, [82, 83], .eff fun e => effIb .eql (e 82) (e 83)⟩,
  ⟨none, some 85, [81, 84], .eff fun e => effPick (e 81) (e 84) (.v (.bool false))⟩,
  ⟨none, some 86, [85], .eff fun e => ret (e 85)⟩,
  ⟨some (86, true), some 87, [0], .eff fun e => ret (e 0)⟩,
  ⟨some (86, true), some 88, [87], .call 23 ([.tmp 87])⟩,
  ⟨some (86, true), some 89, [0], .eff fun e => ret (e 0)⟩,
  ⟨some (86, true), some 90, [89], .call 24 ([.tmp 89])⟩,
  ⟨some (86, true), some 91, [88, 90], .eff fun e => effIb .eql (e 88) (e 90)⟩,
  ⟨none, some 92, [86, 91], .eff fun e => effPick (e 86) (e 91) (.v (.bool false))⟩,
  ⟨none, some 93, [92], .eff fun e => ret (e 92)⟩,
  ⟨some (93, true), some 94, [], .call 15 ([])⟩,
  ⟨none, some 95, [93, 94], .eff fun e => effPick (e 93) (e 94) (.v (.bool false))⟩,
  ⟨none, some 4, [95], .eff fun e => ret (e 95)⟩]
noncomputable def p3 : PCode := (.seq (.reg p3_r0 [0, 1]) (.seq (.seq (.reg p3_r1 [0, 1, 24]) (.cond (.tmp 24) (.seq (.reg p3_r2 [4]) .ret) .skip)) (.seq (.reg p3_r3 [0, 1, 5, 6]) (.seq (.reg p3_r4 [0, 1, 5, 6, 7, 8]) (.seq (.reg p3_r5 [0, 1, 5, 6, 7, 8, 9, 10]) (.seq (.reg p3_r6 [0, 1, 5, 6, 7, 8, 9, 10, 11, 12]) (.seq (.reg p3_r7 [0, 1, 5, 6, 7, 8, 9, 10, 11, 12, 13, 14]) (.seq (.reg p3_r8 [0, 5, 6, 7, 8, 9, 10, 11, 12, 13, 14, 15, 16]) (.seq (.reg p3_r9 [4]) .ret)))))))))
theorem P3 : PFn Try.prog 3 ⟨p3, [.tmp 4], 96⟩ := .mk2 Try.f3 (Try.f3.body.getD .skip) [[0, 1], [0, 1, 24], [4], [0, 1, 5, 6], [0, 1, 5, 6, 7, 8], [0, 1, 5, 6, 7, 8, 9, 10], [0, 1, 5, 6, 7, 8, 9, 10, 11, 12], [0, 1, 5, 6, 7, 8, 9, 10, 11, 12, 13, 14], [0, 5, 6, 7, 8, 9, 10, 11, 12, 13, 14, 15, 16], [4]] Try.func3 (by kernel_rfl) (by kernel_rfl) (by kernel_rfl) (by kernel_rfl) (by decide)
end Go.Sx.Lk
