/- The codes of the functions, written by a program (Gen.lean), and that they are the functions'. No conditions. -/
import Derived.Test.YteoiebmbgbgpgaaSxJNtoNq
import Derived.KernelRfl
import Derived.Test.YteoiebmbgbgpgaaProg
set_option linter.unusedVariables false
set_option linter.unusedSimpArgs false
set_option maxRecDepth 100000
namespace Go.Sx.Lk
open Go Go.Sx Go.Proofs
noncomputable def p6_r0 : List PI := [
  ⟨none, some 2, [], .eff fun e => ret (.v (.bool false))⟩]
noncomputable def p6_r1 : List PI := [
  ⟨none, some 15, [0], .eff fun e => ret (e 0)⟩,
  ⟨none, some 16, [15], .eff fun e => effLenSl (e 15)⟩,
  ⟨none, some 17, [16], .eff fun e => effIb .gtr (e 16) (.v (.int .i64 60))⟩]
noncomputable def p6_r2 : List PI := [
  ⟨none, some 18, [], .call 15 ([])⟩,
  ⟨none, some 2, [18], .eff fun e => ret (e 18)⟩]
noncomputable def p6_r3 : List PI := [
  ⟨none, some 20, [0], .eff fun e => ret (e 0)⟩,
  ⟨none, some 21, [20], .call 35 ([.tmp 20])⟩,
  ⟨none, some 19, [21], .eff fun e => ret (e 21)⟩,
  ⟨none, some 22, [19], .eff fun e => effExt 0 (e 19)⟩,
  ⟨none, some 23, [19], .eff fun e => effExt 1 (e 19)⟩,
  ⟨none, some 3, [22], .eff fun e => ret (e 22)⟩,
  ⟨none, some 4, [23], .eff fun e => ret (e 23)⟩]
noncomputable def p6_r4 : List PI := [
  ⟨none, some 25, [0], .eff fun e => ret (e 0)⟩,
  ⟨none, some 26, [25], .call 36 ([.tmp 25])⟩,
  ⟨none, some 24, [26], .eff fun e => ret (e 26)⟩,
  ⟨none, some 27, [24], .eff fun e => effExt 0 (e 24)⟩,
  ⟨none, some 28, [24], .eff fun e => effExt 1 (e 24)⟩,
  ⟨none, some 5, [27], .eff fun e => ret (e 27)⟩,
  ⟨none, some 6, [28], .eff fun e => ret (e 28)⟩]
noncomputable def p6_r5 : List PI := [
  ⟨none, some 30, [0], .eff fun e => ret (e 0)⟩,
  ⟨none, some 31, [30], .call 37 ([.tmp 30])⟩,
  ⟨none, some 29, [31], .eff fun e => ret (e 31)⟩,
  ⟨none, some 32, [29], .eff fun e => effExt 0 (e 29)⟩,
  ⟨none, some 33, [29], .eff fun e => effExt 1 (e 29)⟩,
  ⟨none, some 7, [32], .eff fun e => ret (e 32)⟩,
  ⟨none, some 8, [33], .eff fun e => ret (e 33)⟩]
noncomputable def p6_r6 : List PI := [
  ⟨none, some 35, [0], .eff fun e => ret (e 0)⟩,
  ⟨none, some 36, [35], .call 38 ([.tmp 35])⟩,
  ⟨none, some 34, [36], .eff fun e => ret (e 36)⟩,
  ⟨none, some 37, [34], .eff fun e => effExt 0 (e 34)⟩,
  ⟨none, some 38, [34], .eff fun e => effExt 1 (e 34)⟩,
  ⟨none, some 9, [37], .eff fun e => ret (e 37)⟩,
  ⟨none, some 10, [38], .eff fun e => ret (e 38)⟩]
noncomputable def p6_r7 : List PI := [
  ⟨none, some 40, [0], .eff fun e => ret (e 0)⟩,
  ⟨none, some 41, [40], .call 39 ([.tmp 40])⟩,
  ⟨none, some 39, [41], .eff fun e => ret (e 41)⟩,
  ⟨none, some 42, [39], .eff fun e => effExt 0 (e 39)⟩,
  ⟨none, some 43, [39], .eff fun e => effExt 1 (e 39)⟩,
  ⟨none, some 11, [42], .eff fun e => ret (e 42)⟩,
  ⟨none, some 12, [43], .eff fun e => ret (e 43)⟩]
noncomputable def p6_r8 : List PI := [
  ⟨none, some 45, [0], .eff fun e => ret (e 0)⟩,
  ⟨none, some 46, [45], .call 40 ([.tmp 45])⟩,
  ⟨none, some 44, [46], .eff fun e => ret (e 46)⟩,
  ⟨none, some 47, [44], .eff fun e => effExt 0 (e 44)⟩,
  ⟨none, some 48, [44], .eff fun e => effExt 1 (e 44)⟩,
  ⟨none, some 13, [47], .eff fun e => ret (e 47)⟩,
  ⟨none, some 14, [48], .eff fun e => ret (e 48)⟩]
noncomputable def p6_r9 : List PI := [
  ⟨none, some 49, [3], .eff fun e => ret (e 3)⟩,
  ⟨none, some 50, [5], .eff fun e => ret (e 5)⟩,
  ⟨none, some 51, [49, 50], .eff fun e => SOp.eff Try.prog (evalA e) (SOp.bin .eql 9 (.tmp 49) (.tmp 50))⟩,
  ⟨none, some 52, [51], .eff fun e => ret (e 51)⟩,
  ⟨some (52, true), some 53, [4], .eff fun e => ret (e 4)⟩,
  ⟨some (52, true), some 54, [6], .eff fun e => ret (e 6)⟩,
  ⟨some (52, true), some 55, [53, 54], .eff fun e => effIb .eql (e 53) (e 54)⟩,
  ⟨none, some 56, [52, 55], .eff fun e => effPick (e 52) (e 55) (.v (.bool false))⟩,
  ⟨none, some 57, [56], .eff fun e => ret (e 56)⟩,
  ⟨some (57, true), some 58, [7], .eff fun e => ret (e 7)⟩,
  ⟨some (57, true), some 59, [9], .eff fun e => ret (e 9)⟩,
  ⟨some (57, true), some 60, [58, 59], .call 41 ([.tmp 58, .tmp 59])⟩,
  ⟨none, some 61, [57, 60], .eff fun e => effPick (e 57) (e 60) (.v (.bool false))⟩,
  ⟨none, some 62, [61], .eff fun e => ret (e 61)⟩,
  ⟨some (62, true), some 63, [8], .eff fun e => ret (e 8)⟩,
  ⟨some (62, true), some 64, [10], .eff fun e => ret (e 10)⟩,
  ⟨some (62, true), some 65, [63, 64], .eff fun e => effIb .eql (e 63) (e 64)⟩,
  ⟨none, some 66, [62, 65], .eff fun e => effPick (e 62) (e 65) (.v (.bool false))⟩,
  ⟨none, some 67, [66], .eff fun e => ret (e 66)⟩,
  ⟨some (67, true), some 68, [11], .eff fun e => ret (e 11)⟩,
  ⟨some (67, true), some 69, [13], .eff fun e => ret (e 13)⟩,
  ⟨some (67, true), some 70, [68, 69], .call 22 ([.tmp 68, .tmp 69])⟩,
  ⟨none, some 71, [67, 70], .eff fun e => effPick (e 67) (e 70) (.v (.bool false))⟩,
  ⟨none, some 72, [71], .eff fun e => ret (e 71)⟩,
  ⟨some (72, true), some 73, [12], .eff fun e => ret (e 12)⟩,
  ⟨some (72, true), some 74, [14], .eff fun e => ret (e 14)⟩,
  ⟨some (72, true), some 75, [73, 74], .eff fun e => effIb .eql (e 73) (e 74)⟩,
  ⟨none, some 76, [72, 75], .eff fun e => effPick (e 72) (e 75) (.v (.bool false))⟩,
  ⟨none, some 77, [76], .eff fun e => ret (e 76)⟩,
  ⟨some (77, true), some 78, [], .call 15 ([])⟩,
  ⟨none, some 79, [77, 78], .eff fun e => effPick (e 77) (e 78) (.v (.bool false))⟩,
  ⟨none, some 2, [79], .eff fun e => ret (e 79)⟩]
noncomputable def p6 : PCode := (.seq (.reg p6_r0 [0]) (.seq (.seq (.reg p6_r1 [0, 17]) (.cond (.tmp 17) (.seq (.reg p6_r2 [2]) .ret) .skip)) (.seq (.reg p6_r3 [0, 3, 4]) (.seq (.reg p6_r4 [0, 3, 4, 5, 6]) (.seq (.reg p6_r5 [0, 3, 4, 5, 6, 7, 8]) (.seq (.reg p6_r6 [0, 3, 4, 5, 6, 7, 8, 9, 10]) (.seq (.reg p6_r7 [0, 3, 4, 5, 6, 7, 8, 9, 10, 11, 12]) (.seq (.reg p6_r8 [3, 4, 5, 6, 7, 8, 9, 10, 11, 12, 13, 14]) (.seq (.reg p6_r9 [2]) .ret)))))))))
theorem P6 : PFn Try.prog 6 ⟨p6, [.tmp 2], 80⟩ := .mk2 Try.f6 (Try.f6.body.getD .skip) [[0], [0, 17], [2], [0, 3, 4], [0, 3, 4, 5, 6], [0, 3, 4, 5, 6, 7, 8], [0, 3, 4, 5, 6, 7, 8, 9, 10], [0, 3, 4, 5, 6, 7, 8, 9, 10, 11, 12], [3, 4, 5, 6, 7, 8, 9, 10, 11, 12, 13, 14], [2]] Try.func6 (by kernel_rfl) (by kernel_rfl) (by kernel_rfl) (by kernel_rfl) (by decide)
end Go.Sx.Lk
