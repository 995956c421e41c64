/- The codes of the functions, written by a program (Gen.lean), and that they are the functions'. No conditions. -/
import Derived.Test.YteoiebmbgbgpgaaSxJNtoNq
import Derived.KernelRfl
import Derived.Test.YteoiebmbgbgpgaaProg
set_option linter.unusedVariables false
set_option linter.unusedSimpArgs false
set_option maxRecDepth 100000
namespace Go.Sx.Lk
open Go Go.Sx Go.Proofs
noncomputable def p4_r0 : List PI := [
  ⟨none, some 8, [], .eff fun e => ret (.v (.bool false))⟩]
noncomputable def p4_r1 : List PI := [
  ⟨none, some 25, [0], .eff fun e => ret (e 0)⟩,
  ⟨none, some 26, [25], .eff fun e => effLenSl (e 25)⟩,
  ⟨none, some 27, [26], .eff fun e => effIb .gtr (e 26) (.v (.int .i64 60))⟩]
noncomputable def p4_r2 : List PI := [
  ⟨none, some 28, [], .call 15 ([])⟩,
  ⟨none, some 8, [28], .eff fun e => ret (e 28)⟩]
noncomputable def p4_r3 : List PI := [
  ⟨none, some 30, [0], .eff fun e => ret (e 0)⟩,
  ⟨none, some 31, [30], .call 25 ([.tmp 30])⟩,
  ⟨none, some 29, [31], .eff fun e => ret (e 31)⟩,
  ⟨none, some 32, [29], .eff fun e => effExt 0 (e 29)⟩,
  ⟨none, some 33, [29], .eff fun e => effExt 1 (e 29)⟩,
  ⟨none, some 9, [32], .eff fun e => ret (e 32)⟩,
  ⟨none, some 10, [33], .eff fun e => ret (e 33)⟩]
noncomputable def p4_r4 : List PI := [
  ⟨none, some 35, [0], .eff fun e => ret (e 0)⟩,
  ⟨none, some 36, [35], .call 26 ([.tmp 35])⟩,
  ⟨none, some 34, [36], .eff fun e => ret (e 36)⟩,
  ⟨none, some 37, [34], .eff fun e => effExt 0 (e 34)⟩,
  ⟨none, some 38, [34], .eff fun e => effExt 1 (e 34)⟩,
  ⟨none, some 11, [37], .eff fun e => ret (e 37)⟩,
  ⟨none, some 12, [38], .eff fun e => ret (e 38)⟩]
noncomputable def p4_r5 : List PI := [
  ⟨none, some 40, [0], .eff fun e => ret (e 0)⟩,
  ⟨none, some 41, [40], .call 27 ([.tmp 40])⟩,
  ⟨none, some 39, [41], .eff fun e => ret (e 41)⟩,
  ⟨none, some 42, [39], .eff fun e => effExt 0 (e 39)⟩,
  ⟨none, some 43, [39], .eff fun e => effExt 1 (e 39)⟩,
  ⟨none, some 44, [39], .eff fun e => effExt 2 (e 39)⟩,
  ⟨none, some 45, [39], .eff fun e => effExt 3 (e 39)⟩,
  ⟨none, some 13, [42], .eff fun e => ret (e 42)⟩,
  ⟨none, some 14, [43], .eff fun e => ret (e 43)⟩,
  ⟨none, some 15, [44], .eff fun e => ret (e 44)⟩,
  ⟨none, some 16, [45], .eff fun e => ret (e 45)⟩]
noncomputable def p4_r6 : List PI := [
  ⟨none, some 47, [0], .eff fun e => ret (e 0)⟩,
  ⟨none, some 48, [47], .call 28 ([.tmp 47])⟩,
  ⟨none, some 46, [48], .eff fun e => ret (e 48)⟩,
  ⟨none, some 49, [46], .eff fun e => effExt 0 (e 46)⟩,
  ⟨none, some 50, [46], .eff fun e => effExt 1 (e 46)⟩,
  ⟨none, some 51, [46], .eff fun e => effExt 2 (e 46)⟩,
  ⟨none, some 52, [46], .eff fun e => effExt 3 (e 46)⟩,
  ⟨none, some 17, [49], .eff fun e => ret (e 49)⟩,
  ⟨none, some 18, [50], .eff fun e => ret (e 50)⟩,
  ⟨none, some 19, [51], .eff fun e => ret (e 51)⟩,
  ⟨none, some 20, [52], .eff fun e => ret (e 52)⟩]
noncomputable def p4_r7 : List PI := [
  ⟨none, some 54, [0], .eff fun e => ret (e 0)⟩,
  ⟨none, some 55, [54], .call 29 ([.tmp 54])⟩,
  ⟨none, some 53, [55], .eff fun e => ret (e 55)⟩,
  ⟨none, some 56, [53], .eff fun e => effExt 0 (e 53)⟩,
  ⟨none, some 57, [53], .eff fun e => effExt 1 (e 53)⟩,
  ⟨none, some 21, [56], .eff fun e => ret (e 56)⟩,
  ⟨none, some 22, [57], .eff fun e => ret (e 57)⟩]
noncomputable def p4_r8 : List PI := [
  ⟨none, some 59, [0], .eff fun e => ret (e 0)⟩,
  ⟨none, some 60, [59], .call 30 ([.tmp 59])⟩,
  ⟨none, some 58, [60], .eff fun e => ret (e 60)⟩,
  ⟨none, some 61, [58], .eff fun e => effExt 0 (e 58)⟩,
  ⟨none, some 62, [58], .eff fun e => effExt 1 (e 58)⟩,
  ⟨none, some 23, [61], .eff fun e => ret (e 61)⟩,
  ⟨none, some 24, [62], .eff fun e => ret (e 62)⟩]
noncomputable def p4_r9 : List PI := [
  ⟨none, some 63, [9], .eff fun e => ret (e 9)⟩,
  ⟨none, some 64, [11], .eff fun e => ret (e 11)⟩,
  ⟨none, some 65, [63, 64], .eff fun e => effBb false (e 63) (e 64)⟩,
  ⟨none, some 66, [65], .eff fun e => ret (e 65)⟩,
  ⟨some (66, true), some 67, [10], .eff fun e => ret (e 10)⟩,
  ⟨some (66, true), some 68, [12], .eff fun e => ret (e 12)⟩,
  ⟨some (66, true), some 69, [67, 68], .eff fun e => effIb .eql (e 67) (e 68)⟩,
  ⟨none, some 70, [66, 69], .eff fun e => effPick (e 66) (e 69) (.v (.bool false))⟩,
  ⟨none, some 71, [70], .eff fun e => ret (e 70)⟩,
  ⟨some (71, true), some 72, [13], .eff fun e => ret (e 13)⟩,
  ⟨some (71, true), some 73, [17], .eff fun e => ret (e 17)⟩,
  ⟨some (71, true), some 74, [72, 73], .eff fun e => effIb .eql (e 72) (e 73)⟩,
  ⟨none, some 75, [71, 74], .eff fun e => effPick (e 71) (e 74) (.v (.bool false))⟩,
  ⟨none, some 76, [75], .eff fun e => ret (e 75)⟩,
  ⟨some (76, true), some 77, [14], .eff fun e => ret (e 14)⟩,
  ⟨some (76, true), some 78, [18], .eff fun e => ret (e 18)⟩,
  ⟨some (76, true), some 79, [77, 78], .eff fun e => effIb .eql (e 77) (e 78)⟩,
  ⟨none, some 80, [76, 79], .eff fun e => effPick (e 76) (e 79) (.v (.bool false))⟩,
  ⟨none, some 81, [80], .eff fun e => ret (e 80)⟩,
  ⟨some (81, true), some 82, [15], .eff fun e => ret (e 15)⟩,
  ⟨some (81, true), some 83, [19], .eff fun e => ret (e 19)⟩,
  ⟨some (81, true), some 84, [82, 83], .eff fun e => effIb .eql (e 82) (e 83)⟩,
  ⟨none, some 85, [81, 84], .eff fun e => effPick (e 81) (e 84) (.v (.bool false))⟩,
  ⟨none, some 86, [85], .eff fun e => ret (e 85)⟩,
  ⟨some (86, true), some 87, [16], .eff fun e => ret (e 16)⟩,
  ⟨some (86, true), some 88, [20], .eff fun e => ret (e 20)⟩,
  ⟨some (86, true), some 89, [87, 88], .eff fun e => effIb .eql (e 87) (e 88)⟩,
  ⟨none, some 90, [86, 89], .eff fun e => effPick (e 86) (e 89) (.v (.bool false))⟩,
  ⟨none, some 91, [90], .eff fun e => ret (e 90)⟩,
  ⟨some (91, true), some 92, [21], .eff fun e => ret (e 21)⟩,
  ⟨some (91, true), some 93, [23], .eff fun e => ret (e 23)⟩,
  ⟨some (91, true), some 94, [92, 93], .eff fun e => effIb .eql (e 92) (e 93)⟩,
  ⟨none, some 95, [91, 94], .eff fun e => effPick (e 91) (e 94) (.v (.bool false))⟩,
  ⟨none, some 96, [95], .eff fun e => ret (e 95)⟩,
  ⟨some (96, true), some 97, [22], .eff fun e => ret (e 22)⟩,
  ⟨some (96, true), some 98, [24], .eff fun e => ret (e 24)⟩,
  ⟨some (96, true), some 99, [97, 98], .eff fun e => effIb .eql (e 97) (e 98)⟩,
  ⟨none, some 100, [96, 99], .eff fun e => effPick (e 96) (e 99) (.v (.bool false))⟩,
  ⟨none, some 101, [100], .eff fun e => ret (e 100)⟩,
  ⟨some (101, true), some 102, [0], .eff fun e => ret (e 0)⟩,
  ⟨some (101, true), some 103, [1], .eff fun e => ret (e 1)⟩,
  ⟨some (101, true), some 104, [2], .eff fun e => ret (e 2)⟩,
  ⟨some (101, true), some 105, [3], .eff fun e => ret (e 3)⟩,
  ⟨some (101, true), some 106, [102, 103, 104, 105], .call 31 ([.tmp 102, .tmp 103, .tmp 104, .tmp 105])⟩,
  ⟨some (101, true), some 107, [0], .eff fun e => ret (e 0)⟩,
  ⟨some (101, true), some 108, [1], .eff fun e => ret (e 1)⟩,
  ⟨some (101, true), some 109, [2], .eff fun e => ret (e 2)⟩,
  ⟨some (101, true), some 110, [3], .eff fun e => ret (e 3)⟩,
  ⟨some (101, true), some 111, [107, 108, 109, 110], .call 32 ([.tmp 107, .tmp 108, .tmp 109, .tmp 110])⟩,
  ⟨some (101, true), some 112, [106, 111], .eff fun e => effIb .eql (e 106) (e 111)⟩,
  ⟨none, some 113, [101, 112], .eff fun e => effPick (e 101) (e 112) (.v (.bool false))⟩,
  ⟨none, some 114, [113], .eff fun e => ret (e 113)⟩,
  ⟨some (114, true), some 115, [], .call 15 ([])⟩,
  ⟨none, some 116, [114, 115], .eff fun e => effPick (e 114) (e 115) (.v (.bool false))⟩,
  ⟨none, some 8, [116], .eff fun e => ret (e 116)⟩]
noncomputable def p4 : PCode := (.seq (.reg p4_r0 [0, 1, 2, 3]) (.seq (.seq (.reg p4_r1 [0, 1, 2, 3, 27]) (.cond (.tmp 27) (.seq (.reg p4_r2 [8]) .ret) .skip)) (.seq (.reg p4_r3 [0, 1, 2, 3, 9, 10]) (.seq (.reg p4_r4 [0, 1, 2, 3, 9, 10, 11, 12]) (.seq (.reg p4_r5 [0, 1, 2, 3, 9, 10, 11, 12, 13, 14, 15, 16]) (.seq (.reg p4_r6 [0, 1, 2, 3, 9, 10, 11, 12, 13, 14, 15, 16, 17, 18, 19, 20]) (.seq (.reg p4_r7 [0, 1, 2, 3, 9, 10, 11, 12, 13, 14, 15, 16, 17, 18, 19, 20, 21, 22]) (.seq (.reg p4_r8 [0, 1, 2, 3, 9, 10, 11, 12, 13, 14, 15, 16, 17, 18, 19, 20, 21, 22, 23, 24]) (.seq (.reg p4_r9 [8]) .ret)))))))))
theorem P4 : PFn Try.prog 4 ⟨p4, [.tmp 8], 117⟩ := .mk2 Try.f4 (Try.f4.body.getD .skip) [[0, 1, 2, 3], [0, 1, 2, 3, 27], [8], [0, 1, 2, 3, 9, 10], [0, 1, 2, 3, 9, 10, 11, 12], [0, 1, 2, 3, 9, 10, 11, 12, 13, 14, 15, 16], [0, 1, 2, 3, 9, 10, 11, 12, 13, 14, 15, 16, 17, 18, 19, 20], [0, 1, 2, 3, 9, 10, 11, 12, 13, 14, 15, 16, 17, 18, 19, 20, 21, 22], [0, 1, 2, 3, 9, 10, 11, 12, 13, 14, 15, 16, 17, 18, 19, 20, 21, 22, 23, 24], [8]] Try.func4 (by kernel_rfl) (by kernel_rfl) (by kernel_rfl) (by kernel_rfl) (by decide)
end Go.Sx.Lk
