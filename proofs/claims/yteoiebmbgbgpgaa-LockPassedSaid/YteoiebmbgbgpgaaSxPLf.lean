/- The codes of the functions, written by a program (Gen.lean), and that they are the functions'. No conditions. -/
import Derived.Test.YteoiebmbgbgpgaaSxJNtoNq
import Derived.KernelRfl
import Derived.Test.YteoiebmbgbgpgaaProg
set_option linter.unusedVariables false
set_option linter.unusedSimpArgs false
set_option maxRecDepth 100000
namespace Go.Sx.Lk
open Go Go.Sx Go.Proofs
noncomputable def p13_r0 : List PI := [
  ⟨none, some 1, [0], .eff fun e => effBox (e 0)⟩,
  ⟨none, some 2, [], .eff fun e => ret (.v (.bool false))⟩]
noncomputable def p13_r1 : List PI := [
  ⟨none, some 12, [1], .eff fun e => effLoadN 8 (e 1)⟩,
  ⟨none, some 13, [12], .call 45 ([.tmp 12, .const (.int .i64 7)])⟩,
  ⟨none, some 3, [13], .eff fun e => ret (e 13)⟩]
noncomputable def p13_r2 : List PI := [
  ⟨none, some 14, [3], .eff fun e => ret (e 3)⟩,
  ⟨none, some 15, [14], .eff fun e => effLenSl (e 14)⟩,
  ⟨none, some 4, [15], .eff fun e => ret (e 15)⟩]
noncomputable def p13_r3 : List PI := [
  ⟨none, some 17, [3], .eff fun e => ret (e 3)⟩,
  ⟨none, some 18, [17], .call 29 ([.tmp 17])⟩,
  ⟨none, some 16, [18], .eff fun e => ret (e 18)⟩,
  ⟨none, some 19, [16], .eff fun e => effExt 0 (e 16)⟩,
  ⟨none, some 20, [16], .eff fun e => effExt 1 (e 16)⟩,
  ⟨none, some 5, [19], .eff fun e => ret (e 19)⟩,
  ⟨none, some 6, [20], .eff fun e => ret (e 20)⟩]
noncomputable def p13_r4 : List PI := [
  ⟨none, some 21, [6], .eff fun e => ret (e 6)⟩,
  ⟨none, some 22, [21], .eff fun e => effIb .neq (e 21) (.v (.int .i64 0))⟩,
  ⟨none, some 23, [22], .eff fun e => ret (e 22)⟩,
  ⟨some (23, false), some 24, [5], .eff fun e => ret (e 5)⟩,
  ⟨some (23, false), some 25, [24], .eff fun e => effIb .lss (e 24) (.v (.int .i64 0))⟩,
  ⟨none, some 26, [23, 25], .eff fun e => effPick (e 23) (.v (.bool true)) (e 25)⟩,
  ⟨none, some 27, [26], .eff fun e => ret (e 26)⟩,
  ⟨some (27, false), some 28, [5], .eff fun e => ret (e 5)⟩,
  ⟨some (27, false), some 29, [4], .eff fun e => ret (e 4)⟩,
  ⟨some (27, false), some 30, [29], .eff fun e => effIb .sub (e 29) (.v (.int .i64 1))⟩,
  ⟨some (27, false), some 31, [30], .eff fun e => effBig true [(.v (.int .i64 0)), (e 30)]⟩,
  ⟨some (27, false), some 32, [28, 31], .eff fun e => effIb .gtr (e 28) (e 31)⟩,
  ⟨none, some 33, [27, 32], .eff fun e => effPick (e 27) (.v (.bool true)) (e 32)⟩]
noncomputable def p13_r5 : List PI := [
  ⟨none, some 2, [], .eff fun e => ret (.v (.bool false))⟩]
noncomputable def p13_r6 : List PI := [
  ⟨none, some 34, [3], .eff fun e => ret (e 3)⟩,
  ⟨none, some 7, [34], .eff fun e => ret (e 34)⟩]
noncomputable def p13_r7 : List PI := [
  ⟨none, some 35, [4], .eff fun e => ret (e 4)⟩,
  ⟨none, some 36, [], .eff fun e => ret (.v (.int .i64 0))⟩]
noncomputable def p13_r8 : List PI := [
  ⟨none, some 37, [36, 35], .eff fun e => effIb .lss (e 36) (e 35)⟩]
noncomputable def p13_r9 : List PI := [
  ⟨none, some 38, [36], .eff fun e => ret (e 36)⟩,
  ⟨none, some 8, [38], .eff fun e => ret (e 38)⟩]
noncomputable def p13_r10 : List PI := [
  ⟨none, some 39, [7], .eff fun e => ret (e 7)⟩,
  ⟨none, some 40, [39], .call 52 ([.tmp 39])⟩,
  ⟨none, some 41, [8], .eff fun e => ret (e 8)⟩,
  ⟨none, some 42, [5], .eff fun e => ret (e 5)⟩,
  ⟨none, some 43, [41, 42], .eff fun e => effIb .geq (e 41) (e 42)⟩,
  ⟨none, some 44, [40, 43], .eff fun e => effBb true (e 40) (e 43)⟩]
noncomputable def p13_r11 : List PI := [
  ⟨none, some 2, [], .eff fun e => ret (.v (.bool false))⟩]
noncomputable def p13_r12 : List PI := [
  ⟨none, some 45, [4], .eff fun e => ret (e 4)⟩,
  ⟨none, some 46, [8], .eff fun e => ret (e 8)⟩,
  ⟨none, some 47, [4], .eff fun e => ret (e 4)⟩,
  ⟨none, some 48, [46, 47], .eff fun e => effBig false [(e 46), (e 47)]⟩,
  ⟨none, some 49, [45, 48], .eff fun e => effIb .sub (e 45) (e 48)⟩,
  ⟨none, some 9, [49], .eff fun e => ret (e 49)⟩]
noncomputable def p13_r13 : List PI := [
  ⟨none, some 50, [9], .eff fun e => ret (e 9)⟩,
  ⟨none, some 51, [4], .eff fun e => ret (e 4)⟩,
  ⟨none, some 52, [50, 51], .eff fun e => effIb .lss (e 50) (e 51)⟩]
noncomputable def p13_r14 : List PI := [
  ⟨none, some 55, [7], .eff fun e => ret (e 7)⟩,
  ⟨none, some 56, [9], .eff fun e => ret (e 9)⟩,
  ⟨none, some 57, [55, 56], .eff fun e => effIdx 1 (e 55) (e 56)⟩,
  ⟨none, some 58, [57], .eff fun e => effLoad1 (e 57)⟩,
  ⟨none, some 59, [9], .eff fun e => ret (e 9)⟩,
  ⟨none, some 60, [58, 59], .eff fun e => effIb .neq (e 58) (e 59)⟩]
noncomputable def p13_r15 : List PI := [
  ⟨none, some 2, [], .eff fun e => ret (.v (.bool false))⟩]
noncomputable def p13_r16 : List PI := [
  ⟨none, some 53, [9], .eff fun e => ret (e 9)⟩,
  ⟨none, some 54, [53], .eff fun e => effIb .add (e 53) (.v (.int .i64 1))⟩,
  ⟨none, some 9, [54], .eff fun e => ret (e 54)⟩]
noncomputable def p13_l0 : PCode := (.seq (.seq (.reg p13_r13 [4, 5, 7, 9, 35, 36, 52]) (.cond (.tmp 52) .skip (.exit 2))) (.seq (.block 3 (.seq (.reg p13_r14 [4, 5, 7, 9, 35, 36, 60]) (.cond (.tmp 60) (.seq (.reg p13_r15 [2]) .ret) .skip))) (.reg p13_r16 [4, 5, 7, 9, 35, 36])))
noncomputable def p13_r17 : List PI := [
  ⟨none, some 62, [7], .eff fun e => ret (e 7)⟩,
  ⟨none, some 63, [62], .call 16 ([.tmp 62])⟩,
  ⟨none, some 61, [63], .eff fun e => ret (e 63)⟩,
  ⟨none, some 64, [61], .eff fun e => effExt 0 (e 61)⟩,
  ⟨none, some 65, [61], .eff fun e => effExt 1 (e 61)⟩,
  ⟨none, some 10, [64], .eff fun e => ret (e 64)⟩,
  ⟨none, some 11, [65], .eff fun e => ret (e 65)⟩]
noncomputable def p13_r18 : List PI := [
  ⟨none, some 66, [11], .eff fun e => ret (e 11)⟩,
  ⟨none, some 67, [66], .eff fun e => effIb .neq (e 66) (.v (.int .i64 0))⟩,
  ⟨none, some 68, [67], .eff fun e => ret (e 67)⟩,
  ⟨some (68, false), some 69, [10], .eff fun e => ret (e 10)⟩,
  ⟨some (68, false), some 70, [7], .eff fun e => ret (e 7)⟩,
  ⟨some (68, false), some 71, [70], .call 53 ([.tmp 70])⟩,
  ⟨some (68, false), some 72, [69, 71], .call 22 ([.tmp 69, .tmp 71])⟩,
  ⟨some (68, false), some 73, [72], .eff fun e => effNt (e 72)⟩,
  ⟨none, some 74, [68, 73], .eff fun e => effPick (e 68) (.v (.bool true)) (e 73)⟩]
noncomputable def p13_r19 : List PI := [
  ⟨none, some 2, [], .eff fun e => ret (.v (.bool false))⟩]
noncomputable def p13_r20 : List PI := [
  ⟨none, some 75, [10], .eff fun e => ret (e 10)⟩,
  ⟨none, some 7, [75], .eff fun e => ret (e 75)⟩]
noncomputable def p13_r21 : List PI := [
  ⟨none, some 76, [36], .eff fun e => effIb .add (e 36) (.v (.int .i64 1))⟩,
  ⟨none, some 36, [76], .eff fun e => ret (e 76)⟩]
noncomputable def p13_l1 : PCode := (.seq (.reg p13_r8 [4, 5, 7, 35, 36, 37]) (.seq (.cond (.tmp 37) .skip (.exit 0)) (.seq (.block 1 (.seq (.reg p13_r9 [4, 5, 7, 8, 35, 36]) (.seq (.seq (.reg p13_r10 [4, 5, 7, 8, 35, 36, 44]) (.cond (.tmp 44) (.seq (.reg p13_r11 [2]) .ret) .skip)) (.seq (.seq (.reg p13_r12 [4, 5, 7, 9, 35, 36]) (.block 2 (.loop p13_l0))) (.seq (.reg p13_r17 [4, 5, 7, 10, 11, 35, 36]) (.seq (.seq (.reg p13_r18 [4, 5, 10, 35, 36, 74]) (.cond (.tmp 74) (.seq (.reg p13_r19 [2]) .ret) .skip)) (.reg p13_r20 [4, 5, 7, 35, 36]))))))) (.reg p13_r21 [4, 5, 7, 35, 36]))))
noncomputable def p13_r22 : List PI := [
  ⟨none, some 77, [], .call 15 ([])⟩,
  ⟨none, some 2, [77], .eff fun e => ret (e 77)⟩]
noncomputable def p13 : PCode := (.seq (.reg p13_r0 [1]) (.seq (.reg p13_r1 [3]) (.seq (.reg p13_r2 [3, 4]) (.seq (.reg p13_r3 [3, 4, 5, 6]) (.seq (.seq (.reg p13_r4 [3, 4, 5, 33]) (.cond (.tmp 33) (.seq (.reg p13_r5 [2]) .ret) .skip)) (.seq (.reg p13_r6 [4, 5, 7]) (.seq (.seq (.reg p13_r7 [4, 5, 7, 35, 36]) (.block 0 (.loop p13_l1))) (.seq (.reg p13_r22 [2]) .ret))))))))
theorem P13 : PFn Try.prog 13 ⟨p13, [.tmp 2], 78⟩ := .mk2 Try.f13 (Try.f13.body.getD .skip) [[1], [3], [3, 4], [3, 4, 5, 6], [3, 4, 5, 33], [2], [4, 5, 7], [4, 5, 7, 35, 36], [4, 5, 7, 35, 36, 37], [4, 5, 7, 8, 35, 36], [4, 5, 7, 8, 35, 36, 44], [2], [4, 5, 7, 9, 35, 36], [4, 5, 7, 9, 35, 36, 52], [4, 5, 7, 9, 35, 36, 60], [2], [4, 5, 7, 9, 35, 36], [4, 5, 7, 10, 11, 35, 36], [4, 5, 10, 35, 36, 74], [2], [4, 5, 7, 35, 36], [4, 5, 7, 35, 36], [2]] Try.func13 (by kernel_rfl) (by kernel_rfl) (by kernel_rfl) (by kernel_rfl) (by decide)
end Go.Sx.Lk
