/- The codes of the functions, written by a program (Gen.lean), and that they are the functions'. No conditions. -/
import Derived.Test.YtfiebjbhiflfpaaDoorSxJNtoNq
import Derived.KernelRfl
import Derived.Test.YtfiebjbhiflfpaaDoorProg
set_option linter.unusedVariables false
set_option linter.unusedSimpArgs false
set_option maxRecDepth 100000
namespace Go.Sx.Ch
open Go Go.Sx Go.Proofs
noncomputable def p57_r0 : List PI := [
  ⟨none, some 1, [0], .eff fun e => effBox (e 0)⟩,
  ⟨none, some 2, [], .eff fun e => ret (.v (.slice none 0 0))⟩]
noncomputable def p57_r1 : List PI := [
  ⟨none, some 3, [], .eff fun e => ret (.v (.slice none 0 0))⟩]
noncomputable def p57_r2 : List PI := [
  ⟨none, some 6, [1], .eff fun e => effOff 0 (e 1)⟩,
  ⟨none, some 7, [6], .eff fun e => effLoad1 (e 6)⟩,
  ⟨none, some 8, [7], .eff fun e => effLenSl (e 7)⟩,
  ⟨none, some 9, [], .eff fun e => ret (.v (.int .i64 0))⟩]
noncomputable def p57_r3 : List PI := [
  ⟨none, some 10, [9, 8], .eff fun e => effIb .lss (e 9) (e 8)⟩]
noncomputable def p57_r4 : List PI := [
  ⟨none, some 11, [7, 9], .eff fun e => effIdx 1 (e 7) (e 9)⟩,
  ⟨none, some 12, [11], .eff fun e => effLoad1 (e 11)⟩,
  ⟨none, some 5, [12], .eff fun e => ret (e 12)⟩]
noncomputable def p57_r5 : List PI := [
  ⟨none, some 13, [3], .eff fun e => ret (e 3)⟩,
  ⟨none, some 14, [5], .eff fun e => ret (e 5)⟩,
  ⟨none, some 15, [14], .call 61 ([.tmp 14])⟩,
  ⟨none, some 16, [15], .eff fun e => effMks 1 1 ([.slice none 0 0]) [(0, 1, (e 15))]⟩,
  ⟨none, some 17, [13, 16], .eff fun e => effApp 1 24 (e 13) (e 16)⟩,
  ⟨none, some 3, [17], .eff fun e => ret (e 17)⟩]
noncomputable def p57_r6 : List PI := [
  ⟨none, some 18, [9], .eff fun e => effIb .add (e 9) (.v (.int .i64 1))⟩,
  ⟨none, some 9, [18], .eff fun e => ret (e 18)⟩]
noncomputable def p57_l0 : PCode := (.seq (.reg p57_r3 [3, 7, 8, 9, 10]) (.seq (.cond (.tmp 10) .skip (.exit 0)) (.seq (.block 1 (.seq (.reg p57_r4 [3, 5, 7, 8, 9]) (.reg p57_r5 [3, 7, 8, 9]))) (.reg p57_r6 [3, 7, 8, 9]))))
noncomputable def p57_r7 : List PI := [
  ⟨none, some 19, [3], .eff fun e => ret (e 3)⟩,
  ⟨none, some 20, [19], .call 62 ([.tmp 19, .func 92])⟩]
noncomputable def p57_r8 : List PI := [
  ⟨none, some 21, [3], .eff fun e => ret (e 3)⟩,
  ⟨none, some 2, [21], .eff fun e => ret (e 21)⟩]
noncomputable def p57 : PCode := (.seq (.reg p57_r0 [1]) (.seq (.reg p57_r1 [1, 3]) (.seq (.seq (.reg p57_r2 [3, 7, 8, 9]) (.block 0 (.loop p57_l0))) (.seq (.reg p57_r7 [3]) (.seq (.reg p57_r8 [2]) .ret)))))
theorem P57 : PFn Tryd.prog 57 ⟨p57, [.tmp 2], 22⟩ := .mk2 Tryd.f57 (Tryd.f57.body.getD .skip) [[1], [1, 3], [3, 7, 8, 9], [3, 7, 8, 9, 10], [3, 5, 7, 8, 9], [3, 7, 8, 9], [3, 7, 8, 9], [3], [2]] Tryd.func57 (by kernel_rfl) (by kernel_rfl) (by kernel_rfl) (by kernel_rfl) (by decide)
noncomputable def p61_r0 : List PI := [
  ⟨none, some 2, [], .eff fun e => ret (.v (.slice none 0 0))⟩]
noncomputable def p61_r1 : List PI := [
  ⟨none, some 4, [0], .eff fun e => ret (e 0)⟩,
  ⟨none, some 5, [0], .eff fun e => ret (e 0)⟩,
  ⟨none, some 6, [5], .call 93 ([.tmp 5])⟩,
  ⟨none, some 7, [4, 6], .call 91 ([.tmp 4, .tmp 6])⟩,
  ⟨none, some 3, [7], .eff fun e => ret (e 7)⟩]
noncomputable def p61_r2 : List PI := [
  ⟨none, some 8, [0], .eff fun e => ret (e 0)⟩,
  ⟨none, some 9, [3], .eff fun e => ret (e 3)⟩,
  ⟨none, some 10, [8, 9], .eff fun e => effSlc 1 (e 8) (some (e 9)) none none⟩,
  ⟨none, some 11, [10], .call 50 ([.tmp 10])⟩,
  ⟨none, some 12, [0], .eff fun e => ret (e 0)⟩,
  ⟨none, some 13, [3], .eff fun e => ret (e 3)⟩,
  ⟨none, some 14, [12, 13], .eff fun e => effSlc 1 (e 12) none (some (e 13)) none⟩,
  ⟨none, some 15, [11, 14], .eff fun e => effApp 1 8 (e 11) (e 14)⟩,
  ⟨none, some 2, [15], .eff fun e => ret (e 15)⟩]
noncomputable def p61 : PCode := (.seq (.reg p61_r0 [0]) (.seq (.reg p61_r1 [0, 3]) (.seq (.draw p61_r2 [[], [], [0, 1], [2, 0, 1], [], [], [4, 5], [6, 3, 4, 5, 2, 0, 1], [7, 6, 3, 4, 5, 2, 0, 1]] [2]) .ret)))
theorem P61 : PFn Tryd.prog 61 ⟨p61, [.tmp 2], 16⟩ := .mk2 Tryd.f61 (Tryd.f61.body.getD .skip) [[0], [0, 3], [2]] Tryd.func61 (by kernel_rfl) (by kernel_rfl) (by kernel_rfl) (by kernel_rfl) (by decide)
noncomputable def p93_r0 : List PI := [
  ⟨none, some 2, [], .eff fun e => ret (.v (.int .i64 0))⟩]
noncomputable def p93_r1 : List PI := [
  ⟨none, some 5, [0], .eff fun e => ret (e 0)⟩,
  ⟨none, some 6, [5], .eff fun e => effLenSl (e 5)⟩,
  ⟨none, some 7, [6], .eff fun e => effIb .lss (e 6) (.v (.int .i64 1))⟩]
noncomputable def p93_r2 : List PI := [
  ⟨none, some 8, [], .eff fun e => effMkifc 9 (.v (Value.string (⟨#[115, 108, 105, 99, 101, 115, 46, 77, 105, 110, 58, 32, 101, 109, 112, 116, 121, 32, 108, 105, 115, 116]⟩ : ByteArray)))⟩,
  ⟨none, none, [], .eff fun e => none⟩]
noncomputable def p93_r3 : List PI := [
  ⟨none, some 9, [0], .eff fun e => ret (e 0)⟩,
  ⟨none, some 10, [9], .eff fun e => effIdx 1 (e 9) (.v (.int .i64 0))⟩,
  ⟨none, some 11, [10], .eff fun e => effLoad1 (e 10)⟩,
  ⟨none, some 3, [11], .eff fun e => ret (e 11)⟩]
noncomputable def p93_r4 : List PI := [
  ⟨none, some 4, [], .eff fun e => ret (.v (.int .i64 1))⟩]
noncomputable def p93_r5 : List PI := [
  ⟨none, some 12, [4], .eff fun e => ret (e 4)⟩,
  ⟨none, some 13, [0], .eff fun e => ret (e 0)⟩,
  ⟨none, some 14, [13], .eff fun e => effLenSl (e 13)⟩,
  ⟨none, some 15, [12, 14], .eff fun e => effIb .lss (e 12) (e 14)⟩]
noncomputable def p93_r6 : List PI := [
  ⟨none, some 18, [3], .eff fun e => ret (e 3)⟩,
  ⟨none, some 19, [0], .eff fun e => ret (e 0)⟩,
  ⟨none, some 20, [4], .eff fun e => ret (e 4)⟩,
  ⟨none, some 21, [19, 20], .eff fun e => effIdx 1 (e 19) (e 20)⟩,
  ⟨none, some 22, [21], .eff fun e => effLoad1 (e 21)⟩,
  ⟨none, some 23, [18, 22], .eff fun e => effBig false [(e 18), (e 22)]⟩,
  ⟨none, some 3, [23], .eff fun e => ret (e 23)⟩]
noncomputable def p93_r7 : List PI := [
  ⟨none, some 16, [4], .eff fun e => ret (e 4)⟩,
  ⟨none, some 17, [16], .eff fun e => effIb .add (e 16) (.v (.int .i64 1))⟩,
  ⟨none, some 4, [17], .eff fun e => ret (e 17)⟩]
noncomputable def p93_l0 : PCode := (.seq (.seq (.reg p93_r5 [0, 3, 4, 15]) (.cond (.tmp 15) .skip (.exit 0))) (.seq (.block 1 (.reg p93_r6 [0, 3, 4])) (.reg p93_r7 [0, 3, 4])))
noncomputable def p93_r8 : List PI := [
  ⟨none, some 24, [3], .eff fun e => ret (e 3)⟩,
  ⟨none, some 2, [24], .eff fun e => ret (e 24)⟩]
noncomputable def p93 : PCode := (.seq (.reg p93_r0 [0]) (.seq (.seq (.reg p93_r1 [0, 7]) (.cond (.tmp 7) (.reg p93_r2 [0]) .skip)) (.seq (.reg p93_r3 [0, 3]) (.seq (.seq (.reg p93_r4 [0, 3, 4]) (.block 0 (.loop p93_l0))) (.seq (.reg p93_r8 [2]) .ret)))))
theorem P93 : PFn Tryd.prog 93 ⟨p93, [.tmp 2], 25⟩ := .mk2 Tryd.f93 (Tryd.f93.body.getD .skip) [[0], [0, 7], [0], [0, 3], [0, 3, 4], [0, 3, 4, 15], [0, 3, 4], [0, 3, 4], [2]] Tryd.func93 (by kernel_rfl) (by kernel_rfl) (by kernel_rfl) (by kernel_rfl) (by decide)
end Go.Sx.Ch
