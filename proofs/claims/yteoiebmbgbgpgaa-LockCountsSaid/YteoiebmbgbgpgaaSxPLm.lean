/- The codes of the functions, written by a program (Gen.lean), and that they are the functions'. No conditions. -/
import Derived.Test.YteoiebmbgbgpgaaSxJNtoNq
import Derived.KernelRfl
import Derived.Test.YteoiebmbgbgpgaaProg
set_option linter.unusedVariables false
set_option linter.unusedSimpArgs false
set_option maxRecDepth 100000
namespace Go.Sx.Lk
open Go Go.Sx Go.Proofs
noncomputable def p5_r0 : List PI := [
  ⟨none, some 4, [], .eff fun e => ret (.v (.bool false))⟩]
noncomputable def p5_r1 : List PI := [
  ⟨none, some 9, [0], .eff fun e => ret (e 0)⟩,
  ⟨none, some 10, [9], .eff fun e => effIb .eql (e 9) (.v (.int .i64 7))⟩,
  ⟨none, some 11, [10], .eff fun e => ret (e 10)⟩,
  ⟨some (11, true), some 12, [1], .eff fun e => ret (e 1)⟩,
  ⟨some (11, true), some 13, [12], .eff fun e => effIb .gtr (e 12) (.v (.int .i64 2))⟩,
  ⟨none, some 14, [11, 13], .eff fun e => effPick (e 11) (e 13) (.v (.bool false))⟩,
  ⟨none, some 15, [14], .eff fun e => ret (e 14)⟩,
  ⟨some (15, true), some 16, [1], .eff fun e => ret (e 1)⟩,
  ⟨some (15, true), some 17, [16], .eff fun e => effIb .lss (e 16) (.v (.int .i64 6))⟩,
  ⟨none, some 18, [15, 17], .eff fun e => effPick (e 15) (e 17) (.v (.bool false))⟩]
noncomputable def p5_r2 : List PI := [
  ⟨none, some 19, [], .call 15 ([])⟩,
  ⟨none, some 4, [19], .eff fun e => ret (e 19)⟩]
noncomputable def p5_r3 : List PI := [
  ⟨none, some 21, [0], .eff fun e => ret (e 0)⟩,
  ⟨none, some 22, [1], .eff fun e => ret (e 1)⟩,
  ⟨none, some 23, [21, 22], .call 33 ([.tmp 21, .tmp 22])⟩,
  ⟨none, some 20, [23], .eff fun e => ret (e 23)⟩,
  ⟨none, some 24, [20], .eff fun e => effExt 0 (e 20)⟩,
  ⟨none, some 25, [20], .eff fun e => effExt 1 (e 20)⟩,
  ⟨none, some 5, [24], .eff fun e => ret (e 24)⟩,
  ⟨none, some 6, [25], .eff fun e => ret (e 25)⟩]
noncomputable def p5_r4 : List PI := [
  ⟨none, some 27, [0], .eff fun e => ret (e 0)⟩,
  ⟨none, some 28, [1], .eff fun e => ret (e 1)⟩,
  ⟨none, some 29, [27, 28], .call 34 ([.tmp 27, .tmp 28])⟩,
  ⟨none, some 26, [29], .eff fun e => ret (e 29)⟩,
  ⟨none, some 30, [26], .eff fun e => effExt 0 (e 26)⟩,
  ⟨none, some 31, [26], .eff fun e => effExt 1 (e 26)⟩,
  ⟨none, some 7, [30], .eff fun e => ret (e 30)⟩,
  ⟨none, some 8, [31], .eff fun e => ret (e 31)⟩]
noncomputable def p5_r5 : List PI := [
  ⟨none, some 32, [5], .eff fun e => ret (e 5)⟩,
  ⟨none, some 33, [7], .eff fun e => ret (e 7)⟩,
  ⟨none, some 34, [32, 33], .eff fun e => effIb .eql (e 32) (e 33)⟩,
  ⟨none, some 35, [34], .eff fun e => ret (e 34)⟩,
  ⟨some (35, true), some 36, [6], .eff fun e => ret (e 6)⟩,
  ⟨some (35, true), some 37, [8], .eff fun e => ret (e 8)⟩,
  ⟨some (35, true), some 38, [36, 37], .eff fun e => effIb .eql (e 36) (e 37)⟩,
  ⟨none, some 39, [35, 38], .eff fun e => effPick (e 35) (e 38) (.v (.bool false))⟩,
  ⟨none, some 40, [39], .eff fun e => ret (e 39)⟩,
  ⟨some (40, true), some 41, [], .call 15 ([])⟩,
  ⟨none, some 42, [40, 41], .eff fun e => effPick (e 40) (e 41) (.v (.bool false))⟩,
  ⟨none, some 4, [42], .eff fun e => ret (e 42)⟩]
noncomputable def p5 : PCode := (.seq (.reg p5_r0 [0, 1]) (.seq (.seq (.reg p5_r1 [0, 1, 18]) (.cond (.tmp 18) (.seq (.reg p5_r2 [4]) .ret) .skip)) (.seq (.reg p5_r3 [0, 1, 5, 6]) (.seq (.reg p5_r4 [5, 6, 7, 8]) (.seq (.reg p5_r5 [4]) .ret)))))
theorem P5 : PFn Try.prog 5 ⟨p5, [.tmp 4], 43⟩ := .mk2 Try.f5 (Try.f5.body.getD .skip) [[0, 1], [0, 1, 18], [4], [0, 1, 5, 6], [5, 6, 7, 8], [4]] Try.func5 (by kernel_rfl) (by kernel_rfl) (by kernel_rfl) (by kernel_rfl) (by decide)
end Go.Sx.Lk
