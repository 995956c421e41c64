/- The codes of the functions, written by a program (Gen.lean), and that they are the functions'. No conditions. -/
import Derived.Test.YtfiebjbhiflfpaaDoorSxJNtoNq
import Derived.KernelRfl
import Derived.Test.YtfiebjbhiflfpaaDoorProg
set_option linter.unusedVariables false
set_option linter.unusedSimpArgs false
set_option maxRecDepth 100000
namespace Go.Sx.Ch
open Go Go.Sx Go.Proofs
noncomputable def p91_r0 : List PI := [
  ⟨none, some 4, [], .eff fun e => ret (.v (.int .i64 0))⟩]
noncomputable def p91_r1 : List PI := [
  ⟨none, some 6, [0], .eff fun e => ret (e 0)⟩,
  ⟨none, some 7, [6], .eff fun e => effLenSl (e 6)⟩,
  ⟨none, some 8, [], .eff fun e => ret (.v (.int .i64 0))⟩]
noncomputable def p91_r2 : List PI := [
  ⟨none, some 9, [8, 7], .eff fun e => effIb .lss (e 8) (e 7)⟩]
noncomputable def p91_r3 : List PI := [
  ⟨none, some 10, [8], .eff fun e => ret (e 8)⟩,
  ⟨none, some 5, [10], .eff fun e => ret (e 10)⟩]
noncomputable def p91_r4 : List PI := [
  ⟨none, some 11, [1], .eff fun e => ret (e 1)⟩,
  ⟨none, some 12, [0], .eff fun e => ret (e 0)⟩,
  ⟨none, some 13, [5], .eff fun e => ret (e 5)⟩,
  ⟨none, some 14, [12, 13], .eff fun e => effIdx 1 (e 12) (e 13)⟩,
  ⟨none, some 15, [14], .eff fun e => effLoad1 (e 14)⟩,
  ⟨none, some 16, [11, 15], .eff fun e => effIb .eql (e 11) (e 15)⟩]
noncomputable def p91_r5 : List PI := [
  ⟨none, some 17, [5], .eff fun e => ret (e 5)⟩,
  ⟨none, some 4, [17], .eff fun e => ret (e 17)⟩]
noncomputable def p91_r6 : List PI := [
  ⟨none, some 18, [8], .eff fun e => effIb .add (e 8) (.v (.int .i64 1))⟩,
  ⟨none, some 8, [18], .eff fun e => ret (e 18)⟩]
noncomputable def p91_l0 : PCode := (.seq (.reg p91_r2 [0, 1, 7, 8, 9]) (.seq (.cond (.tmp 9) .skip (.exit 0)) (.seq (.block 1 (.seq (.reg p91_r3 [0, 1, 5, 7, 8]) (.seq (.reg p91_r4 [0, 1, 5, 7, 8, 16]) (.cond (.tmp 16) (.seq (.reg p91_r5 [4]) .ret) .skip)))) (.reg p91_r6 [0, 1, 7, 8]))))
noncomputable def p91_r7 : List PI := [
  ⟨none, some 4, [], .eff fun e => ret (.v (.int .i64 (-1)))⟩]
noncomputable def p91 : PCode := (.seq (.reg p91_r0 [0, 1]) (.seq (.seq (.reg p91_r1 [0, 1, 7, 8]) (.block 0 (.loop p91_l0))) (.seq (.reg p91_r7 [4]) .ret)))
theorem P91 : PFn Tryd.prog 91 ⟨p91, [.tmp 4], 19⟩ := .mk2 Tryd.f91 (Tryd.f91.body.getD .skip) [[0, 1], [0, 1, 7, 8], [0, 1, 7, 8, 9], [0, 1, 5, 7, 8], [0, 1, 5, 7, 8, 16], [4], [0, 1, 7, 8], [4]] Tryd.func91 (by kernel_rfl) (by kernel_rfl) (by kernel_rfl) (by kernel_rfl) (by decide)
end Go.Sx.Ch
