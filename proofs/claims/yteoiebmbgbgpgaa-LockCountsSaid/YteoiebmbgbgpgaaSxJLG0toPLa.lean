/- What the rows of the walk layer share: arguments that are lists of numbers. No conditions. -/
import Derived.Test.YteoiebmbgbgpgaaRows
import Derived.WalkKit
import Derived.ProofKit
import Derived.OpenShut
import Derived.ShutString
import Derived.ChangeOld
import Derived.ChangeSlices
import Derived.Below
import Derived.Test.YteoiebmbgbgpgaaSxR
import Derived.Test.YteoiebmbgbgpgaaSxJNtoNq
import Derived.KernelRfl
import Derived.Test.YteoiebmbgbgpgaaProg
set_option linter.unusedVariables false
set_option linter.unusedSimpArgs false
section
namespace Go.Proofs.Yteoiebmbgbgpgaa.lrow
open Go.ChangeShapes Go.WideShapes Go.ChangeAt Go.RowKit
set_option maxRecDepth 100000
theorem own : ownKnob Try.prog.godebug = none := by kernel_rfl
theorem laidOut : laidOutB Try.prog = true := by kernel_rfl
end Go.Proofs.Yteoiebmbgbgpgaa.lrow
end
section
namespace Go.Proofs.Yteoiebmbgbgpgaa.lrow
open Go.ChangeShapes Go.WideShapes Go.ChangeAt Go.RowKit
set_option maxRecDepth 100000
theorem argI {W : World} {v : Value} {base : Nat} (hv : Value.okWide Try.prog W .any base 3 v) : ∃ n, v = .int .i64 n ∧ (Lit.int .i64 n).wf = true := by
  simp only [Value.okWide, Try.underlying3, Cell.okWide] at hv
  cases v <;> simp_all [Cell.ok, IntKind.has, Lit.wf, Try.underlying3]
end Go.Proofs.Yteoiebmbgbgpgaa.lrow
end
section
set_option maxRecDepth 100000
namespace Go.Sx.Lk
open Go Go.Sx Go.Proofs
noncomputable def p15 : PCode := pcOf Try.prog Try.f15 (Try.f15.body.getD .skip) [[], [1, 2], [1, 2, 3, 4], [1, 2, 3, 4, 5, 6], [1, 2, 3, 4, 5, 6, 7, 8], [1, 2, 3, 4, 5, 6, 7, 8, 9, 10], [1, 2, 3, 4, 5, 6, 7, 8, 9, 10, 11, 12, 13, 14], [1, 2, 3, 4, 5, 6, 7, 8, 9, 10, 11, 12, 13, 14, 15, 16], [1, 3, 5, 7, 9, 11, 12, 13, 15, 84], [0], [1, 2, 3, 5, 7, 9, 11, 12, 13, 15, 17], [1, 2, 3, 4, 5, 7, 9, 11, 12, 13, 15, 17, 18], [1, 2, 3, 4, 5, 6, 7, 9, 11, 12, 13, 15, 17, 18, 19], [1, 2, 3, 4, 5, 6, 7, 8, 9, 11, 12, 13, 15, 17, 18, 19, 20], [1, 2, 3, 4, 5, 6, 7, 8, 9, 10, 11, 12, 13, 15, 17, 18, 19, 20], [1, 2, 3, 4, 5, 6, 7, 8, 9, 10, 11, 12, 13, 14, 15, 17, 18, 19, 20], [1, 2, 3, 4, 5, 6, 7, 8, 9, 10, 11, 12, 13, 14, 15, 16, 17, 18, 19, 20], [0]]
theorem P15 : PFn Try.prog 15 ⟨p15, [.tmp 0], 215⟩ := .mk3 Try.f15 (Try.f15.body.getD .skip) [[], [1, 2], [1, 2, 3, 4], [1, 2, 3, 4, 5, 6], [1, 2, 3, 4, 5, 6, 7, 8], [1, 2, 3, 4, 5, 6, 7, 8, 9, 10], [1, 2, 3, 4, 5, 6, 7, 8, 9, 10, 11, 12, 13, 14], [1, 2, 3, 4, 5, 6, 7, 8, 9, 10, 11, 12, 13, 14, 15, 16], [1, 3, 5, 7, 9, 11, 12, 13, 15, 84], [0], [1, 2, 3, 5, 7, 9, 11, 12, 13, 15, 17], [1, 2, 3, 4, 5, 7, 9, 11, 12, 13, 15, 17, 18], [1, 2, 3, 4, 5, 6, 7, 9, 11, 12, 13, 15, 17, 18, 19], [1, 2, 3, 4, 5, 6, 7, 8, 9, 11, 12, 13, 15, 17, 18, 19, 20], [1, 2, 3, 4, 5, 6, 7, 8, 9, 10, 11, 12, 13, 15, 17, 18, 19, 20], [1, 2, 3, 4, 5, 6, 7, 8, 9, 10, 11, 12, 13, 14, 15, 17, 18, 19, 20], [1, 2, 3, 4, 5, 6, 7, 8, 9, 10, 11, 12, 13, 14, 15, 16, 17, 18, 19, 20], [0]] Try.func15 (by kernel_rfl) (by kernel_rfl) (by kernel_rfl) (by kernel_rfl) (by decide)
noncomputable def p16 : PCode := pcOf Try.prog Try.f16 (Try.f16.body.getD .skip) [[0], [0, 4], [0, 4, 8], [2, 3], [2, 3]]
theorem P16 : PFn Try.prog 16 ⟨p16, [.tmp 2, .tmp 3], 12⟩ := .mk3 Try.f16 (Try.f16.body.getD .skip) [[0], [0, 4], [0, 4, 8], [2, 3], [2, 3]] Try.func16 (by kernel_rfl) (by kernel_rfl) (by kernel_rfl) (by kernel_rfl) (by decide)
noncomputable def p18 : PCode := pcOf Try.prog Try.f18 (Try.f18.body.getD .skip) [[0], [0, 4], [0, 4, 9], [2, 3], [0, 5], [5], [2, 3]]
theorem P18 : PFn Try.prog 18 ⟨p18, [.tmp 2, .tmp 3], 15⟩ := .mk3 Try.f18 (Try.f18.body.getD .skip) [[0], [0, 4], [0, 4, 9], [2, 3], [0, 5], [5], [2, 3]] Try.func18 (by kernel_rfl) (by kernel_rfl) (by kernel_rfl) (by kernel_rfl) (by decide)
noncomputable def p20 : PCode := pcOf Try.prog Try.f20 (Try.f20.body.getD .skip) [[0, 1], [0, 1, 6], [0, 1, 6, 16], [4, 5], [0, 1, 7], [0, 1, 7, 8], [0, 1, 7, 8, 9], [0, 1, 7, 8, 9, 20, 21], [0, 1, 7, 8, 9, 20, 21, 22], [0, 1, 7, 8, 9, 10, 20, 21], [0, 1, 7, 8, 9, 20, 21, 26], [0, 1, 7, 8, 9, 20, 21, 26, 27], [0, 1, 7, 8, 9, 20, 21, 31], [4, 5], [0, 1, 7, 8, 9, 20, 21], [0, 1, 7, 8, 9, 20, 21], [0, 1, 7, 8, 9, 20, 21, 38], [0, 1, 7, 8, 9, 11, 12, 20, 21], [0, 1, 7, 8, 9, 11, 20, 21, 45], [4, 5], [0, 1, 7, 8, 9, 11, 20, 21], [0, 1, 7, 8, 9, 20, 21], [4, 5], [0, 1, 7, 8, 9, 20, 21], [8, 56], [4, 5], [4, 5]]
theorem P20 : PFn Try.prog 20 ⟨p20, [.tmp 4, .tmp 5], 58⟩ := .mk3 Try.f20 (Try.f20.body.getD .skip) [[0, 1], [0, 1, 6], [0, 1, 6, 16], [4, 5], [0, 1, 7], [0, 1, 7, 8], [0, 1, 7, 8, 9], [0, 1, 7, 8, 9, 20, 21], [0, 1, 7, 8, 9, 20, 21, 22], [0, 1, 7, 8, 9, 10, 20, 21], [0, 1, 7, 8, 9, 20, 21, 26], [0, 1, 7, 8, 9, 20, 21, 26, 27], [0, 1, 7, 8, 9, 20, 21, 31], [4, 5], [0, 1, 7, 8, 9, 20, 21], [0, 1, 7, 8, 9, 20, 21], [0, 1, 7, 8, 9, 20, 21, 38], [0, 1, 7, 8, 9, 11, 12, 20, 21], [0, 1, 7, 8, 9, 11, 20, 21, 45], [4, 5], [0, 1, 7, 8, 9, 11, 20, 21], [0, 1, 7, 8, 9, 20, 21], [4, 5], [0, 1, 7, 8, 9, 20, 21], [8, 56], [4, 5], [4, 5]] Try.func20 (by kernel_rfl) (by kernel_rfl) (by kernel_rfl) (by kernel_rfl) (by decide)
noncomputable def p22 : PCode := pcOf Try.prog Try.f22 (Try.f22.body.getD .skip) [[0, 1], [0, 1, 10], [4], [0, 1, 5], [0, 1, 5, 14], [0, 1, 5, 25], [4], [0, 1, 5], [4]]
theorem P22 : PFn Try.prog 22 ⟨p22, [.tmp 4], 26⟩ := .mk3 Try.f22 (Try.f22.body.getD .skip) [[0, 1], [0, 1, 10], [4], [0, 1, 5], [0, 1, 5, 14], [0, 1, 5, 25], [4], [0, 1, 5], [4]] Try.func22 (by kernel_rfl) (by kernel_rfl) (by kernel_rfl) (by kernel_rfl) (by decide)
noncomputable def p23 : PCode := pcOf Try.prog Try.f23 (Try.f23.body.getD .skip) [[0], [0, 13], [2], [0, 3], [0, 3, 14, 15, 16], [0, 3, 14, 15, 16, 17], [0, 3, 5, 14, 15, 16], [0, 3, 5, 14, 15, 16, 20], [2], [0, 3, 5, 14, 15, 16, 26], [2], [0, 3, 14, 15, 16], [0, 3, 14, 15, 16], [2]]
theorem P23 : PFn Try.prog 23 ⟨p23, [.tmp 2], 33⟩ := .mk3 Try.f23 (Try.f23.body.getD .skip) [[0], [0, 13], [2], [0, 3], [0, 3, 14, 15, 16], [0, 3, 14, 15, 16, 17], [0, 3, 5, 14, 15, 16], [0, 3, 5, 14, 15, 16, 20], [2], [0, 3, 5, 14, 15, 16, 26], [2], [0, 3, 14, 15, 16], [0, 3, 14, 15, 16], [2]] Try.func23 (by kernel_rfl) (by kernel_rfl) (by kernel_rfl) (by kernel_rfl) (by decide)
noncomputable def p25 : PCode := pcOf Try.prog Try.f25 (Try.f25.body.getD .skip) [[0], [4, 5], [2, 3]]
theorem P25 : PFn Try.prog 25 ⟨p25, [.tmp 2, .tmp 3], 18⟩ := .mk3 Try.f25 (Try.f25.body.getD .skip) [[0], [4, 5], [2, 3]] Try.func25 (by kernel_rfl) (by kernel_rfl) (by kernel_rfl) (by kernel_rfl) (by decide)
noncomputable def p27 : PCode := pcOf Try.prog Try.f27 (Try.f27.body.getD .skip) [[0], [0, 6], [0, 6, 14], [2, 3, 4, 5], [0, 16, 17, 18], [0, 16, 17, 18, 19], [0, 7, 8, 16, 17, 18], [0, 7, 8, 9, 16, 17, 18], [0, 7, 8, 9, 16, 17, 18, 28], [0, 7, 8, 9, 16, 17, 18, 36], [0, 7, 8, 9, 10, 16, 17, 18], [0, 7, 8, 9, 10, 16, 17, 18, 43], [2, 3, 4, 5], [0, 7, 8, 9, 16, 17, 18], [0, 16, 17, 18], [2, 3, 4, 5]]
theorem P27 : PFn Try.prog 27 ⟨p27, [.tmp 2, .tmp 3, .tmp 4, .tmp 5], 50⟩ := .mk3 Try.f27 (Try.f27.body.getD .skip) [[0], [0, 6], [0, 6, 14], [2, 3, 4, 5], [0, 16, 17, 18], [0, 16, 17, 18, 19], [0, 7, 8, 16, 17, 18], [0, 7, 8, 9, 16, 17, 18], [0, 7, 8, 9, 16, 17, 18, 28], [0, 7, 8, 9, 16, 17, 18, 36], [0, 7, 8, 9, 10, 16, 17, 18], [0, 7, 8, 9, 10, 16, 17, 18, 43], [2, 3, 4, 5], [0, 7, 8, 9, 16, 17, 18], [0, 16, 17, 18], [2, 3, 4, 5]] Try.func27 (by kernel_rfl) (by kernel_rfl) (by kernel_rfl) (by kernel_rfl) (by decide)
noncomputable def p29 : PCode := pcOf Try.prog Try.f29 (Try.f29.body.getD .skip) [[0], [0, 4], [0, 4, 8], [2, 3], [2, 3]]
theorem P29 : PFn Try.prog 29 ⟨p29, [.tmp 2, .tmp 3], 12⟩ := .mk3 Try.f29 (Try.f29.body.getD .skip) [[0], [0, 4], [0, 4, 8], [2, 3], [2, 3]] Try.func29 (by kernel_rfl) (by kernel_rfl) (by kernel_rfl) (by kernel_rfl) (by decide)
noncomputable def p31 : PCode := pcOf Try.prog Try.f31 (Try.f31.body.getD .skip) [[0, 1, 2, 3], [0, 1, 2, 3, 9], [0, 1, 2, 3, 9, 10], [0, 1, 2, 3, 9, 10, 15], [8], [0, 1, 2, 3, 19], [8], [0, 1, 2, 3, 36], [8], [45], [8], [8]]
theorem P31 : PFn Try.prog 31 ⟨p31, [.tmp 8], 66⟩ := .mk3 Try.f31 (Try.f31.body.getD .skip) [[0, 1, 2, 3], [0, 1, 2, 3, 9], [0, 1, 2, 3, 9, 10], [0, 1, 2, 3, 9, 10, 15], [8], [0, 1, 2, 3, 19], [8], [0, 1, 2, 3, 36], [8], [45], [8], [8]] Try.func31 (by kernel_rfl) (by kernel_rfl) (by kernel_rfl) (by kernel_rfl) (by decide)
noncomputable def p33_r0 : List PI := [
  ⟨none, some 2, [0], .eff fun e => effBox (e 0)⟩,
  ⟨none, some 3, [1], .eff fun e => effBox (e 1)⟩,
  ⟨none, some 4, [], .eff fun e => ret (.v (.int .i64 0))⟩,
  ⟨none, some 5, [], .eff fun e => ret (.v (.int .i64 0))⟩]
noncomputable def p33_r1 : List PI := [
  ⟨none, some 9, [2], .eff fun e => effLoad1 (e 2)⟩,
  ⟨none, some 10, [9], .eff fun e => effIb .lss (e 9) (.v (.int .i64 1))⟩,
  ⟨none, some 11, [10], .eff fun e => ret (e 10)⟩,
  ⟨some (11, false), some 12, [2], .eff fun e => effLoad1 (e 2)⟩,
  ⟨some (11, false), some 13, [12], .eff fun e => effIb .gtr (e 12) (.v (.int .i64 7))⟩,
  ⟨none, some 14, [11, 13], .eff fun e => effPick (e 11) (.v (.bool true)) (e 13)⟩,
  ⟨none, some 15, [14], .eff fun e => ret (e 14)⟩,
  ⟨some (15, false), some 16, [3], .eff fun e => effLoad1 (e 3)⟩,
  ⟨some (15, false), some 17, [16], .eff fun e => effIb .lss (e 16) (.v (.int .i64 0))⟩,
  ⟨none, some 18, [15, 17], .eff fun e => effPick (e 15) (.v (.bool true)) (e 17)⟩]
noncomputable def p33_r2 : List PI := [
  ⟨none, some 4, [], .eff fun e => ret (.v (.int .i64 0))⟩,
  ⟨none, some 5, [], .eff fun e => ret (.v (.int .i64 1))⟩]
noncomputable def p33_r3 : List PI := [
  ⟨none, some 6, [], .eff fun e => effAlloc ([.int .i64 0])⟩,
  ⟨none, none, [6], .eff fun e => effStore 1 (e 6) (.v (.int .i64 0))⟩]
noncomputable def p33_r4 : List PI := [
  ⟨none, some 19, [2], .eff fun e => effLoad1 (e 2)⟩,
  ⟨none, some 20, [19, 19], .eff fun e => effMk 8 (.int .i64 0) (e 19) (e 19)⟩,
  ⟨none, some 7, [], .eff fun e => effAlloc ([.slice none 0 0])⟩,
  ⟨none, none, [7, 20], .eff fun e => effStore 1 (e 7) (e 20)⟩]
noncomputable def p33_r5 : List PI := [
  ⟨none, some 8, [], .eff fun e => effAlloc ([Value.nilFunc])⟩]
noncomputable def p33_r6 : List PI := [
  ⟨none, some 21, [2, 7, 3, 6, 8], .eff fun e => effMkfn (Fn.func 79) [] [(e 2), (e 7), (e 3), (e 6), (e 8)]⟩,
  ⟨none, none, [8, 21], .eff fun e => effStore 1 (e 8) (e 21)⟩]
noncomputable def p33_r7 : List PI := [
  ⟨none, some 22, [8], .eff fun e => effLoad1 (e 8)⟩,
  ⟨none, some 23, [22], .callv (.tmp 22) ([.const (.int .i64 0), .const (.int .u64 0)])⟩]
noncomputable def p33_r8 : List PI := [
  ⟨none, some 24, [6], .eff fun e => effLoad1 (e 6)⟩,
  ⟨none, some 4, [24], .eff fun e => ret (e 24)⟩,
  ⟨none, some 5, [], .eff fun e => ret (.v (.int .i64 0))⟩]
noncomputable def p33 : PCode := (.seq (.reg p33_r0 [2, 3]) (.seq (.seq (.reg p33_r1 [2, 3, 18]) (.cond (.tmp 18) (.seq (.reg p33_r2 [4, 5]) .ret) .skip)) (.seq (.reg p33_r3 [2, 3, 6]) (.seq (.reg p33_r4 [2, 3, 6, 7]) (.seq (.reg p33_r5 [2, 3, 6, 7, 8]) (.seq (.reg p33_r6 [6, 8]) (.seq (.reg p33_r7 [6]) (.seq (.reg p33_r8 [4, 5]) .ret))))))))
theorem P33 : PFn Try.prog 33 ⟨p33, [.tmp 4, .tmp 5], 25⟩ := .mk2 Try.f33 (Try.f33.body.getD .skip) [[2, 3], [2, 3, 18], [4, 5], [2, 3, 6], [2, 3, 6, 7], [2, 3, 6, 7, 8], [6, 8], [6], [4, 5]] Try.func33 (by kernel_rfl) (by kernel_rfl) (by kernel_rfl) (by kernel_rfl) (by decide)
noncomputable def p35 : PCode := pcOf Try.prog Try.f35 (Try.f35.body.getD .skip) [[0], [0, 4], [0, 4, 15], [2, 3], [0, 5], [0, 5, 6], [0, 5, 6, 7], [5, 6, 7, 17, 18, 19], [5, 6, 7, 17, 18, 19, 20], [5, 6, 7, 9, 17, 18, 19], [5, 6, 7, 9, 17, 18, 19, 25], [5, 6, 7, 9, 17, 18, 19], [5, 6, 7, 9, 17, 18, 19], [5, 6, 7, 9, 17, 18, 19], [5, 6, 7, 9, 10, 11, 17, 18, 19], [5, 6, 7, 17, 18, 19, 41], [2, 3], [5, 6, 7, 17, 18, 19], [5, 6, 7, 17, 18, 19], [5, 6, 7, 17, 18, 19], [2, 3]]
theorem P35 : PFn Try.prog 35 ⟨p35, [.tmp 2, .tmp 3], 46⟩ := .mk3 Try.f35 (Try.f35.body.getD .skip) [[0], [0, 4], [0, 4, 15], [2, 3], [0, 5], [0, 5, 6], [0, 5, 6, 7], [5, 6, 7, 17, 18, 19], [5, 6, 7, 17, 18, 19, 20], [5, 6, 7, 9, 17, 18, 19], [5, 6, 7, 9, 17, 18, 19, 25], [5, 6, 7, 9, 17, 18, 19], [5, 6, 7, 9, 17, 18, 19], [5, 6, 7, 9, 17, 18, 19], [5, 6, 7, 9, 10, 11, 17, 18, 19], [5, 6, 7, 17, 18, 19, 41], [2, 3], [5, 6, 7, 17, 18, 19], [5, 6, 7, 17, 18, 19], [5, 6, 7, 17, 18, 19], [2, 3]] Try.func35 (by kernel_rfl) (by kernel_rfl) (by kernel_rfl) (by kernel_rfl) (by decide)
noncomputable def p37 : PCode := pcOf Try.prog Try.f37 (Try.f37.body.getD .skip) [[0], [0, 4], [0, 4, 12], [2, 3], [0, 5], [0, 5, 15, 16, 17], [0, 5, 15, 16, 17, 18], [0, 5, 6, 7, 15, 16, 17], [0, 5, 6, 7, 8, 15, 16, 17], [0, 5, 6, 7, 8, 15, 16, 17, 27], [0, 5, 6, 7, 8, 15, 16, 17, 34], [0, 5, 6, 7, 8, 15, 16, 17], [0, 5, 6, 7, 8, 15, 16, 17], [0, 5, 15, 16, 17], [2, 3]]
theorem P37 : PFn Try.prog 37 ⟨p37, [.tmp 2, .tmp 3], 43⟩ := .mk3 Try.f37 (Try.f37.body.getD .skip) [[0], [0, 4], [0, 4, 12], [2, 3], [0, 5], [0, 5, 15, 16, 17], [0, 5, 15, 16, 17, 18], [0, 5, 6, 7, 15, 16, 17], [0, 5, 6, 7, 8, 15, 16, 17], [0, 5, 6, 7, 8, 15, 16, 17, 27], [0, 5, 6, 7, 8, 15, 16, 17, 34], [0, 5, 6, 7, 8, 15, 16, 17], [0, 5, 6, 7, 8, 15, 16, 17], [0, 5, 15, 16, 17], [2, 3]] Try.func37 (by kernel_rfl) (by kernel_rfl) (by kernel_rfl) (by kernel_rfl) (by decide)
noncomputable def p39 : PCode := pcOf Try.prog Try.f39 (Try.f39.body.getD .skip) [[0], [0, 4], [0, 4, 15], [2, 3], [0, 5], [0, 5, 6], [0, 5, 6, 7], [0, 5, 6, 7, 8], [0, 6, 7, 8], [0, 6, 7, 8, 9], [6, 7, 8, 9, 24, 25, 26], [6, 7, 8, 9, 24, 25, 26, 27], [6, 7, 8, 9, 11, 24, 25, 26], [6, 7, 8, 9, 11, 24, 25, 26, 34], [6, 7, 8, 9, 11, 24, 25, 26], [6, 7, 8, 9, 24, 25, 26], [6, 7, 8, 9, 24, 25, 26], [9, 47], [2, 3], [2, 3]]
theorem P39 : PFn Try.prog 39 ⟨p39, [.tmp 2, .tmp 3], 49⟩ := .mk3 Try.f39 (Try.f39.body.getD .skip) [[0], [0, 4], [0, 4, 15], [2, 3], [0, 5], [0, 5, 6], [0, 5, 6, 7], [0, 5, 6, 7, 8], [0, 6, 7, 8], [0, 6, 7, 8, 9], [6, 7, 8, 9, 24, 25, 26], [6, 7, 8, 9, 24, 25, 26, 27], [6, 7, 8, 9, 11, 24, 25, 26], [6, 7, 8, 9, 11, 24, 25, 26, 34], [6, 7, 8, 9, 11, 24, 25, 26], [6, 7, 8, 9, 24, 25, 26], [6, 7, 8, 9, 24, 25, 26], [9, 47], [2, 3], [2, 3]] Try.func39 (by kernel_rfl) (by kernel_rfl) (by kernel_rfl) (by kernel_rfl) (by decide)
noncomputable def p41 : PCode := pcOf Try.prog Try.f41 (Try.f41.body.getD .skip) [[0, 1], [0, 1, 10], [4], [0, 1, 5], [0, 1, 5, 14], [0, 1, 5, 25], [4], [0, 1, 5], [4]]
theorem P41 : PFn Try.prog 41 ⟨p41, [.tmp 4], 26⟩ := .mk3 Try.f41 (Try.f41.body.getD .skip) [[0, 1], [0, 1, 10], [4], [0, 1, 5], [0, 1, 5, 14], [0, 1, 5, 25], [4], [0, 1, 5], [4]] Try.func41 (by kernel_rfl) (by kernel_rfl) (by kernel_rfl) (by kernel_rfl) (by decide)
noncomputable def p42 : PCode := pcOf Try.prog Try.f42 (Try.f42.body.getD .skip) [[], [0]]
theorem P42 : PFn Try.prog 42 ⟨p42, [.tmp 0], 3⟩ := .mk3 Try.f42 (Try.f42.body.getD .skip) [[], [0]] Try.func42 (by kernel_rfl) (by kernel_rfl) (by kernel_rfl) (by kernel_rfl) (by decide)
noncomputable def p43 : PCode := pcOf Try.prog Try.f43 (Try.f43.body.getD .skip) [[], [0]]
theorem P43 : PFn Try.prog 43 ⟨p43, [.tmp 0], 3⟩ := .mk3 Try.f43 (Try.f43.body.getD .skip) [[], [0]] Try.func43 (by kernel_rfl) (by kernel_rfl) (by kernel_rfl) (by kernel_rfl) (by decide)
noncomputable def p44 : PCode := pcOf Try.prog Try.f44 (Try.f44.body.getD .skip) [[0], [2]]
theorem P44 : PFn Try.prog 44 ⟨p44, [.tmp 2], 4⟩ := .mk3 Try.f44 (Try.f44.body.getD .skip) [[0], [2]] Try.func44 (by kernel_rfl) (by kernel_rfl) (by kernel_rfl) (by kernel_rfl) (by decide)
noncomputable def p52_r0 : List PI := [
  ⟨none, some 2, [], .eff fun e => ret (.v (.bool false))⟩]
noncomputable def p52_r1 : List PI := [
  ⟨none, some 4, [0], .eff fun e => ret (e 0)⟩,
  ⟨none, some 5, [4], .eff fun e => effLenSl (e 4)⟩,
  ⟨none, some 6, [5], .eff fun e => effIb .sub (e 5) (.v (.int .i64 1))⟩,
  ⟨none, some 3, [6], .eff fun e => ret (e 6)⟩]
noncomputable def p52_r2 : List PI := [
  ⟨none, some 7, [3], .eff fun e => ret (e 3)⟩,
  ⟨none, some 8, [7], .eff fun e => effIb .gtr (e 7) (.v (.int .i64 0))⟩]
noncomputable def p52_r3 : List PI := [
  ⟨none, some 11, [0], .eff fun e => ret (e 0)⟩,
  ⟨none, some 12, [3], .eff fun e => ret (e 3)⟩,
  ⟨none, some 13, [11, 12], .eff fun e => effIdx 1 (e 11) (e 12)⟩,
  ⟨none, some 14, [13], .eff fun e => effLoad1 (e 13)⟩,
  ⟨none, some 15, [0], .eff fun e => ret (e 0)⟩,
  ⟨none, some 16, [3], .eff fun e => ret (e 3)⟩,
  ⟨none, some 17, [16], .eff fun e => effIb .sub (e 16) (.v (.int .i64 1))⟩,
  ⟨none, some 18, [15, 17], .eff fun e => effIdx 1 (e 15) (e 17)⟩,
  ⟨none, some 19, [18], .eff fun e => effLoad1 (e 18)⟩,
  ⟨none, some 20, [14, 19], .call 91 ([.tmp 14, .tmp 19])⟩]
noncomputable def p52_r4 : List PI := [
  ⟨none, some 2, [], .eff fun e => ret (.v (.bool false))⟩]
noncomputable def p52_r5 : List PI := [
  ⟨none, some 9, [3], .eff fun e => ret (e 3)⟩,
  ⟨none, some 10, [9], .eff fun e => effIb .sub (e 9) (.v (.int .i64 1))⟩,
  ⟨none, some 3, [10], .eff fun e => ret (e 10)⟩]
noncomputable def p52_l0 : PCode := (.seq (.seq (.reg p52_r2 [0, 3, 8]) (.cond (.tmp 8) .skip (.exit 0))) (.seq (.block 1 (.seq (.draw p52_r3 [[], [], [0, 1], [2, 0, 1], [], [], [5], [4, 6, 5], [7, 4, 6, 5], [3, 8, 2, 0, 1, 7, 4, 6, 5]] [0, 3, 20]) (.cond (.tmp 20) (.seq (.reg p52_r4 [2]) .ret) .skip))) (.reg p52_r5 [0, 3])))
noncomputable def p52_r6 : List PI := [
  ⟨none, some 2, [], .eff fun e => ret (.v (.bool true))⟩]
noncomputable def p52 : PCode := (.seq (.reg p52_r0 [0]) (.seq (.seq (.reg p52_r1 [0, 3]) (.block 0 (.loop p52_l0))) (.seq (.reg p52_r6 [2]) .ret)))
theorem P52 : PFn Try.prog 52 ⟨p52, [.tmp 2], 21⟩ := .mk2 Try.f52 (Try.f52.body.getD .skip) [[0], [0, 3], [0, 3, 8], [0, 3, 20], [2], [0, 3], [2]] Try.func52 (by kernel_rfl) (by kernel_rfl) (by kernel_rfl) (by kernel_rfl) (by decide)
noncomputable def p57 : PCode := pcOf Try.prog Try.f57 (Try.f57.body.getD .skip) [[0], [0, 7], [0], [0, 3], [0, 3, 4], [0, 3, 4, 15], [0, 3, 4], [0, 3, 4], [2]]
theorem P57 : PFn Try.prog 57 ⟨p57, [.tmp 2], 25⟩ := .mk3 Try.f57 (Try.f57.body.getD .skip) [[0], [0, 7], [0], [0, 3], [0, 3, 4], [0, 3, 4, 15], [0, 3, 4], [0, 3, 4], [2]] Try.func57 (by kernel_rfl) (by kernel_rfl) (by kernel_rfl) (by kernel_rfl) (by decide)
noncomputable def p61_r0 : List PI := [
  ⟨none, some 2, [], .eff fun e => ret (.v (.slice none 0 0))⟩]
noncomputable def p61_r1 : List PI := [
  ⟨none, some 3, [], .eff fun e => effAlloc ([.slice none 0 0])⟩]
noncomputable def p61_r2 : List PI := [
  ⟨none, some 4, [0], .eff fun e => ret (e 0)⟩,
  ⟨none, some 5, [3], .eff fun e => effMkfn (Fn.func 96) [] [(e 3)]⟩,
  ⟨none, some 6, [4, 5], .call 63 ([.tmp 4, .tmp 5])⟩]
noncomputable def p61_r3 : List PI := [
  ⟨none, some 7, [3], .eff fun e => effLoad1 (e 3)⟩,
  ⟨none, some 2, [7], .eff fun e => ret (e 7)⟩]
noncomputable def p61 : PCode := (.seq (.reg p61_r0 [0]) (.seq (.reg p61_r1 [0, 3]) (.seq (.reg p61_r2 [3]) (.seq (.reg p61_r3 [2]) .ret))))
theorem P61 : PFn Try.prog 61 ⟨p61, [.tmp 2], 8⟩ := .mk2 Try.f61 (Try.f61.body.getD .skip) [[0], [0, 3], [3], [2]] Try.func61 (by kernel_rfl) (by kernel_rfl) (by kernel_rfl) (by kernel_rfl) (by decide)
noncomputable def p63_r0 : List PI := [
  ⟨none, some 3, [1], .eff fun e => effBox (e 1)⟩]
noncomputable def p63_r1 : List PI := [
  ⟨none, some 4, [], .eff fun e => effAlloc ([.slice none 0 0])⟩]
noncomputable def p63_r2 : List PI := [
  ⟨none, some 8, [4, 3], .eff fun e => effMkfn (Fn.func 97) [] [(e 4), (e 3)]⟩,
  ⟨none, some 5, [8], .eff fun e => ret (e 8)⟩]
noncomputable def p63_r3 : List PI := [
  ⟨none, some 9, [0], .eff fun e => ret (e 0)⟩,
  ⟨none, some 10, [9], .eff fun e => effLenSl (e 9)⟩,
  ⟨none, some 11, [], .eff fun e => ret (.v (.int .i64 0))⟩]
noncomputable def p63_r4 : List PI := [
  ⟨none, some 12, [11, 10], .eff fun e => effIb .lss (e 11) (e 10)⟩]
noncomputable def p63_r5 : List PI := [
  ⟨none, some 13, [9, 11], .eff fun e => effIdx 1 (e 9) (e 11)⟩,
  ⟨none, some 14, [13], .eff fun e => effLoad1 (e 13)⟩,
  ⟨none, some 7, [14], .eff fun e => ret (e 14)⟩]
noncomputable def p63_r6 : List PI := [
  ⟨none, some 15, [5], .eff fun e => ret (e 5)⟩,
  ⟨none, some 16, [7], .eff fun e => ret (e 7)⟩,
  ⟨none, some 17, [15, 16], .callv (.tmp 15) ([.tmp 16])⟩]
noncomputable def p63_r7 : List PI := [
  ⟨none, some 18, [7], .eff fun e => ret (e 7)⟩,
  ⟨none, some 19, [4, 18], .call 67 ([.tmp 4, .tmp 18])⟩]
noncomputable def p63_r8 : List PI := [
  ⟨none, some 20, [3], .eff fun e => effLoad1 (e 3)⟩,
  ⟨none, some 21, [7], .eff fun e => ret (e 7)⟩,
  ⟨none, some 22, [20, 21], .callv (.tmp 20) ([.const (.int .u8 105), .tmp 21])⟩]
noncomputable def p63_r9 : List PI := [
  ⟨none, some 23, [11], .eff fun e => effIb .add (e 11) (.v (.int .i64 1))⟩,
  ⟨none, some 11, [23], .eff fun e => ret (e 23)⟩]
noncomputable def p63_l0 : PCode := (.seq (.reg p63_r4 [0, 3, 4, 5, 9, 10, 11, 12]) (.seq (.cond (.tmp 12) .skip (.exit 0)) (.seq (.block 1 (.seq (.reg p63_r5 [0, 3, 4, 5, 7, 9, 10, 11]) (.seq (.reg p63_r6 [0, 3, 4, 5, 7, 9, 10, 11]) (.seq (.reg p63_r7 [0, 3, 4, 5, 7, 9, 10, 11]) (.reg p63_r8 [0, 3, 4, 5, 9, 10, 11]))))) (.reg p63_r9 [0, 3, 4, 5, 9, 10, 11]))))
noncomputable def p63_r10 : List PI := [
  ⟨none, some 24, [5], .eff fun e => ret (e 5)⟩,
  ⟨none, some 25, [0], .eff fun e => ret (e 0)⟩,
  ⟨none, some 26, [25], .eff fun e => effLenSl (e 25)⟩,
  ⟨none, some 27, [24, 26], .callv (.tmp 24) ([.tmp 26])⟩]
noncomputable def p63 : PCode := (.seq (.reg p63_r0 [0, 3]) (.seq (.reg p63_r1 [0, 3, 4]) (.seq (.reg p63_r2 [0, 3, 4, 5]) (.seq (.seq (.reg p63_r3 [0, 3, 4, 5, 9, 10, 11]) (.block 0 (.loop p63_l0))) (.reg p63_r10 [])))))
theorem P63 : PFn Try.prog 63 ⟨p63, [], 28⟩ := .mk2 Try.f63 (Try.f63.body.getD .skip) [[0, 3], [0, 3, 4], [0, 3, 4, 5], [0, 3, 4, 5, 9, 10, 11], [0, 3, 4, 5, 9, 10, 11, 12], [0, 3, 4, 5, 7, 9, 10, 11], [0, 3, 4, 5, 7, 9, 10, 11], [0, 3, 4, 5, 7, 9, 10, 11], [0, 3, 4, 5, 9, 10, 11], [0, 3, 4, 5, 9, 10, 11], []] Try.func63 (by kernel_rfl) (by kernel_rfl) (by kernel_rfl) (by kernel_rfl) (by decide)
noncomputable def p64 : PCode := pcOf Try.prog Try.f64 (Try.f64.body.getD .skip) [[]]
theorem P64 : PFn Try.prog 64 ⟨p64, [], 7⟩ := .mk3 Try.f64 (Try.f64.body.getD .skip) [[]] Try.func64 (by kernel_rfl) (by kernel_rfl) (by kernel_rfl) (by kernel_rfl) (by decide)
noncomputable def p65 : PCode := pcOf Try.prog Try.f65 (Try.f65.body.getD .skip) [[0, 1], [0, 1], [], [4]]
theorem P65 : PFn Try.prog 65 ⟨p65, [.tmp 4], 17⟩ := .mk3 Try.f65 (Try.f65.body.getD .skip) [[0, 1], [0, 1], [], [4]] Try.func65 (by kernel_rfl) (by kernel_rfl) (by kernel_rfl) (by kernel_rfl) (by decide)
noncomputable def p66 : PCode := pcOf Try.prog Try.f66 (Try.f66.body.getD .skip) [[0], [2]]
theorem P66 : PFn Try.prog 66 ⟨p66, [.tmp 2], 14⟩ := .mk3 Try.f66 (Try.f66.body.getD .skip) [[0], [2]] Try.func66 (by kernel_rfl) (by kernel_rfl) (by kernel_rfl) (by kernel_rfl) (by decide)
noncomputable def p67_r0 : List PI := [
  ⟨none, some 4, [0], .eff fun e => ret (e 0)⟩,
  ⟨none, some 5, [0], .eff fun e => ret (e 0)⟩,
  ⟨none, some 6, [5], .eff fun e => effNilck (e 5)⟩,
  ⟨none, some 7, [6], .eff fun e => effOff 0 (e 6)⟩,
  ⟨none, some 8, [7], .eff fun e => effLoad1 (e 7)⟩,
  ⟨none, some 9, [1], .eff fun e => ret (e 1)⟩,
  ⟨none, some 10, [9], .eff fun e => effMks 1 1 ([.int .i64 0]) [(0, 1, (e 9))]⟩,
  ⟨none, some 11, [8, 10], .eff fun e => effApp 1 8 (e 8) (e 10)⟩,
  ⟨none, some 12, [4], .eff fun e => effNilck (e 4)⟩,
  ⟨none, some 13, [12], .eff fun e => effOff 0 (e 12)⟩,
  ⟨none, none, [13, 11], .eff fun e => effStore 1 (e 13) (e 11)⟩]
noncomputable def p67 : PCode := (.reg p67_r0 [])
theorem P67 : PFn Try.prog 67 ⟨p67, [], 14⟩ := .mk2 Try.f67 (Try.f67.body.getD .skip) [[]] Try.func67 (by kernel_rfl) (by kernel_rfl) (by kernel_rfl) (by kernel_rfl) (by decide)
noncomputable def p68_r0 : List PI := [
  ⟨none, some 2, [], .eff fun e => ret (.v (.int .i64 0))⟩,
  ⟨none, some 3, [], .eff fun e => ret (.v (.bool false))⟩]
noncomputable def p68_r1 : List PI := [
  ⟨none, some 4, [0], .eff fun e => ret (e 0)⟩,
  ⟨none, some 5, [4], .eff fun e => effNilck (e 4)⟩,
  ⟨none, some 6, [5], .eff fun e => effOff 0 (e 5)⟩,
  ⟨none, some 7, [6], .eff fun e => effLoad1 (e 6)⟩,
  ⟨none, some 8, [7], .eff fun e => effLenSl (e 7)⟩,
  ⟨none, some 9, [8], .eff fun e => effIb .eql (e 8) (.v (.int .i64 0))⟩]
noncomputable def p68_r2 : List PI := [
  ⟨none, some 10, [2], .eff fun e => ret (e 2)⟩,
  ⟨none, some 2, [10], .eff fun e => ret (e 10)⟩,
  ⟨none, some 3, [], .eff fun e => ret (.v (.bool false))⟩]
noncomputable def p68_r3 : List PI := [
  ⟨none, some 11, [0], .eff fun e => ret (e 0)⟩,
  ⟨none, some 12, [11], .eff fun e => effNilck (e 11)⟩,
  ⟨none, some 13, [12], .eff fun e => effOff 0 (e 12)⟩,
  ⟨none, some 14, [13], .eff fun e => effLoad1 (e 13)⟩,
  ⟨none, some 15, [0], .eff fun e => ret (e 0)⟩,
  ⟨none, some 16, [15], .eff fun e => effNilck (e 15)⟩,
  ⟨none, some 17, [16], .eff fun e => effOff 0 (e 16)⟩,
  ⟨none, some 18, [17], .eff fun e => effLoad1 (e 17)⟩,
  ⟨none, some 19, [18], .eff fun e => effLenSl (e 18)⟩,
  ⟨none, some 20, [19], .eff fun e => effIb .sub (e 19) (.v (.int .i64 1))⟩,
  ⟨none, some 21, [14, 20], .eff fun e => effIdx 1 (e 14) (e 20)⟩,
  ⟨none, some 22, [21], .eff fun e => effLoad1 (e 21)⟩,
  ⟨none, some 2, [22], .eff fun e => ret (e 22)⟩,
  ⟨none, some 3, [], .eff fun e => ret (.v (.bool true))⟩]
noncomputable def p68 : PCode := (.seq (.reg p68_r0 [0, 2]) (.seq (.seq (.reg p68_r1 [0, 2, 9]) (.cond (.tmp 9) (.seq (.reg p68_r2 [2, 3]) .ret) .skip)) (.seq (.draw p68_r3 [[], [0], [1, 0], [2, 1, 0], [], [4], [5, 4], [6, 5, 4], [7, 6, 5, 4], [8, 7, 6, 5, 4], [3, 9, 2, 1, 0, 8, 7, 6, 5, 4], [10, 3, 9, 2, 1, 0, 8, 7, 6, 5, 4], [11, 10, 3, 9, 2, 1, 0, 8, 7, 6, 5, 4], [12, 11, 10, 3, 9, 2, 1, 0, 8, 7, 6, 5, 4]] [2, 3]) .ret)))
theorem P68 : PFn Try.prog 68 ⟨p68, [.tmp 2, .tmp 3], 23⟩ := .mk2 Try.f68 (Try.f68.body.getD .skip) [[0, 2], [0, 2, 9], [2, 3], [2, 3]] Try.func68 (by kernel_rfl) (by kernel_rfl) (by kernel_rfl) (by kernel_rfl) (by decide)
noncomputable def p69_r0 : List PI := [
  ⟨none, some 2, [0], .eff fun e => ret (e 0)⟩,
  ⟨none, some 3, [0], .eff fun e => ret (e 0)⟩,
  ⟨none, some 4, [3], .eff fun e => effNilck (e 3)⟩,
  ⟨none, some 5, [4], .eff fun e => effOff 0 (e 4)⟩,
  ⟨none, some 6, [5], .eff fun e => effLoad1 (e 5)⟩,
  ⟨none, some 7, [0], .eff fun e => ret (e 0)⟩,
  ⟨none, some 8, [7], .eff fun e => effNilck (e 7)⟩,
  ⟨none, some 9, [8], .eff fun e => effOff 0 (e 8)⟩,
  ⟨none, some 10, [9], .eff fun e => effLoad1 (e 9)⟩,
  ⟨none, some 11, [10], .eff fun e => effLenSl (e 10)⟩,
  ⟨none, some 12, [11], .eff fun e => effIb .sub (e 11) (.v (.int .i64 1))⟩,
  ⟨none, some 13, [6, 12], .eff fun e => effSlc 1 (e 6) none (some (e 12)) none⟩,
  ⟨none, some 14, [2], .eff fun e => effNilck (e 2)⟩,
  ⟨none, some 15, [14], .eff fun e => effOff 0 (e 14)⟩,
  ⟨none, none, [15, 13], .eff fun e => effStore 1 (e 15) (e 13)⟩]
noncomputable def p69 : PCode := (.draw p69_r0 [[], [], [1], [2, 1], [3, 2, 1], [], [5], [6, 5], [7, 6, 5], [8, 7, 6, 5], [9, 8, 7, 6, 5], [4, 10, 3, 2, 1, 9, 8, 7, 6, 5], [0, 11, 4, 10, 3, 2, 1, 9, 8, 7, 6, 5], [12, 0, 11, 4, 10, 3, 2, 1, 9, 8, 7, 6, 5], [13, 12, 0, 11, 4, 10, 3, 2, 1, 9, 8, 7, 6, 5]] [])
theorem P69 : PFn Try.prog 69 ⟨p69, [], 16⟩ := .mk2 Try.f69 (Try.f69.body.getD .skip) [[]] Try.func69 (by kernel_rfl) (by kernel_rfl) (by kernel_rfl) (by kernel_rfl) (by decide)
noncomputable def p70 : PCode := pcOf Try.prog Try.f70 (Try.f70.body.getD .skip) [[0, 1], [4]]
theorem P70 : PFn Try.prog 70 ⟨p70, [.tmp 4], 12⟩ := .mk3 Try.f70 (Try.f70.body.getD .skip) [[0, 1], [4]] Try.func70 (by kernel_rfl) (by kernel_rfl) (by kernel_rfl) (by kernel_rfl) (by decide)
noncomputable def p74 : PCode := pcOf Try.prog Try.f74 (Try.f74.body.getD .skip) [[0, 1], [0, 1, 7, 8], [0, 1, 7, 8, 9], [0, 1, 5, 7, 8], [0, 1, 5, 7, 8, 16], [4], [0, 1, 7, 8], [4]]
theorem P74 : PFn Try.prog 74 ⟨p74, [.tmp 4], 19⟩ := .mk3 Try.f74 (Try.f74.body.getD .skip) [[0, 1], [0, 1, 7, 8], [0, 1, 7, 8, 9], [0, 1, 5, 7, 8], [0, 1, 5, 7, 8, 16], [4], [0, 1, 7, 8], [4]] Try.func74 (by kernel_rfl) (by kernel_rfl) (by kernel_rfl) (by kernel_rfl) (by decide)
noncomputable def p75 : PCode := pcOf Try.prog Try.f75 (Try.f75.body.getD .skip) [[0, 1], [3]]
theorem P75 : PFn Try.prog 75 ⟨p75, [.tmp 3], 7⟩ := .mk3 Try.f75 (Try.f75.body.getD .skip) [[0, 1], [3]] Try.func75 (by kernel_rfl) (by kernel_rfl) (by kernel_rfl) (by kernel_rfl) (by decide)
noncomputable def p76_r0 : List PI := [
  ⟨none, some 2, [], .eff fun e => ret (.v (.int .i64 0))⟩]
noncomputable def p76_r1 : List PI := [
  ⟨none, some 3, [], .eff fun e => ret (.v (.int .i64 0))⟩]
noncomputable def p76_r2 : List PI := [
  ⟨none, some 4, [0], .eff fun e => ret (e 0)⟩,
  ⟨none, some 5, [4], .call 52 ([.tmp 4])⟩,
  ⟨none, some 6, [5], .eff fun e => effNt (e 5)⟩]
noncomputable def p76_r3 : List PI := [
  ⟨none, some 9, [0], .eff fun e => ret (e 0)⟩,
  ⟨none, some 10, [9], .call 61 ([.tmp 9])⟩,
  ⟨none, some 0, [10], .eff fun e => ret (e 10)⟩]
noncomputable def p76_r4 : List PI := [
  ⟨none, some 7, [3], .eff fun e => ret (e 3)⟩,
  ⟨none, some 8, [7], .eff fun e => effIb .add (e 7) (.v (.int .i64 1))⟩,
  ⟨none, some 3, [8], .eff fun e => ret (e 8)⟩]
noncomputable def p76_l0 : PCode := (.seq (.seq (.reg p76_r2 [0, 3, 6]) (.cond (.tmp 6) .skip (.exit 0))) (.seq (.block 1 (.reg p76_r3 [0, 3])) (.reg p76_r4 [0, 3])))
noncomputable def p76_r5 : List PI := [
  ⟨none, some 11, [3], .eff fun e => ret (e 3)⟩,
  ⟨none, some 2, [11], .eff fun e => ret (e 11)⟩]
noncomputable def p76 : PCode := (.seq (.reg p76_r0 [0]) (.seq (.reg p76_r1 [0, 3]) (.seq (.block 0 (.loop p76_l0)) (.seq (.reg p76_r5 [2]) .ret))))
theorem P76 : PFn Try.prog 76 ⟨p76, [.tmp 2], 12⟩ := .mk2 Try.f76 (Try.f76.body.getD .skip) [[0], [0, 3], [0, 3, 6], [0, 3], [0, 3], [2]] Try.func76 (by kernel_rfl) (by kernel_rfl) (by kernel_rfl) (by kernel_rfl) (by decide)
noncomputable def p79_r0 : List PI := [
  ⟨none, some 10, [0], .eff fun e => ret (e 0)⟩,
  ⟨none, some 11, [2], .eff fun e => effLoad1 (e 2)⟩,
  ⟨none, some 12, [10, 11], .eff fun e => effIb .eql (e 10) (e 11)⟩]
noncomputable def p79_r1 : List PI := [
  ⟨none, some 13, [3], .eff fun e => effLoad1 (e 3)⟩,
  ⟨none, some 14, [13], .call 76 ([.tmp 13])⟩,
  ⟨none, some 15, [4], .eff fun e => effLoad1 (e 4)⟩,
  ⟨none, some 16, [14, 15], .eff fun e => effIb .leq (e 14) (e 15)⟩]
noncomputable def p79_r2 : List PI := [
  ⟨none, some 17, [5], .eff fun e => effLoad1 (e 5)⟩,
  ⟨none, some 18, [17], .eff fun e => effIb .add (e 17) (.v (.int .i64 1))⟩,
  ⟨none, none, [5, 18], .eff fun e => effStore 1 (e 5) (e 18)⟩]
noncomputable def p79_r3 : List PI := [
  ⟨none, some 19, [2], .eff fun e => effLoad1 (e 2)⟩,
  ⟨none, some 20, [], .eff fun e => ret (.v (.int .i64 0))⟩]
noncomputable def p79_r4 : List PI := [
  ⟨none, some 21, [20, 19], .eff fun e => effIb .lss (e 20) (e 19)⟩]
noncomputable def p79_r5 : List PI := [
  ⟨none, some 22, [20], .eff fun e => ret (e 20)⟩,
  ⟨none, some 9, [22], .eff fun e => ret (e 22)⟩]
noncomputable def p79_r6 : List PI := [
  ⟨none, some 23, [1], .eff fun e => ret (e 1)⟩,
  ⟨none, some 24, [9], .eff fun e => ret (e 9)⟩,
  ⟨none, some 25, [23, 24], .eff fun e => SOp.eff Try.prog (evalA e) (SOp.bin .shr 96 (.tmp 23) (.tmp 24))⟩,
  ⟨none, some 26, [25], .eff fun e => SOp.eff Try.prog (evalA e) (SOp.bin .and 96 (.tmp 25) (.const (.int .u64 1)))⟩,
  ⟨none, some 27, [26], .eff fun e => effIb .eql (e 26) (.v (.int .u64 0))⟩]
noncomputable def p79_r7 : List PI := [
  ⟨none, some 28, [3], .eff fun e => effLoad1 (e 3)⟩,
  ⟨none, some 29, [0], .eff fun e => ret (e 0)⟩,
  ⟨none, some 30, [9], .eff fun e => ret (e 9)⟩,
  ⟨none, some 31, [28, 29], .eff fun e => effIdx 1 (e 28) (e 29)⟩,
  ⟨none, none, [31, 30], .eff fun e => effStore 1 (e 31) (e 30)⟩]
noncomputable def p79_r8 : List PI := [
  ⟨none, some 32, [6], .eff fun e => effLoad1 (e 6)⟩,
  ⟨none, some 33, [0], .eff fun e => ret (e 0)⟩,
  ⟨none, some 34, [33], .eff fun e => effIb .add (e 33) (.v (.int .i64 1))⟩,
  ⟨none, some 35, [1], .eff fun e => ret (e 1)⟩,
  ⟨none, some 36, [9], .eff fun e => ret (e 9)⟩,
  ⟨none, some 37, [36], .eff fun e => SOp.eff Try.prog (evalA e) (SOp.bin .shl 96 (.const (.int .u64 1)) (.tmp 36))⟩,
  ⟨none, some 38, [35, 37], .eff fun e => SOp.eff Try.prog (evalA e) (SOp.bin .or 96 (.tmp 35) (.tmp 37))⟩,
  ⟨none, some 39, [32, 34, 38], .callv (.tmp 32) ([.tmp 34, .tmp 38])⟩]
noncomputable def p79_r9 : List PI := [
  ⟨none, some 40, [20], .eff fun e => effIb .add (e 20) (.v (.int .i64 1))⟩,
  ⟨none, some 20, [40], .eff fun e => ret (e 40)⟩]
noncomputable def p79_l0 : PCode := (.seq (.reg p79_r4 [0, 1, 3, 6, 19, 20, 21]) (.seq (.cond (.tmp 21) .skip (.exit 0)) (.seq (.block 1 (.seq (.reg p79_r5 [0, 1, 3, 6, 9, 19, 20]) (.seq (.reg p79_r6 [0, 1, 3, 6, 9, 19, 20, 27]) (.cond (.tmp 27) (.seq (.reg p79_r7 [0, 1, 3, 6, 9, 19, 20]) (.draw p79_r8 [[], [], [1], [], [], [4], [3, 5, 4], [0, 2, 6, 1, 3, 5, 4]] [0, 1, 3, 6, 19, 20])) .skip)))) (.reg p79_r9 [0, 1, 3, 6, 19, 20]))))
noncomputable def p79 : PCode := (.seq (.seq (.reg p79_r0 [0, 1, 2, 3, 4, 5, 6, 12]) (.cond (.tmp 12) (.seq (.seq (.draw p79_r1 [[], [0], [], [1, 2, 0]] [5, 16]) (.cond (.tmp 16) (.reg p79_r2 []) .skip)) .ret) .skip)) (.seq (.reg p79_r3 [0, 1, 3, 6, 19, 20]) (.block 0 (.loop p79_l0))))
theorem P79 : PFn Try.prog 79 ⟨p79, [], 41⟩ := .mk2 Try.f79 (Try.f79.body.getD .skip) [[0, 1, 2, 3, 4, 5, 6, 12], [5, 16], [], [0, 1, 3, 6, 19, 20], [0, 1, 3, 6, 19, 20, 21], [0, 1, 3, 6, 9, 19, 20], [0, 1, 3, 6, 9, 19, 20, 27], [0, 1, 3, 6, 9, 19, 20], [0, 1, 3, 6, 19, 20], [0, 1, 3, 6, 19, 20]] Try.func79 (by kernel_rfl) (by kernel_rfl) (by kernel_rfl) (by kernel_rfl) (by decide)
noncomputable def p82 : PCode := pcOf Try.prog Try.f82 (Try.f82.body.getD .skip) [[0], [0, 3], [0, 3, 11, 12, 13], [0, 3, 11, 12, 13, 14], [0, 3, 4, 5, 11, 12, 13], [0, 3, 5, 6, 11, 12, 13], [0, 3, 5, 6, 11, 12, 13, 23], [0, 3, 5, 6, 7, 11, 12, 13], [0, 3, 5, 6, 7, 11, 12, 13, 40], [0, 3, 5, 6, 7, 11, 12, 13], [0, 3, 5, 6, 11, 12, 13], [0, 3, 5, 6, 11, 12, 13], [0, 3, 11, 12, 13], [2]]
theorem P82 : PFn Try.prog 82 ⟨p82, [.tmp 2], 59⟩ := .mk3 Try.f82 (Try.f82.body.getD .skip) [[0], [0, 3], [0, 3, 11, 12, 13], [0, 3, 11, 12, 13, 14], [0, 3, 4, 5, 11, 12, 13], [0, 3, 5, 6, 11, 12, 13], [0, 3, 5, 6, 11, 12, 13, 23], [0, 3, 5, 6, 7, 11, 12, 13], [0, 3, 5, 6, 7, 11, 12, 13, 40], [0, 3, 5, 6, 7, 11, 12, 13], [0, 3, 5, 6, 11, 12, 13], [0, 3, 5, 6, 11, 12, 13], [0, 3, 11, 12, 13], [2]] Try.func82 (by kernel_rfl) (by kernel_rfl) (by kernel_rfl) (by kernel_rfl) (by decide)
noncomputable def p84 : PCode := pcOf Try.prog Try.f84 (Try.f84.body.getD .skip) [[0, 1], [0, 1, 10], [0, 1], [0, 5, 6], [0, 6, 26], [0, 6], [0, 7], [7, 8], [7, 8, 37], [7, 8], [4]]
theorem P84 : PFn Try.prog 84 ⟨p84, [.tmp 4], 48⟩ := .mk3 Try.f84 (Try.f84.body.getD .skip) [[0, 1], [0, 1, 10], [0, 1], [0, 5, 6], [0, 6, 26], [0, 6], [0, 7], [7, 8], [7, 8, 37], [7, 8], [4]] Try.func84 (by kernel_rfl) (by kernel_rfl) (by kernel_rfl) (by kernel_rfl) (by decide)
noncomputable def p85 : PCode := pcOf Try.prog Try.f85 (Try.f85.body.getD .skip) [[0, 1, 2, 3, 4, 5, 13], [], [0, 1, 2, 4, 5], [0, 1, 4, 5, 28, 29], [0, 1, 4, 5, 28, 29, 30], [0, 1, 4, 5, 8, 28, 29], [0, 1, 4, 5, 8, 28, 29, 39], [0, 1, 4, 5, 28, 29], [0, 1, 4, 5, 28, 29]]
theorem P85 : PFn Try.prog 85 ⟨p85, [], 46⟩ := .mk3 Try.f85 (Try.f85.body.getD .skip) [[0, 1, 2, 3, 4, 5, 13], [], [0, 1, 2, 4, 5], [0, 1, 4, 5, 28, 29], [0, 1, 4, 5, 28, 29, 30], [0, 1, 4, 5, 8, 28, 29], [0, 1, 4, 5, 8, 28, 29, 39], [0, 1, 4, 5, 28, 29], [0, 1, 4, 5, 28, 29]] Try.func85 (by kernel_rfl) (by kernel_rfl) (by kernel_rfl) (by kernel_rfl) (by decide)
noncomputable def p91_r0 : List PI := [
  ⟨none, some 4, [], .eff fun e => ret (.v (.bool false))⟩]
noncomputable def p91_r1 : List PI := [
  ⟨none, some 5, [0], .eff fun e => ret (e 0)⟩,
  ⟨none, some 6, [5], .call 101 ([.tmp 5])⟩,
  ⟨none, some 7, [6], .eff fun e => ret (e 6)⟩,
  ⟨some (7, true), some 8, [1], .eff fun e => ret (e 1)⟩,
  ⟨some (7, true), some 9, [8], .call 101 ([.tmp 8])⟩,
  ⟨some (7, true), some 10, [9], .eff fun e => effNt (e 9)⟩,
  ⟨none, some 11, [7, 10], .eff fun e => effPick (e 7) (e 10) (.v (.bool false))⟩,
  ⟨none, some 12, [11], .eff fun e => ret (e 11)⟩,
  ⟨some (12, false), some 13, [0], .eff fun e => ret (e 0)⟩,
  ⟨some (12, false), some 14, [1], .eff fun e => ret (e 1)⟩,
  ⟨some (12, false), some 15, [13, 14], .eff fun e => effIb .lss (e 13) (e 14)⟩,
  ⟨none, some 16, [12, 15], .eff fun e => effPick (e 12) (.v (.bool true)) (e 15)⟩,
  ⟨none, some 4, [16], .eff fun e => ret (e 16)⟩]
noncomputable def p91 : PCode := (.seq (.reg p91_r0 [0, 1]) (.seq (.reg p91_r1 [4]) .ret))
theorem P91 : PFn Try.prog 91 ⟨p91, [.tmp 4], 17⟩ := .mk2 Try.f91 (Try.f91.body.getD .skip) [[0, 1], [4]] Try.func91 (by kernel_rfl) (by kernel_rfl) (by kernel_rfl) (by kernel_rfl) (by decide)
noncomputable def p96_r0 : List PI := [
  ⟨none, some 5, [0], .eff fun e => ret (e 0)⟩,
  ⟨none, some 6, [5], .eff fun e => effIb .eql (e 5) (.v (.int .u8 111))⟩]
noncomputable def p96_r1 : List PI := [
  ⟨none, some 7, [2], .eff fun e => effLoad1 (e 2)⟩,
  ⟨none, some 8, [1], .eff fun e => ret (e 1)⟩,
  ⟨none, some 9, [8], .eff fun e => effMks 1 1 ([.int .i64 0]) [(0, 1, (e 8))]⟩,
  ⟨none, some 10, [7, 9], .eff fun e => effApp 1 8 (e 7) (e 9)⟩,
  ⟨none, none, [2, 10], .eff fun e => effStore 1 (e 2) (e 10)⟩]
noncomputable def p96 : PCode := (.seq (.reg p96_r0 [1, 2, 6]) (.cond (.tmp 6) (.reg p96_r1 []) .skip))
theorem P96 : PFn Try.prog 96 ⟨p96, [], 11⟩ := .mk2 Try.f96 (Try.f96.body.getD .skip) [[1, 2, 6], []] Try.func96 (by kernel_rfl) (by kernel_rfl) (by kernel_rfl) (by kernel_rfl) (by decide)
noncomputable def p97_r0 : List PI := [
  ⟨none, some 7, [1], .call 68 ([.tmp 1])⟩,
  ⟨none, some 6, [7], .eff fun e => ret (e 7)⟩,
  ⟨none, some 8, [6], .eff fun e => effExt 0 (e 6)⟩,
  ⟨none, some 9, [6], .eff fun e => effExt 1 (e 6)⟩,
  ⟨none, some 4, [8], .eff fun e => ret (e 8)⟩,
  ⟨none, some 5, [9], .eff fun e => ret (e 9)⟩]
noncomputable def p97_r1 : List PI := [
  ⟨none, some 10, [5], .eff fun e => ret (e 5)⟩,
  ⟨none, some 11, [10], .eff fun e => ret (e 10)⟩,
  ⟨some (11, true), some 12, [4], .eff fun e => ret (e 4)⟩,
  ⟨some (11, true), some 13, [0], .eff fun e => ret (e 0)⟩,
  ⟨some (11, true), some 14, [12, 13], .eff fun e => effIb .lss (e 12) (e 13)⟩,
  ⟨none, some 15, [11, 14], .eff fun e => effPick (e 11) (e 14) (.v (.bool false))⟩]
noncomputable def p97_r2 : List PI := [
  ⟨none, some 20, [1], .call 69 ([.tmp 1])⟩]
noncomputable def p97_r3 : List PI := [
  ⟨none, some 21, [2], .eff fun e => effLoad1 (e 2)⟩,
  ⟨none, some 22, [4], .eff fun e => ret (e 4)⟩,
  ⟨none, some 23, [21, 22], .callv (.tmp 21) ([.const (.int .u8 111), .tmp 22])⟩]
noncomputable def p97_r4 : List PI := [
  ⟨none, some 17, [1], .call 68 ([.tmp 1])⟩,
  ⟨none, some 16, [17], .eff fun e => ret (e 17)⟩,
  ⟨none, some 18, [16], .eff fun e => effExt 0 (e 16)⟩,
  ⟨none, some 19, [16], .eff fun e => effExt 1 (e 16)⟩,
  ⟨none, some 4, [18], .eff fun e => ret (e 18)⟩,
  ⟨none, some 5, [19], .eff fun e => ret (e 19)⟩]
noncomputable def p97_l0 : PCode := (.seq (.seq (.reg p97_r1 [0, 1, 2, 4, 15]) (.cond (.tmp 15) .skip (.exit 0))) (.seq (.block 1 (.seq (.reg p97_r2 [0, 1, 2, 4]) (.reg p97_r3 [0, 1, 2]))) (.reg p97_r4 [0, 1, 2, 4, 5])))
noncomputable def p97 : PCode := (.seq (.reg p97_r0 [0, 1, 2, 4, 5]) (.block 0 (.loop p97_l0)))
theorem P97 : PFn Try.prog 97 ⟨p97, [], 24⟩ := .mk2 Try.f97 (Try.f97.body.getD .skip) [[0, 1, 2, 4, 5], [0, 1, 2, 4, 15], [0, 1, 2, 4], [0, 1, 2], [0, 1, 2, 4, 5]] Try.func97 (by kernel_rfl) (by kernel_rfl) (by kernel_rfl) (by kernel_rfl) (by decide)
noncomputable def p98 : PCode := pcOf Try.prog Try.f98 (Try.f98.body.getD .skip) [[0, 6], [], [19]]
theorem P98 : PFn Try.prog 98 ⟨p98, [], 20⟩ := .mk3 Try.f98 (Try.f98.body.getD .skip) [[0, 6], [], [19]] Try.func98 (by kernel_rfl) (by kernel_rfl) (by kernel_rfl) (by kernel_rfl) (by decide)
noncomputable def p100 : PCode := pcOf Try.prog Try.f100 (Try.f100.body.getD .skip) [[0, 1], [6, 7], [4, 5], [8, 9], [4, 5]]
theorem P100 : PFn Try.prog 100 ⟨p100, [.tmp 4, .tmp 5], 30⟩ := .mk3 Try.f100 (Try.f100.body.getD .skip) [[0, 1], [6, 7], [4, 5], [8, 9], [4, 5]] Try.func100 (by kernel_rfl) (by kernel_rfl) (by kernel_rfl) (by kernel_rfl) (by decide)
noncomputable def p101_r0 : List PI := [
  ⟨none, some 2, [], .eff fun e => ret (.v (.bool false))⟩]
noncomputable def p101_r1 : List PI := [
  ⟨none, some 3, [0], .eff fun e => ret (e 0)⟩,
  ⟨none, some 4, [0], .eff fun e => ret (e 0)⟩,
  ⟨none, some 5, [3, 4], .eff fun e => effIb .neq (e 3) (e 4)⟩,
  ⟨none, some 2, [5], .eff fun e => ret (e 5)⟩]
noncomputable def p101 : PCode := (.seq (.reg p101_r0 [0]) (.seq (.reg p101_r1 [2]) .ret))
theorem P101 : PFn Try.prog 101 ⟨p101, [.tmp 2], 6⟩ := .mk2 Try.f101 (Try.f101.body.getD .skip) [[0], [2]] Try.func101 (by kernel_rfl) (by kernel_rfl) (by kernel_rfl) (by kernel_rfl) (by decide)
noncomputable def p113 : PCode := pcOf Try.prog Try.f113 (Try.f113.body.getD .skip) [[0, 1], [6], [4, 5]]
theorem P113 : PFn Try.prog 113 ⟨p113, [.tmp 4, .tmp 5], 17⟩ := .mk3 Try.f113 (Try.f113.body.getD .skip) [[0, 1], [6], [4, 5]] Try.func113 (by kernel_rfl) (by kernel_rfl) (by kernel_rfl) (by kernel_rfl) (by decide)
noncomputable def p114 : PCode := pcOf Try.prog Try.f114 (Try.f114.body.getD .skip) [[0, 1], [0, 1, 6], [0, 1, 6, 7], [0, 1, 6, 7, 8], [0, 1, 6, 7, 8, 9], [0, 1, 6, 7, 8, 9, 10], [0, 1, 6, 7, 9, 11], [0, 1, 6, 7, 9, 11, 12], [0, 1, 6, 7, 9, 12, 13], [0, 1, 7, 9, 12, 13], [0, 1, 4], [4, 5]]
theorem P114 : PFn Try.prog 114 ⟨p114, [.tmp 4, .tmp 5], 51⟩ := .mk3 Try.f114 (Try.f114.body.getD .skip) [[0, 1], [0, 1, 6], [0, 1, 6, 7], [0, 1, 6, 7, 8], [0, 1, 6, 7, 8, 9], [0, 1, 6, 7, 8, 9, 10], [0, 1, 6, 7, 9, 11], [0, 1, 6, 7, 9, 11, 12], [0, 1, 6, 7, 9, 12, 13], [0, 1, 7, 9, 12, 13], [0, 1, 4], [4, 5]] Try.func114 (by kernel_rfl) (by kernel_rfl) (by kernel_rfl) (by kernel_rfl) (by decide)
end Go.Sx.Lk
end
