/- The codes of the functions, written by a program (Gen.lean), and that they are the functions'. No conditions. -/
import Derived.Test.YtfiebjbhiflfpaaDoorSxJNtoNq
import Derived.KernelRfl
import Derived.Test.YtfiebjbhiflfpaaDoorProg
set_option linter.unusedVariables false
set_option maxRecDepth 100000
namespace Go.Sx.Ch
open Go Go.Sx Go.Proofs
noncomputable def p42_r0 : List PI := [
  ⟨none, some 1, [0], .eff fun e => effBox (e 0)⟩,
  ⟨none, some 2, [], .eff fun e => effAlloc ([Value.slice none 0 0])⟩,
  ⟨none, some 3, [], .eff fun e => ret (.v (Value.int (IntKind.i64) 0))⟩]
noncomputable def p42_r1 : List PI := [
  ⟨none, some 7, [1], .eff fun e => effLoadN 1 (e 1)⟩,
  ⟨none, some 8, [7], .call 67 ([Operand.tmp 7])⟩,
  ⟨none, some 6, [8], .eff fun e => ret (e 8)⟩,
  ⟨none, some 9, [6], .eff fun e => effExt 0 (e 6)⟩,
  ⟨none, some 10, [6], .eff fun e => effExt 1 (e 6)⟩,
  ⟨none, some 4, [], .eff fun e => effAlloc ([Value.int (IntKind.i64) 0, Value.int (IntKind.i64) 0, Value.int (IntKind.i64) 0, Value.int (IntKind.i64) 0, Value.int (IntKind.i64) 0, Value.int (IntKind.i64) 0, Value.int (IntKind.i64) 0, Value.int (IntKind.i64) 0, Value.int (IntKind.i64) 0, Value.int (IntKind.i64) 0, Value.int (IntKind.i64) 0, Value.int (IntKind.i64) 0, Value.int (IntKind.i64) 0, Value.int (IntKind.i64) 0, Value.int (IntKind.i64) 0, Value.int (IntKind.i64) 0, Value.int (IntKind.i64) 0, Value.int (IntKind.i64) 0, Value.int (IntKind.i64) 0, Value.int (IntKind.i64) 0, Value.int (IntKind.i64) 0, Value.int (IntKind.i64) 0, Value.int (IntKind.i64) 0, Value.int (IntKind.i64) 0, Value.int (IntKind.i64) 0, Value.int (IntKind.i64) 0, Value.int (IntKind.i64) 0, Value.int (IntKind.i64) 0, Value.int (IntKind.i64) 0, Value.int (IntKind.i64) 0, Value.int (IntKind.i64) 0, Value.int (IntKind.i64) 0, Value.int (IntKind.i64) 0, Value.int (IntKind.i64) 0])⟩,
  ⟨none, none, [4, 9], .eff fun e => effStore 34 (e 4) (e 9)⟩,
  ⟨none, some 5, [10], .eff fun e => ret (e 10)⟩]
noncomputable def p42_r2 : List PI := [
  ⟨none, some 11, [5], .eff fun e => ret (e 5)⟩,
  ⟨none, some 12, [11], .eff fun e => effIb (BinOp.neq) (e 11) (.v (Value.int (IntKind.i64) 0))⟩]
noncomputable def p42_r3 : List PI := [
  ⟨none, some 13, [], .eff fun e => effBuild ([Value.slice none 0 0]) []⟩,
  ⟨none, some 14, [5], .eff fun e => ret (e 5)⟩,
  ⟨none, none, [2, 13], .eff fun e => effStore 1 (e 2) (e 13)⟩,
  ⟨none, some 3, [14], .eff fun e => ret (e 14)⟩]
noncomputable def p42_r4 : List PI := [
  ⟨none, some 15, [4], .eff fun e => effLoadN 34 (e 4)⟩,
  ⟨none, some 16, [4], .eff fun e => effLoadN 34 (e 4)⟩,
  ⟨none, some 17, [16], .eff fun e => effMkfn (Fn.func 71) [(e 16)] []⟩,
  ⟨none, some 18, [15, 17], .call 68 ([Operand.tmp 15, Operand.tmp 17])⟩,
  ⟨none, some 19, [18], .eff fun e => effBuild ([Value.slice none 0 0]) [(0, 1, (e 18))]⟩,
  ⟨none, none, [2, 19], .eff fun e => effStore 1 (e 2) (e 19)⟩,
  ⟨none, some 3, [], .eff fun e => ret (.v (Value.int (IntKind.i64) 0))⟩]
noncomputable def p42 : PCode := (.seq (.reg p42_r0 [1, 2]) (.seq (.reg p42_r1 [2, 4, 5]) (.seq (.seq (.reg p42_r2 [2, 4, 5, 12]) (.cond (Operand.tmp 12) (.seq (.reg p42_r3 [2, 3]) .ret) .skip)) (.seq (.reg p42_r4 [2, 3]) .ret))))
theorem P42 : PFn Tryd.prog 42 ⟨p42, [SRes.cell 2 (some 1), SRes.tmp 3], 20⟩ := .mk2 Tryd.f42 (Tryd.f42.body.getD .skip) [[1, 2], [2, 4, 5], [2, 4, 5, 12], [2, 3], [2, 3]] Tryd.func42 (by kernel_rfl) (by kernel_rfl) (by kernel_rfl) (by kernel_rfl) (by decide)
end Go.Sx.Ch
