/- The codes of the functions, written by a program (Gen.lean), and that they are the functions'. No conditions. -/
import Derived.Test.YtmakepdccccmaaaSxWe
import Derived.KernelRfl
set_option linter.unusedVariables false
set_option maxRecDepth 100000
namespace Go.Sx.Wk
open Go Go.Sx Go.Proofs

noncomputable def p76_r0 : List PI := [
  ⟨none, some 4, [], .eff fun e => ret (.v (Value.slice none 0 0))⟩]
noncomputable def p76_r1 : List PI := [
  ⟨none, some 5, [1], .eff fun e => ret (e 1)⟩,
  ⟨none, some 6, [5], .eff fun e => effIb (BinOp.lss) (e 5) (.v (Value.int (IntKind.i64) 0))⟩]
noncomputable def p76_r2 : List PI := [
  ⟨none, some 7, [], .eff fun e => effMkifc 9 (.v (Value.string (⟨#[99, 97, 110, 110, 111, 116, 32, 98, 101, 32, 110, 101, 103, 97, 116, 105, 118, 101]⟩ : ByteArray)))⟩,
  ⟨none, none, [], .eff fun e => none⟩]
noncomputable def p76_r3 : List PI := [
  ⟨none, some 8, [1], .eff fun e => ret (e 1)⟩,
  ⟨none, some 9, [0], .eff fun e => ret (e 0)⟩,
  ⟨none, some 10, [9], .eff fun e => effCap (e 9)⟩,
  ⟨none, some 11, [0], .eff fun e => ret (e 0)⟩,
  ⟨none, some 12, [11], .eff fun e => effLenSl (e 11)⟩,
  ⟨none, some 13, [10, 12], .eff fun e => effIb (BinOp.sub) (e 10) (e 12)⟩,
  ⟨none, some 14, [8, 13], .eff fun e => effIb (BinOp.sub) (e 8) (e 13)⟩,
  ⟨none, some 1, [14], .eff fun e => ret (e 14)⟩]
noncomputable def p76_r4 : List PI := [
  ⟨none, some 15, [1], .eff fun e => ret (e 1)⟩,
  ⟨none, some 16, [15], .eff fun e => effIb (BinOp.gtr) (e 15) (.v (Value.int (IntKind.i64) 0))⟩]
noncomputable def p76_r5 : List PI := [
  ⟨none, some 17, [0], .eff fun e => ret (e 0)⟩,
  ⟨none, some 18, [0], .eff fun e => ret (e 0)⟩,
  ⟨none, some 19, [18], .eff fun e => effCap (e 18)⟩,
  ⟨none, some 20, [17, 19], .eff fun e => effSlc 1 (e 17) none (some (e 19)) none⟩,
  ⟨none, some 21, [1], .eff fun e => ret (e 1)⟩,
  ⟨none, some 22, [20, 21], .eff fun e => effAppz 8 (Value.int (IntKind.i64) 0) (e 20) (e 21)⟩,
  ⟨none, some 23, [0], .eff fun e => ret (e 0)⟩,
  ⟨none, some 24, [23], .eff fun e => effLenSl (e 23)⟩,
  ⟨none, some 25, [22, 24], .eff fun e => effSlc 1 (e 22) none (some (e 24)) none⟩,
  ⟨none, some 0, [25], .eff fun e => ret (e 25)⟩]
noncomputable def p76_r6 : List PI := [
  ⟨none, some 26, [0], .eff fun e => ret (e 0)⟩,
  ⟨none, some 4, [26], .eff fun e => ret (e 26)⟩]
noncomputable def p76 : PCode := (.seq (.reg p76_r0 [0, 1]) (.seq (.seq (.reg p76_r1 [0, 1, 6]) (.cond (Operand.tmp 6) (.reg p76_r2 [0, 1]) .skip)) (.seq (.seq (.reg p76_r3 [0, 1]) (.seq (.reg p76_r4 [0, 1, 16]) (.cond (Operand.tmp 16) (.reg p76_r5 [0]) .skip))) (.seq (.reg p76_r6 [4]) .ret))))
theorem P76 : PFn Try.prog 76 ⟨p76, [SRes.tmp 4], 27⟩ := ⟨c76, F76, by kernel_rfl⟩

end Go.Sx.Wk
