/- The codes of the functions, written by a program (Gen.lean), and that they are the functions'. No conditions. -/
import Derived.Test.YtmakepdccccmaaaSxJWatoWb
import Derived.KernelRfl
import Derived.Test.YtmakepdccccmaaaSxO
set_option linter.unusedVariables false
set_option maxRecDepth 100000
namespace Go.Sx.Wk
open Go Go.Sx Go.Proofs

def p29_r0 : List PI := [
  ⟨none, some 4, [], .eff fun e => ret (.v (Value.bool false))⟩]
def p29_r1 : List PI := [
  ⟨none, some 6, [0], .eff fun e => ret (e 0)⟩,
  ⟨none, some 7, [6], .eff fun e => effLenSl (e 6)⟩,
  ⟨none, some 8, [1], .eff fun e => ret (e 1)⟩,
  ⟨none, some 9, [8], .eff fun e => effLenSl (e 8)⟩,
  ⟨none, some 10, [7, 9], .eff fun e => effIb (BinOp.neq) (e 7) (e 9)⟩]
def p29_r2 : List PI := [
  ⟨none, some 4, [], .eff fun e => ret (.v (Value.bool false))⟩]
def p29_r3 : List PI := [
  ⟨none, some 5, [], .eff fun e => ret (.v (Value.int (IntKind.i64) 0))⟩]
def p29_r4 : List PI := [
  ⟨none, some 11, [5], .eff fun e => ret (e 5)⟩,
  ⟨none, some 12, [0], .eff fun e => ret (e 0)⟩,
  ⟨none, some 13, [12], .eff fun e => effLenSl (e 12)⟩,
  ⟨none, some 14, [11, 13], .eff fun e => effIb (BinOp.lss) (e 11) (e 13)⟩]
def p29_r5 : List PI := [
  ⟨none, some 17, [0], .eff fun e => ret (e 0)⟩,
  ⟨none, some 18, [5], .eff fun e => ret (e 5)⟩,
  ⟨none, some 19, [17, 18], .eff fun e => effIdx 1 (e 17) (e 18)⟩,
  ⟨none, some 20, [19], .eff fun e => effLoad1 (e 19)⟩,
  ⟨none, some 21, [1], .eff fun e => ret (e 1)⟩,
  ⟨none, some 22, [5], .eff fun e => ret (e 5)⟩,
  ⟨none, some 23, [21, 22], .eff fun e => effIdx 1 (e 21) (e 22)⟩,
  ⟨none, some 24, [23], .eff fun e => effLoad1 (e 23)⟩,
  ⟨none, some 25, [20, 24], .eff fun e => effIb (BinOp.neq) (e 20) (e 24)⟩]
def p29_r6 : List PI := [
  ⟨none, some 4, [], .eff fun e => ret (.v (Value.bool false))⟩]
def p29_r7 : List PI := [
  ⟨none, some 15, [5], .eff fun e => ret (e 5)⟩,
  ⟨none, some 16, [15], .eff fun e => effIb (BinOp.add) (e 15) (.v (Value.int (IntKind.i64) 1))⟩,
  ⟨none, some 5, [16], .eff fun e => ret (e 16)⟩]
def p29_l0 : PCode := (.seq (.seq (.reg p29_r4 [0, 1, 5, 14]) (.cond (Operand.tmp 14) .skip (.exit 0))) (.seq (.block 1 (.seq (.draw p29_r5 [[], [], [0, 1], [2, 0, 1], [], [], [4, 5], [6, 4, 5], [3, 7, 2, 0, 1, 6, 4, 5]] [0, 1, 5, 25]) (.cond (Operand.tmp 25) (.seq (.reg p29_r6 [4]) .ret) .skip))) (.reg p29_r7 [0, 1, 5])))
def p29_r8 : List PI := [
  ⟨none, some 4, [], .eff fun e => ret (.v (Value.bool true))⟩]
def p29 : PCode := (.seq (.reg p29_r0 [0, 1]) (.seq (.seq (.reg p29_r1 [0, 1, 10]) (.cond (Operand.tmp 10) (.seq (.reg p29_r2 [4]) .ret) .skip)) (.seq (.seq (.reg p29_r3 [0, 1, 5]) (.block 0 (.loop p29_l0))) (.seq (.reg p29_r8 [4]) .ret))))
theorem P29 : PFn Try.prog 29 ⟨p29, [SRes.tmp 4], 26⟩ := ⟨c29, F29, by kernel_rfl⟩

def p60_r0 : List PI := [
  ⟨none, some 6, [], .eff fun e => ret (.v (Value.bool false))⟩]
def p60_r1 : List PI := [
  ⟨none, some 7, [0], .eff fun e => ret (e 0)⟩,
  ⟨none, some 8, [1], .eff fun e => ret (e 1)⟩,
  ⟨none, some 9, [7, 8], .eff fun e => effIb (BinOp.leq) (e 7) (e 8)⟩,
  ⟨none, some 10, [9], .eff fun e => ret (e 9)⟩,
  ⟨some (10, true), some 11, [1], .eff fun e => ret (e 1)⟩,
  ⟨some (10, true), some 12, [2], .eff fun e => ret (e 2)⟩,
  ⟨some (10, true), some 13, [11, 12], .eff fun e => effIb (BinOp.leq) (e 11) (e 12)⟩,
  ⟨none, some 14, [10, 13], .eff fun e => effPick (e 10) (e 13) (.v (Value.bool false))⟩,
  ⟨none, some 6, [14], .eff fun e => ret (e 14)⟩]
def p60 : PCode := (.seq (.reg p60_r0 [0, 1, 2]) (.seq (.reg p60_r1 [6]) .ret))
theorem P60 : PFn Try.prog 60 ⟨p60, [SRes.tmp 6], 15⟩ := ⟨c60, F60, by kernel_rfl⟩

def p23_r0 : List PI := [
  ⟨none, some 2, [], .eff fun e => ret (.v (Value.int (IntKind.i64) 0))⟩]
def p23_r1 : List PI := [
  ⟨none, some 4, [0], .eff fun e => ret (e 0)⟩,
  ⟨none, some 5, [4], .eff fun e => effLenSl (e 4)⟩,
  ⟨none, some 6, [5], .eff fun e => effIb (BinOp.eql) (e 5) (.v (Value.int (IntKind.i64) 0))⟩,
  ⟨none, some 3, [6], .eff fun e => ret (e 6)⟩]
def p23_r2 : List PI := [
  ⟨none, some 2, [], .eff fun e => ret (.v (Value.int (IntKind.i64) 4))⟩]
def p23_r3 : List PI := [
  ⟨none, some 8, [0], .eff fun e => ret (e 0)⟩,
  ⟨none, some 9, [8], .eff fun e => effLenSl (e 8)⟩,
  ⟨none, some 10, [9], .eff fun e => effIb (BinOp.gtr) (e 9) (.v (Value.int (IntKind.i64) 4))⟩,
  ⟨none, some 7, [10], .eff fun e => ret (e 10)⟩]
def p23_r4 : List PI := [
  ⟨none, some 2, [], .eff fun e => ret (.v (Value.int (IntKind.i64) 3))⟩]
def p23_r5 : List PI := [
  ⟨none, some 12, [0], .eff fun e => ret (e 0)⟩,
  ⟨none, some 13, [12], .call 58 ([Operand.tmp 12, Operand.func 59])⟩,
  ⟨none, some 11, [13], .eff fun e => ret (e 13)⟩]
def p23_r6 : List PI := [
  ⟨none, some 2, [], .eff fun e => ret (.v (Value.int (IntKind.i64) 1))⟩]
def p23_r7 : List PI := [
  ⟨none, some 2, [], .eff fun e => ret (.v (Value.int (IntKind.i64) 0))⟩]
def p23 : PCode := (.seq (.reg p23_r0 [0]) (.seq (.block 0 (.seq (.reg p23_r1 [0, 3]) (.cond (Operand.tmp 3) (.seq (.reg p23_r2 [2]) .ret) (.seq (.reg p23_r3 [0, 7]) (.cond (Operand.tmp 7) (.seq (.reg p23_r4 [2]) .ret) (.seq (.reg p23_r5 [11]) (.cond (Operand.tmp 11) (.seq (.reg p23_r6 [2]) .ret) .skip))))))) (.seq (.reg p23_r7 [2]) .ret)))
theorem P23 : PFn Try.prog 23 ⟨p23, [SRes.tmp 2], 14⟩ := ⟨c23, F23, by kernel_rfl⟩

def p59_r0 : List PI := [
  ⟨none, some 2, [], .eff fun e => ret (.v (Value.bool false))⟩]
def p59_r1 : List PI := [
  ⟨none, some 3, [0], .eff fun e => ret (e 0)⟩,
  ⟨none, some 4, [3], .call 60 ([Operand.const (Value.int (IntKind.i64) 1), Operand.tmp 3, Operand.const (Value.int (IntKind.i64) 8)])⟩,
  ⟨none, some 5, [4], .eff fun e => effNt (e 4)⟩,
  ⟨none, some 2, [5], .eff fun e => ret (e 5)⟩]
def p59 : PCode := (.seq (.reg p59_r0 [0]) (.seq (.reg p59_r1 [2]) .ret))
theorem P59 : PFn Try.prog 59 ⟨p59, [SRes.tmp 2], 6⟩ := ⟨c59, F59, by kernel_rfl⟩

def p58_r0 : List PI := [
  ⟨none, some 4, [], .eff fun e => ret (.v (Value.bool false))⟩]
def p58_r1 : List PI := [
  ⟨none, some 5, [0], .eff fun e => ret (e 0)⟩,
  ⟨none, some 6, [1], .eff fun e => ret (e 1)⟩,
  ⟨none, some 7, [5, 6], .call 80 ([Operand.tmp 5, Operand.tmp 6])⟩,
  ⟨none, some 8, [7], .eff fun e => effIb (BinOp.geq) (e 7) (.v (Value.int (IntKind.i64) 0))⟩,
  ⟨none, some 4, [8], .eff fun e => ret (e 8)⟩]
def p58 : PCode := (.seq (.reg p58_r0 [0, 1]) (.seq (.reg p58_r1 [4]) .ret))
theorem P58 : PFn Try.prog 58 ⟨p58, [SRes.tmp 4], 9⟩ := ⟨c58, F58, by kernel_rfl⟩

def p80_r0 : List PI := [
  ⟨none, some 4, [], .eff fun e => ret (.v (Value.int (IntKind.i64) 0))⟩]
def p80_r1 : List PI := [
  ⟨none, some 6, [0], .eff fun e => ret (e 0)⟩,
  ⟨none, some 7, [6], .eff fun e => effLenSl (e 6)⟩,
  ⟨none, some 8, [], .eff fun e => ret (.v (Value.int (IntKind.i64) 0))⟩]
def p80_r2 : List PI := [
  ⟨none, some 9, [8, 7], .eff fun e => effIb (BinOp.lss) (e 8) (e 7)⟩]
def p80_r3 : List PI := [
  ⟨none, some 10, [8], .eff fun e => ret (e 8)⟩,
  ⟨none, some 5, [10], .eff fun e => ret (e 10)⟩]
def p80_r4 : List PI := [
  ⟨none, some 11, [1], .eff fun e => ret (e 1)⟩,
  ⟨none, some 12, [0], .eff fun e => ret (e 0)⟩,
  ⟨none, some 13, [5], .eff fun e => ret (e 5)⟩,
  ⟨none, some 14, [12, 13], .eff fun e => effIdx 1 (e 12) (e 13)⟩,
  ⟨none, some 15, [14], .eff fun e => effLoad1 (e 14)⟩,
  ⟨none, some 16, [11, 15], .callv (Operand.tmp 11) ([Operand.tmp 15])⟩]
def p80_r5 : List PI := [
  ⟨none, some 17, [5], .eff fun e => ret (e 5)⟩,
  ⟨none, some 4, [17], .eff fun e => ret (e 17)⟩]
def p80_r6 : List PI := [
  ⟨none, some 18, [8], .eff fun e => effIb (BinOp.add) (e 8) (.v (Value.int (IntKind.i64) 1))⟩,
  ⟨none, some 8, [18], .eff fun e => ret (e 18)⟩]
def p80_l0 : PCode := (.seq (.reg p80_r2 [0, 1, 7, 8, 9]) (.seq (.cond (Operand.tmp 9) .skip (.exit 0)) (.seq (.block 1 (.seq (.reg p80_r3 [0, 1, 5, 7, 8]) (.seq (.reg p80_r4 [0, 1, 5, 7, 8, 16]) (.cond (Operand.tmp 16) (.seq (.reg p80_r5 [4]) .ret) .skip)))) (.reg p80_r6 [0, 1, 7, 8]))))
def p80_r7 : List PI := [
  ⟨none, some 4, [], .eff fun e => ret (.v (Value.int (IntKind.i64) (-1)))⟩]
def p80 : PCode := (.seq (.reg p80_r0 [0, 1]) (.seq (.seq (.reg p80_r1 [0, 1, 7, 8]) (.block 0 (.loop p80_l0))) (.seq (.reg p80_r7 [4]) .ret)))
theorem P80 : PFn Try.prog 80 ⟨p80, [SRes.tmp 4], 19⟩ := ⟨c80, F80, by kernel_rfl⟩

def p53_r0 : List PI := [
  ⟨none, some 4, [], .eff fun e => ret (.v (Value.int (IntKind.i64) 0))⟩]
def p53_r1 : List PI := [
  ⟨none, some 5, [1], .eff fun e => ret (e 1)⟩,
  ⟨none, some 6, [5], .eff fun e => effIb (BinOp.neq) (e 5) (.v (Value.int (IntKind.i64) 0))⟩]
def p53_r2 : List PI := [
  ⟨none, some 7, [1], .eff fun e => ret (e 1)⟩,
  ⟨none, some 8, [0], .eff fun e => ret (e 0)⟩,
  ⟨none, some 9, [1], .eff fun e => ret (e 1)⟩,
  ⟨none, some 10, [8, 9], .eff fun e => effIb (BinOp.rem) (e 8) (e 9)⟩,
  ⟨none, some 0, [7], .eff fun e => ret (e 7)⟩,
  ⟨none, some 1, [10], .eff fun e => ret (e 10)⟩]
def p53_l0 : PCode := (.seq (.seq (.reg p53_r1 [0, 1, 6]) (.cond (Operand.tmp 6) .skip (.exit 0))) (.block 1 (.draw p53_r2 [[], [], [], [1, 2], [0, 0, 1], [3, 4, 0, 1, 2, 3, 4, 1, 2, 0, 0, 1, 1, 2, 0, 0, 1]] [0, 1])))
def p53_r3 : List PI := [
  ⟨none, some 11, [0], .eff fun e => ret (e 0)⟩,
  ⟨none, some 4, [11], .eff fun e => ret (e 11)⟩]
def p53 : PCode := (.seq (.reg p53_r0 [0, 1]) (.seq (.block 0 (.loop p53_l0)) (.seq (.reg p53_r3 [4]) .ret)))
theorem P53 : PFn Try.prog 53 ⟨p53, [SRes.tmp 4], 12⟩ := ⟨c53, F53, by kernel_rfl⟩

def p17_r0 : List PI := [
  ⟨none, some 2, [], .eff fun e => ret (.v (Value.int (IntKind.i64) 0))⟩,
  ⟨none, some 3, [], .eff fun e => ret (.v (Value.int (IntKind.i64) 0))⟩,
  ⟨none, some 4, [], .eff fun e => ret (.v (Value.int (IntKind.i64) 0))⟩]
def p17_r1 : List PI := [
  ⟨none, some 9, [0], .eff fun e => ret (e 0)⟩,
  ⟨none, some 10, [9], .call 23 ([Operand.tmp 9])⟩,
  ⟨none, some 5, [10], .eff fun e => ret (e 10)⟩]
def p17_r2 : List PI := [
  ⟨none, some 11, [5], .eff fun e => ret (e 5)⟩,
  ⟨none, some 12, [11], .eff fun e => effIb (BinOp.neq) (e 11) (.v (Value.int (IntKind.i64) 0))⟩]
def p17_r3 : List PI := [
  ⟨none, some 13, [5], .eff fun e => ret (e 5)⟩,
  ⟨none, some 2, [], .eff fun e => ret (.v (Value.int (IntKind.i64) 0))⟩,
  ⟨none, some 3, [], .eff fun e => ret (.v (Value.int (IntKind.i64) 0))⟩,
  ⟨none, some 4, [13], .eff fun e => ret (e 13)⟩]
def p17_r4 : List PI := [
  ⟨none, some 2, [], .eff fun e => ret (.v (Value.int (IntKind.i64) 0))⟩,
  ⟨none, some 3, [], .eff fun e => ret (.v (Value.int (IntKind.i64) 1))⟩]
def p17_r5 : List PI := [
  ⟨none, some 14, [0], .eff fun e => ret (e 0)⟩,
  ⟨none, some 15, [14], .eff fun e => effLenSl (e 14)⟩,
  ⟨none, some 16, [], .eff fun e => ret (.v (Value.int (IntKind.i64) 0))⟩]
def p17_r6 : List PI := [
  ⟨none, some 17, [16, 15], .eff fun e => effIb (BinOp.lss) (e 16) (e 15)⟩]
def p17_r7 : List PI := [
  ⟨none, some 18, [14, 16], .eff fun e => effIdx 1 (e 14) (e 16)⟩,
  ⟨none, some 19, [18], .eff fun e => effLoad1 (e 18)⟩,
  ⟨none, some 7, [19], .eff fun e => ret (e 19)⟩]
def p17_r8 : List PI := [
  ⟨none, some 20, [2], .eff fun e => ret (e 2)⟩,
  ⟨none, some 21, [7], .eff fun e => ret (e 7)⟩,
  ⟨none, some 22, [20, 21], .eff fun e => effIb (BinOp.mul) (e 20) (e 21)⟩,
  ⟨none, some 23, [3], .eff fun e => ret (e 3)⟩,
  ⟨none, some 24, [22, 23], .eff fun e => effIb (BinOp.add) (e 22) (e 23)⟩,
  ⟨none, some 25, [3], .eff fun e => ret (e 3)⟩,
  ⟨none, some 26, [7], .eff fun e => ret (e 7)⟩,
  ⟨none, some 27, [25, 26], .eff fun e => effIb (BinOp.mul) (e 25) (e 26)⟩,
  ⟨none, some 2, [24], .eff fun e => ret (e 24)⟩,
  ⟨none, some 3, [27], .eff fun e => ret (e 27)⟩]
def p17_r9 : List PI := [
  ⟨none, some 28, [2], .eff fun e => ret (e 2)⟩,
  ⟨none, some 29, [3], .eff fun e => ret (e 3)⟩,
  ⟨none, some 30, [28, 29], .call 53 ([Operand.tmp 28, Operand.tmp 29])⟩,
  ⟨none, some 8, [30], .eff fun e => ret (e 30)⟩]
def p17_r10 : List PI := [
  ⟨none, some 31, [2], .eff fun e => ret (e 2)⟩,
  ⟨none, some 32, [8], .eff fun e => ret (e 8)⟩,
  ⟨none, some 33, [31, 32], .eff fun e => effIb (BinOp.quo) (e 31) (e 32)⟩,
  ⟨none, some 34, [3], .eff fun e => ret (e 3)⟩,
  ⟨none, some 35, [8], .eff fun e => ret (e 8)⟩,
  ⟨none, some 36, [34, 35], .eff fun e => effIb (BinOp.quo) (e 34) (e 35)⟩,
  ⟨none, some 2, [33], .eff fun e => ret (e 33)⟩,
  ⟨none, some 3, [36], .eff fun e => ret (e 36)⟩]
def p17_r11 : List PI := [
  ⟨none, some 37, [16], .eff fun e => effIb (BinOp.add) (e 16) (.v (Value.int (IntKind.i64) 1))⟩,
  ⟨none, some 16, [37], .eff fun e => ret (e 37)⟩]
def p17_l0 : PCode := (.seq (.reg p17_r6 [2, 3, 14, 15, 16, 17]) (.seq (.cond (Operand.tmp 17) .skip (.exit 0)) (.seq (.block 1 (.seq (.reg p17_r7 [2, 3, 7, 14, 15, 16]) (.seq (.reg p17_r8 [2, 3, 14, 15, 16]) (.seq (.reg p17_r9 [2, 3, 8, 14, 15, 16]) (.draw p17_r10 [[], [], [0, 1], [], [], [3, 4], [2, 0, 1, 2, 0, 1, 0, 1], [5, 6, 0, 1, 2, 3, 4, 5, 6, 3, 4, 2, 0, 1, 2, 0, 1, 0, 1, 0, 1, 3, 4, 2, 0, 1, 2, 0, 1, 0, 1]] [2, 3, 14, 15, 16]))))) (.reg p17_r11 [2, 3, 14, 15, 16]))))
def p17_r12 : List PI := [
  ⟨none, some 38, [2], .eff fun e => ret (e 2)⟩,
  ⟨none, some 39, [3], .eff fun e => ret (e 3)⟩,
  ⟨none, some 2, [38], .eff fun e => ret (e 38)⟩,
  ⟨none, some 3, [39], .eff fun e => ret (e 39)⟩,
  ⟨none, some 4, [], .eff fun e => ret (.v (Value.int (IntKind.i64) 0))⟩]
def p17 : PCode := (.seq (.reg p17_r0 [0]) (.seq (.seq (.reg p17_r1 [0, 5]) (.seq (.reg p17_r2 [0, 5, 12]) (.cond (Operand.tmp 12) (.seq (.reg p17_r3 [2, 3, 4]) .ret) .skip))) (.seq (.reg p17_r4 [0, 2, 3]) (.seq (.seq (.reg p17_r5 [2, 3, 14, 15, 16]) (.block 0 (.loop p17_l0))) (.seq (.reg p17_r12 [2, 3, 4]) .ret)))))
theorem P17 : PFn Try.prog 17 ⟨p17, [SRes.tmp 2, SRes.tmp 3, SRes.tmp 4], 40⟩ := ⟨c17, F17, by kernel_rfl⟩

def p24_r0 : List PI := [
  ⟨none, some 2, [], .eff fun e => ret (.v (Value.int (IntKind.i64) 0))⟩]
def p24_r1 : List PI := [
  ⟨none, some 4, [0], .eff fun e => ret (e 0)⟩,
  ⟨none, some 5, [4], .eff fun e => effLenSl (e 4)⟩,
  ⟨none, some 6, [5], .eff fun e => effIb (BinOp.eql) (e 5) (.v (Value.int (IntKind.i64) 0))⟩]
def p24_r2 : List PI := [
  ⟨none, some 2, [], .eff fun e => ret (.v (Value.int (IntKind.i64) 4))⟩]
def p24_r3 : List PI := [
  ⟨none, some 7, [0], .eff fun e => ret (e 0)⟩,
  ⟨none, some 8, [7], .eff fun e => effLenSl (e 7)⟩,
  ⟨none, some 9, [8], .eff fun e => effIb (BinOp.gtr) (e 8) (.v (Value.int (IntKind.i64) 4))⟩]
def p24_r4 : List PI := [
  ⟨none, some 2, [], .eff fun e => ret (.v (Value.int (IntKind.i64) 3))⟩]
def p24_r5 : List PI := [
  ⟨none, some 3, [], .eff fun e => ret (.v (Value.int (IntKind.i64) 0))⟩]
def p24_r6 : List PI := [
  ⟨none, some 10, [3], .eff fun e => ret (e 3)⟩,
  ⟨none, some 11, [0], .eff fun e => ret (e 0)⟩,
  ⟨none, some 12, [11], .eff fun e => effLenSl (e 11)⟩,
  ⟨none, some 13, [10, 12], .eff fun e => effIb (BinOp.lss) (e 10) (e 12)⟩]
def p24_r7 : List PI := [
  ⟨none, some 16, [0], .eff fun e => ret (e 0)⟩,
  ⟨none, some 17, [3], .eff fun e => ret (e 3)⟩,
  ⟨none, some 18, [16, 17], .eff fun e => effIdx 1 (e 16) (e 17)⟩,
  ⟨none, some 19, [18], .eff fun e => effLoad1 (e 18)⟩,
  ⟨none, some 20, [19], .call 61 ([Operand.tmp 19, Operand.const (Value.int (IntKind.i64) 1), Operand.const (Value.int (IntKind.i64) 8)])⟩,
  ⟨none, some 21, [20], .eff fun e => effNt (e 20)⟩]
def p24_r8 : List PI := [
  ⟨none, some 2, [], .eff fun e => ret (.v (Value.int (IntKind.i64) 1))⟩]
def p24_r9 : List PI := [
  ⟨none, some 14, [3], .eff fun e => ret (e 3)⟩,
  ⟨none, some 15, [14], .eff fun e => effIb (BinOp.add) (e 14) (.v (Value.int (IntKind.i64) 1))⟩,
  ⟨none, some 3, [15], .eff fun e => ret (e 15)⟩]
def p24_l0 : PCode := (.seq (.seq (.reg p24_r6 [0, 3, 13]) (.cond (Operand.tmp 13) .skip (.exit 0))) (.seq (.block 1 (.seq (.reg p24_r7 [0, 3, 21]) (.cond (Operand.tmp 21) (.seq (.reg p24_r8 [2]) .ret) .skip))) (.reg p24_r9 [0, 3])))
def p24_r10 : List PI := [
  ⟨none, some 2, [], .eff fun e => ret (.v (Value.int (IntKind.i64) 0))⟩]
def p24 : PCode := (.seq (.reg p24_r0 [0]) (.seq (.seq (.reg p24_r1 [0, 6]) (.cond (Operand.tmp 6) (.seq (.reg p24_r2 [2]) .ret) .skip)) (.seq (.seq (.reg p24_r3 [0, 9]) (.cond (Operand.tmp 9) (.seq (.reg p24_r4 [2]) .ret) .skip)) (.seq (.seq (.reg p24_r5 [0, 3]) (.block 0 (.loop p24_l0))) (.seq (.reg p24_r10 [2]) .ret)))))
theorem P24 : PFn Try.prog 24 ⟨p24, [SRes.tmp 2], 22⟩ := ⟨c24, F24, by kernel_rfl⟩

def p61_r0 : List PI := [
  ⟨none, some 6, [], .eff fun e => ret (.v (Value.bool false))⟩]
def p61_r1 : List PI := [
  ⟨none, some 7, [0], .eff fun e => ret (e 0)⟩,
  ⟨none, some 8, [1], .eff fun e => ret (e 1)⟩,
  ⟨none, some 9, [7, 8], .eff fun e => effIb (BinOp.geq) (e 7) (e 8)⟩,
  ⟨none, some 10, [9], .eff fun e => ret (e 9)⟩,
  ⟨some (10, true), some 11, [0], .eff fun e => ret (e 0)⟩,
  ⟨some (10, true), some 12, [2], .eff fun e => ret (e 2)⟩,
  ⟨some (10, true), some 13, [11, 12], .eff fun e => effIb (BinOp.leq) (e 11) (e 12)⟩,
  ⟨none, some 14, [10, 13], .eff fun e => effPick (e 10) (e 13) (.v (Value.bool false))⟩,
  ⟨none, some 6, [14], .eff fun e => ret (e 14)⟩]
def p61 : PCode := (.seq (.reg p61_r0 [0, 1, 2]) (.seq (.reg p61_r1 [6]) .ret))
theorem P61 : PFn Try.prog 61 ⟨p61, [SRes.tmp 6], 15⟩ := ⟨c61, F61, by kernel_rfl⟩

def p18_r0 : List PI := [
  ⟨none, some 2, [], .eff fun e => ret (.v (Value.int (IntKind.i64) 0))⟩,
  ⟨none, some 3, [], .eff fun e => ret (.v (Value.int (IntKind.i64) 0))⟩,
  ⟨none, some 4, [], .eff fun e => ret (.v (Value.int (IntKind.i64) 0))⟩]
def p18_r1 : List PI := [
  ⟨none, some 10, [0], .eff fun e => ret (e 0)⟩,
  ⟨none, some 11, [10], .call 24 ([Operand.tmp 10])⟩,
  ⟨none, some 5, [11], .eff fun e => ret (e 11)⟩]
def p18_r2 : List PI := [
  ⟨none, some 12, [5], .eff fun e => ret (e 5)⟩,
  ⟨none, some 13, [12], .eff fun e => effIb (BinOp.neq) (e 12) (.v (Value.int (IntKind.i64) 0))⟩]
def p18_r3 : List PI := [
  ⟨none, some 14, [5], .eff fun e => ret (e 5)⟩,
  ⟨none, some 2, [], .eff fun e => ret (.v (Value.int (IntKind.i64) 0))⟩,
  ⟨none, some 3, [], .eff fun e => ret (.v (Value.int (IntKind.i64) 0))⟩,
  ⟨none, some 4, [14], .eff fun e => ret (e 14)⟩]
def p18_r4 : List PI := [
  ⟨none, some 6, [], .eff fun e => ret (.v (Value.int (IntKind.i64) 0))⟩,
  ⟨none, some 7, [], .eff fun e => ret (.v (Value.int (IntKind.i64) 840))⟩]
def p18_r5 : List PI := [
  ⟨none, some 8, [], .eff fun e => ret (.v (Value.int (IntKind.i64) 0))⟩]
def p18_r6 : List PI := [
  ⟨none, some 15, [8], .eff fun e => ret (e 8)⟩,
  ⟨none, some 16, [0], .eff fun e => ret (e 0)⟩,
  ⟨none, some 17, [16], .eff fun e => effLenSl (e 16)⟩,
  ⟨none, some 18, [15, 17], .eff fun e => effIb (BinOp.lss) (e 15) (e 17)⟩]
def p18_r7 : List PI := [
  ⟨none, some 21, [6], .eff fun e => ret (e 6)⟩,
  ⟨none, some 22, [0], .eff fun e => ret (e 0)⟩,
  ⟨none, some 23, [8], .eff fun e => ret (e 8)⟩,
  ⟨none, some 24, [22, 23], .eff fun e => effIdx 1 (e 22) (e 23)⟩,
  ⟨none, some 25, [24], .eff fun e => effLoad1 (e 24)⟩,
  ⟨none, some 26, [25], .eff fun e => effIb (BinOp.quo) (.v (Value.int (IntKind.i64) 840)) (e 25)⟩,
  ⟨none, some 27, [21, 26], .eff fun e => effIb (BinOp.add) (e 21) (e 26)⟩,
  ⟨none, some 6, [27], .eff fun e => ret (e 27)⟩]
def p18_r8 : List PI := [
  ⟨none, some 19, [8], .eff fun e => ret (e 8)⟩,
  ⟨none, some 20, [19], .eff fun e => effIb (BinOp.add) (e 19) (.v (Value.int (IntKind.i64) 1))⟩,
  ⟨none, some 8, [20], .eff fun e => ret (e 20)⟩]
def p18_l0 : PCode := (.seq (.seq (.reg p18_r6 [0, 6, 7, 8, 18]) (.cond (Operand.tmp 18) .skip (.exit 0))) (.seq (.block 1 (.reg p18_r7 [0, 6, 7, 8])) (.reg p18_r8 [0, 6, 7, 8])))
def p18_r9 : List PI := [
  ⟨none, some 9, [], .eff fun e => ret (.v (Value.int (IntKind.i64) 840))⟩]
def p18_r10 : List PI := [
  ⟨none, some 28, [9], .eff fun e => ret (e 9)⟩,
  ⟨none, some 29, [28], .eff fun e => effIb (BinOp.gtr) (e 28) (.v (Value.int (IntKind.i64) 1))⟩]
def p18_r11 : List PI := [
  ⟨none, some 32, [6], .eff fun e => ret (e 6)⟩,
  ⟨none, some 33, [9], .eff fun e => ret (e 9)⟩,
  ⟨none, some 34, [32, 33], .eff fun e => effIb (BinOp.rem) (e 32) (e 33)⟩,
  ⟨none, some 35, [34], .eff fun e => effIb (BinOp.eql) (e 34) (.v (Value.int (IntKind.i64) 0))⟩,
  ⟨none, some 36, [35], .eff fun e => ret (e 35)⟩,
  ⟨some (36, true), some 37, [7], .eff fun e => ret (e 7)⟩,
  ⟨some (36, true), some 38, [9], .eff fun e => ret (e 9)⟩,
  ⟨some (36, true), some 39, [37, 38], .eff fun e => effIb (BinOp.rem) (e 37) (e 38)⟩,
  ⟨some (36, true), some 40, [39], .eff fun e => effIb (BinOp.eql) (e 39) (.v (Value.int (IntKind.i64) 0))⟩,
  ⟨none, some 41, [36, 40], .eff fun e => effPick (e 36) (e 40) (.v (Value.bool false))⟩]
def p18_r12 : List PI := [
  ⟨none, some 42, [6], .eff fun e => ret (e 6)⟩,
  ⟨none, some 43, [9], .eff fun e => ret (e 9)⟩,
  ⟨none, some 44, [42, 43], .eff fun e => effIb (BinOp.quo) (e 42) (e 43)⟩,
  ⟨none, some 45, [7], .eff fun e => ret (e 7)⟩,
  ⟨none, some 46, [9], .eff fun e => ret (e 9)⟩,
  ⟨none, some 47, [45, 46], .eff fun e => effIb (BinOp.quo) (e 45) (e 46)⟩,
  ⟨none, some 6, [44], .eff fun e => ret (e 44)⟩,
  ⟨none, some 7, [47], .eff fun e => ret (e 47)⟩]
def p18_r13 : List PI := [
  ⟨none, some 30, [9], .eff fun e => ret (e 9)⟩,
  ⟨none, some 31, [30], .eff fun e => effIb (BinOp.sub) (e 30) (.v (Value.int (IntKind.i64) 1))⟩,
  ⟨none, some 9, [31], .eff fun e => ret (e 31)⟩]
def p18_l1 : PCode := (.seq (.seq (.reg p18_r10 [6, 7, 9, 29]) (.cond (Operand.tmp 29) .skip (.exit 2))) (.seq (.block 3 (.seq (.reg p18_r11 [6, 7, 9, 41]) (.cond (Operand.tmp 41) (.draw p18_r12 [[], [], [0, 1], [], [], [3, 4], [2, 0, 1, 2, 0, 1, 0, 1], [5, 6, 0, 1, 2, 3, 4, 5, 6, 3, 4, 2, 0, 1, 2, 0, 1, 0, 1, 0, 1, 3, 4, 2, 0, 1, 2, 0, 1, 0, 1]] [6, 7, 9]) .skip))) (.reg p18_r13 [6, 7, 9])))
def p18_r14 : List PI := [
  ⟨none, some 48, [6], .eff fun e => ret (e 6)⟩,
  ⟨none, some 49, [7], .eff fun e => ret (e 7)⟩,
  ⟨none, some 2, [48], .eff fun e => ret (e 48)⟩,
  ⟨none, some 3, [49], .eff fun e => ret (e 49)⟩,
  ⟨none, some 4, [], .eff fun e => ret (.v (Value.int (IntKind.i64) 0))⟩]
def p18 : PCode := (.seq (.reg p18_r0 [0]) (.seq (.reg p18_r1 [0, 5]) (.seq (.seq (.reg p18_r2 [0, 5, 13]) (.cond (Operand.tmp 13) (.seq (.reg p18_r3 [2, 3, 4]) .ret) .skip)) (.seq (.reg p18_r4 [0, 6, 7]) (.seq (.seq (.reg p18_r5 [0, 6, 7, 8]) (.block 0 (.loop p18_l0))) (.seq (.seq (.reg p18_r9 [6, 7, 9]) (.block 2 (.loop p18_l1))) (.seq (.reg p18_r14 [2, 3, 4]) .ret)))))))
theorem P18 : PFn Try.prog 18 ⟨p18, [SRes.tmp 2, SRes.tmp 3, SRes.tmp 4], 50⟩ := ⟨c18, F18, by kernel_rfl⟩

def p77_r0 : List PI := [
  ⟨none, some 4, [1], .eff fun e => effBox (e 1)⟩,
  ⟨none, some 6, [], .eff fun e => effAlloc ([Value.int (IntKind.i64) 0, Value.int (IntKind.i64) 0, Value.int (IntKind.i64) 0, Value.int (IntKind.i64) 0])⟩,
  ⟨none, some 7, [], .eff fun e => ret (.v (Value.bool false))⟩]
def p77_r1 : List PI := [
  ⟨none, some 9, [0], .eff fun e => ret (e 0)⟩,
  ⟨none, some 10, [9], .eff fun e => effNilck (e 9)⟩,
  ⟨none, some 11, [10], .eff fun e => effOff 0 (e 10)⟩,
  ⟨none, some 12, [11], .eff fun e => effLoad1 (e 11)⟩,
  ⟨none, some 13, [12], .eff fun e => effLenSl (e 12)⟩,
  ⟨none, some 14, [], .eff fun e => ret (.v (Value.int (IntKind.i64) 0))⟩]
def p77_r2 : List PI := [
  ⟨none, some 15, [14, 13], .eff fun e => effIb (BinOp.lss) (e 14) (e 13)⟩]
def p77_r3 : List PI := [
  ⟨none, some 16, [14], .eff fun e => ret (e 14)⟩,
  ⟨none, some 8, [16], .eff fun e => ret (e 16)⟩]
def p77_r4 : List PI := [
  ⟨none, some 17, [8], .eff fun e => ret (e 8)⟩,
  ⟨none, some 18, [4, 17], .eff fun e => effIdxA 4 1 (e 4) (e 17)⟩,
  ⟨none, some 19, [18], .eff fun e => effLoad1 (e 18)⟩,
  ⟨none, some 20, [19], .eff fun e => effIb (BinOp.sub) (e 19) (.v (Value.int (IntKind.i64) 1))⟩,
  ⟨none, some 21, [4, 17], .eff fun e => effIdxA 4 1 (e 4) (e 17)⟩,
  ⟨none, none, [21, 20], .eff fun e => effStore 1 (e 21) (e 20)⟩]
def p77_r5 : List PI := [
  ⟨none, some 22, [8], .eff fun e => ret (e 8)⟩,
  ⟨none, some 23, [2], .eff fun e => ret (e 2)⟩,
  ⟨none, some 24, [22, 23], .eff fun e => effIb (BinOp.neq) (e 22) (e 23)⟩,
  ⟨none, some 25, [24], .eff fun e => ret (e 24)⟩,
  ⟨some (25, true), some 26, [8], .eff fun e => ret (e 8)⟩,
  ⟨some (25, true), some 27, [4, 26], .eff fun e => effIdxA 4 1 (e 4) (e 26)⟩,
  ⟨some (25, true), some 28, [27], .eff fun e => effLoad1 (e 27)⟩,
  ⟨some (25, true), some 29, [28], .eff fun e => effIb (BinOp.eql) (e 28) (.v (Value.int (IntKind.i64) 0))⟩,
  ⟨none, some 30, [25, 29], .eff fun e => effPick (e 25) (e 29) (.v (Value.bool false))⟩]
def p77_r6 : List PI := [
  ⟨none, some 31, [], .eff fun e => effBuild ([Value.int (IntKind.i64) 0, Value.int (IntKind.i64) 0, Value.int (IntKind.i64) 0, Value.int (IntKind.i64) 0]) []⟩,
  ⟨none, none, [6, 31], .eff fun e => effStore 4 (e 6) (e 31)⟩,
  ⟨none, some 7, [], .eff fun e => ret (.v (Value.bool false))⟩]
def p77_r7 : List PI := [
  ⟨none, some 32, [14], .eff fun e => effIb (BinOp.add) (e 14) (.v (Value.int (IntKind.i64) 1))⟩,
  ⟨none, some 14, [32], .eff fun e => ret (e 32)⟩]
def p77_l0 : PCode := (.seq (.reg p77_r2 [0, 2, 4, 6, 13, 14, 15]) (.seq (.cond (Operand.tmp 15) .skip (.exit 0)) (.seq (.block 1 (.seq (.reg p77_r3 [0, 2, 4, 6, 8, 13, 14]) (.seq (.reg p77_r4 [0, 2, 4, 6, 8, 13, 14]) (.seq (.reg p77_r5 [0, 2, 4, 6, 13, 14, 30]) (.cond (Operand.tmp 30) (.seq (.reg p77_r6 [6, 7]) .ret) .skip))))) (.reg p77_r7 [0, 2, 4, 6, 13, 14]))))
def p77_r8 : List PI := [
  ⟨none, some 33, [2], .eff fun e => ret (e 2)⟩,
  ⟨none, some 34, [0], .eff fun e => ret (e 0)⟩,
  ⟨none, some 35, [34], .eff fun e => effNilck (e 34)⟩,
  ⟨none, some 36, [35], .eff fun e => effOff 0 (e 35)⟩,
  ⟨none, some 37, [36], .eff fun e => effLoad1 (e 36)⟩,
  ⟨none, some 38, [2], .eff fun e => ret (e 2)⟩,
  ⟨none, some 39, [37, 38], .eff fun e => effIdx 1 (e 37) (e 38)⟩,
  ⟨none, some 40, [39], .eff fun e => effLoad1 (e 39)⟩,
  ⟨none, some 41, [4, 33], .eff fun e => effIdxA 4 1 (e 4) (e 33)⟩,
  ⟨none, none, [41, 40], .eff fun e => effStore 1 (e 41) (e 40)⟩]
def p77_r9 : List PI := [
  ⟨none, some 42, [4], .eff fun e => effLoadN 4 (e 4)⟩,
  ⟨none, none, [6, 42], .eff fun e => effStore 4 (e 6) (e 42)⟩,
  ⟨none, some 7, [], .eff fun e => ret (.v (Value.bool true))⟩]
def p77 : PCode := (.seq (.reg p77_r0 [0, 2, 4, 6]) (.seq (.seq (.reg p77_r1 [0, 2, 4, 6, 13, 14]) (.block 0 (.loop p77_l0))) (.seq (.reg p77_r8 [4, 6]) (.seq (.reg p77_r9 [6, 7]) .ret))))
theorem P77 : PFn Try.prog 77 ⟨p77, [SRes.cell 6 (some 4), SRes.tmp 7], 43⟩ := ⟨c77, F77, by kernel_rfl⟩

def p55_r0 : List PI := [
  ⟨none, some 3, [1], .eff fun e => effBox (e 1)⟩,
  ⟨none, some 4, [], .eff fun e => ret (.v (Value.bool false))⟩]
def p55_r1 : List PI := [
  ⟨none, some 12, [0], .eff fun e => ret (e 0)⟩,
  ⟨none, some 13, [12], .eff fun e => effNilck (e 12)⟩,
  ⟨none, some 14, [13], .eff fun e => effOff 5 (e 13)⟩,
  ⟨none, some 15, [14], .eff fun e => effLoad1 (e 14)⟩,
  ⟨none, some 16, [3], .eff fun e => effLoadN 4 (e 3)⟩,
  ⟨none, some 17, [15, 16], .eff fun e => effLook (KTy.ar 4 (IntKind.i64)) (Value.bool false) true (e 15) (e 16)⟩,
  ⟨none, some 11, [17], .eff fun e => ret (e 17)⟩,
  ⟨none, some 18, [11], .eff fun e => effExt 0 (e 11)⟩,
  ⟨none, some 19, [11], .eff fun e => effExt 1 (e 11)⟩,
  ⟨none, some 5, [18], .eff fun e => ret (e 18)⟩,
  ⟨none, some 6, [19], .eff fun e => ret (e 19)⟩]
def p55_r2 : List PI := [
  ⟨none, some 20, [6], .eff fun e => ret (e 6)⟩]
def p55_r3 : List PI := [
  ⟨none, some 21, [5], .eff fun e => ret (e 5)⟩,
  ⟨none, some 4, [21], .eff fun e => ret (e 21)⟩]
def p55_r4 : List PI := [
  ⟨none, some 22, [0], .eff fun e => ret (e 0)⟩,
  ⟨none, some 23, [22], .eff fun e => effNilck (e 22)⟩,
  ⟨none, some 24, [23], .eff fun e => effOff 5 (e 23)⟩,
  ⟨none, some 25, [24], .eff fun e => effLoad1 (e 24)⟩,
  ⟨none, some 26, [3], .eff fun e => effLoadN 4 (e 3)⟩,
  ⟨none, none, [25, 26], .eff fun e => effMset (KTy.ar 4 (IntKind.i64)) (e 25) (e 26) (.v (Value.bool true))⟩]
def p55_r5 : List PI := [
  ⟨none, some 7, [], .eff fun e => ret (.v (Value.int (IntKind.i64) 0))⟩]
def p55_r6 : List PI := [
  ⟨none, some 27, [0], .eff fun e => ret (e 0)⟩,
  ⟨none, some 28, [27], .eff fun e => effNilck (e 27)⟩,
  ⟨none, some 29, [28], .eff fun e => effOff 0 (e 28)⟩,
  ⟨none, some 30, [29], .eff fun e => effLoad1 (e 29)⟩,
  ⟨none, some 31, [30], .eff fun e => effLenSl (e 30)⟩,
  ⟨none, some 32, [], .eff fun e => ret (.v (Value.int (IntKind.i64) 0))⟩]
def p55_r7 : List PI := [
  ⟨none, some 33, [32, 31], .eff fun e => effIb (BinOp.lss) (e 32) (e 31)⟩]
def p55_r8 : List PI := [
  ⟨none, some 34, [32], .eff fun e => ret (e 32)⟩,
  ⟨none, some 8, [34], .eff fun e => ret (e 34)⟩]
def p55_r9 : List PI := [
  ⟨none, some 36, [0], .eff fun e => ret (e 0)⟩,
  ⟨none, some 37, [3], .eff fun e => effLoadN 4 (e 3)⟩,
  ⟨none, some 38, [8], .eff fun e => ret (e 8)⟩,
  ⟨none, some 39, [36, 37, 38], .call 77 ([Operand.tmp 36, Operand.tmp 37, Operand.tmp 38])⟩,
  ⟨none, some 35, [39], .eff fun e => ret (e 39)⟩,
  ⟨none, some 40, [35], .eff fun e => effExt 0 (e 35)⟩,
  ⟨none, some 41, [35], .eff fun e => effExt 1 (e 35)⟩,
  ⟨none, some 9, [], .eff fun e => effAlloc ([Value.int (IntKind.i64) 0, Value.int (IntKind.i64) 0, Value.int (IntKind.i64) 0, Value.int (IntKind.i64) 0])⟩,
  ⟨none, none, [9, 40], .eff fun e => effStore 4 (e 9) (e 40)⟩,
  ⟨none, some 10, [41], .eff fun e => ret (e 41)⟩]
def p55_r10 : List PI := [
  ⟨none, some 42, [10], .eff fun e => ret (e 10)⟩,
  ⟨none, some 43, [42], .eff fun e => effNt (e 42)⟩]
def p55_r11 : List PI := [
  ⟨none, some 44, [0], .eff fun e => ret (e 0)⟩,
  ⟨none, some 45, [9], .eff fun e => effLoadN 4 (e 9)⟩,
  ⟨none, some 46, [44, 45], .call 55 ([Operand.tmp 44, Operand.tmp 45])⟩]
def p55_r12 : List PI := [
  ⟨none, some 4, [], .eff fun e => ret (.v (Value.bool true))⟩]
def p55_r13 : List PI := [
  ⟨none, some 47, [7], .eff fun e => ret (e 7)⟩,
  ⟨none, some 48, [0], .eff fun e => ret (e 0)⟩,
  ⟨none, some 49, [48], .eff fun e => effNilck (e 48)⟩,
  ⟨none, some 50, [49], .eff fun e => effOff 6 (e 49)⟩,
  ⟨none, some 51, [50], .eff fun e => effLoad1 (e 50)⟩,
  ⟨none, some 52, [9], .eff fun e => effLoadN 4 (e 9)⟩,
  ⟨none, some 53, [51, 52], .eff fun e => effLook (KTy.ar 4 (IntKind.i64)) (Value.int (IntKind.i64) 0) false (e 51) (e 52)⟩,
  ⟨none, some 54, [53], .eff fun e => effIb (BinOp.add) (.v (Value.int (IntKind.i64) 1)) (e 53)⟩,
  ⟨none, some 55, [47, 54], .eff fun e => effBig true [(e 47), (e 54)]⟩,
  ⟨none, some 7, [55], .eff fun e => ret (e 55)⟩]
def p55_r14 : List PI := [
  ⟨none, some 56, [32], .eff fun e => effIb (BinOp.add) (e 32) (.v (Value.int (IntKind.i64) 1))⟩,
  ⟨none, some 32, [56], .eff fun e => ret (e 56)⟩]
def p55_l0 : PCode := (.seq (.reg p55_r7 [0, 3, 7, 31, 32, 33]) (.seq (.cond (Operand.tmp 33) .skip (.exit 0)) (.seq (.block 1 (.seq (.reg p55_r8 [0, 3, 7, 8, 31, 32]) (.seq (.reg p55_r9 [0, 3, 7, 9, 10, 31, 32]) (.seq (.seq (.reg p55_r10 [0, 3, 7, 9, 31, 32, 43]) (.cond (Operand.tmp 43) (.exit 1) .skip)) (.seq (.seq (.reg p55_r11 [0, 3, 7, 9, 31, 32, 46]) (.cond (Operand.tmp 46) (.seq (.reg p55_r12 [4]) .ret) .skip)) (.draw p55_r13 [[], [], [1], [2, 1], [3, 2, 1], [], [4, 5, 3, 2, 1], [6, 4, 5, 3, 2, 1], [0, 7, 6, 4, 5, 3, 2, 1], [8, 0, 1, 2, 3, 4, 5, 6, 7, 8, 0, 7, 6, 4, 5, 3, 2, 1, 1, 2, 1, 3, 2, 1, 4, 5, 3, 2, 1, 6, 4, 5, 3, 2, 1, 0, 7, 6, 4, 5, 3, 2, 1]] [0, 3, 7, 31, 32])))))) (.reg p55_r14 [0, 3, 7, 31, 32]))))
def p55_r15 : List PI := [
  ⟨none, some 57, [0], .eff fun e => ret (e 0)⟩,
  ⟨none, some 58, [57], .eff fun e => effNilck (e 57)⟩,
  ⟨none, some 59, [58], .eff fun e => effOff 5 (e 58)⟩,
  ⟨none, some 60, [59], .eff fun e => effLoad1 (e 59)⟩,
  ⟨none, some 61, [3], .eff fun e => effLoadN 4 (e 3)⟩,
  ⟨none, some 62, [0], .eff fun e => ret (e 0)⟩,
  ⟨none, some 63, [62], .eff fun e => effNilck (e 62)⟩,
  ⟨none, some 64, [63], .eff fun e => effOff 6 (e 63)⟩,
  ⟨none, some 65, [64], .eff fun e => effLoad1 (e 64)⟩,
  ⟨none, some 66, [3], .eff fun e => effLoadN 4 (e 3)⟩,
  ⟨none, some 67, [7], .eff fun e => ret (e 7)⟩,
  ⟨none, some 68, [60, 61], .eff fun e => effMent (KTy.ar 4 (IntKind.i64)) (Value.bool false) (e 60) (e 61)⟩,
  ⟨none, some 69, [68], .eff fun e => effExt 1 (e 68)⟩,
  ⟨none, none, [60, 69], .eff fun e => effMst (e 60) (e 69) (.v (Value.bool false))⟩,
  ⟨none, some 70, [65, 66], .eff fun e => effMent (KTy.ar 4 (IntKind.i64)) (Value.int (IntKind.i64) 0) (e 65) (e 66)⟩,
  ⟨none, some 71, [70], .eff fun e => effExt 1 (e 70)⟩,
  ⟨none, none, [65, 71, 67], .eff fun e => effMst (e 65) (e 71) (e 67)⟩]
def p55_r16 : List PI := [
  ⟨none, some 4, [], .eff fun e => ret (.v (Value.bool false))⟩]
def p55 : PCode := (.seq (.reg p55_r0 [0, 3]) (.seq (.seq (.draw p55_r1 [[], [0], [1, 0], [2, 1, 0], [], [3, 4, 2, 1, 0], [5, 3, 4, 2, 1, 0], [6, 5, 3, 4, 2, 1, 0], [6, 5, 3, 4, 2, 1, 0], [7, 0, 1, 2, 3, 4, 5, 6, 7, 6, 5, 3, 4, 2, 1, 0, 0, 1, 0, 2, 1, 0, 3, 4, 2, 1, 0, 5, 3, 4, 2, 1, 0, 6, 5, 3, 4, 2, 1, 0], [8, 9, 0, 1, 2, 3, 4, 5, 6, 7, 8, 9, 6, 5, 3, 4, 2, 1, 0, 7, 0, 1, 2, 3, 4, 5, 6, 7, 6, 5, 3, 4, 2, 1, 0, 0, 1, 0, 2, 1, 0, 3, 4, 2, 1, 0, 5, 3, 4, 2, 1, 0, 6, 5, 3, 4, 2, 1, 0, 0, 1, 0, 2, 1, 0, 3, 4, 2, 1, 0, 5, 3, 4, 2, 1, 0, 6, 5, 3, 4, 2, 1, 0, 6, 5, 3, 4, 2, 1, 0, 7, 0, 1, 2, 3, 4, 5, 6, 7, 6, 5, 3, 4, 2, 1, 0, 0, 1, 0, 2, 1, 0, 3, 4, 2, 1, 0, 5, 3, 4, 2, 1, 0, 6, 5, 3, 4, 2, 1, 0]] [0, 3, 5, 6]) (.seq (.reg p55_r2 [0, 3, 5, 20]) (.cond (Operand.tmp 20) (.seq (.reg p55_r3 [4]) .ret) .skip))) (.seq (.draw p55_r4 [[], [0], [1, 0], [2, 1, 0], [], [3, 4, 0, 1, 2, 3, 4, 2, 1, 0, 0, 1, 0, 2, 1, 0]] [0, 3]) (.seq (.reg p55_r5 [0, 3, 7]) (.seq (.seq (.reg p55_r6 [0, 3, 7, 31, 32]) (.block 0 (.loop p55_l0))) (.seq (.draw p55_r15 [[], [0], [1, 0], [2, 1, 0], [], [], [5], [6, 5], [7, 6, 5], [], [], [3, 4, 8, 2, 1, 0, 7, 6, 5], [11, 3, 4, 8, 2, 1, 0, 7, 6, 5], [3, 12, 11, 0, 1, 2, 3, 4, 8, 11, 2, 1, 0, 11, 3, 4, 8, 2, 1, 0, 7, 6, 5, 3, 4, 8, 2, 1, 0, 7, 6, 5, 0, 1, 0, 2, 1, 0, 7, 6, 5, 3, 4, 8, 2, 1, 0, 7, 6, 5], [8, 9, 13, 0, 1, 2, 3, 4, 8, 11, 12, 13, 7, 6, 5, 3, 12, 11, 0, 1, 2, 3, 4, 8, 11, 2, 1, 0, 11, 3, 4, 8, 2, 1, 0, 7, 6, 5, 3, 4, 8, 2, 1, 0, 7, 6, 5, 0, 1, 0, 2, 1, 0, 7, 6, 5, 3, 4, 8, 2, 1, 0, 7, 6, 5, 0, 1, 0, 2, 1, 0, 7, 6, 5, 3, 4, 8, 2, 1, 0, 7, 6, 5, 11, 3, 4, 8, 2, 1, 0, 7, 6, 5, 3, 12, 11, 0, 1, 2, 3, 4, 8, 11, 2, 1, 0, 11, 3, 4, 8, 2, 1, 0, 7, 6, 5, 3, 4, 8, 2, 1, 0, 7, 6, 5, 0, 1, 0, 2, 1, 0, 7, 6, 5, 3, 4, 8, 2, 1, 0, 7, 6, 5], [14, 8, 9, 13, 0, 1, 2, 3, 4, 8, 11, 12, 13, 7, 6, 5, 3, 12, 11, 0, 1, 2, 3, 4, 8, 11, 2, 1, 0, 11, 3, 4, 8, 2, 1, 0, 7, 6, 5, 3, 4, 8, 2, 1, 0, 7, 6, 5, 0, 1, 0, 2, 1, 0, 7, 6, 5, 3, 4, 8, 2, 1, 0, 7, 6, 5, 0, 1, 0, 2, 1, 0, 7, 6, 5, 3, 4, 8, 2, 1, 0, 7, 6, 5, 11, 3, 4, 8, 2, 1, 0, 7, 6, 5, 3, 12, 11, 0, 1, 2, 3, 4, 8, 11, 2, 1, 0, 11, 3, 4, 8, 2, 1, 0, 7, 6, 5, 3, 4, 8, 2, 1, 0, 7, 6, 5, 0, 1, 0, 2, 1, 0, 7, 6, 5, 3, 4, 8, 2, 1, 0, 7, 6, 5], [8, 15, 10, 14, 0, 1, 2, 3, 4, 5, 6, 7, 8, 9, 10, 11, 12, 13, 14, 7, 6, 5, 14, 8, 9, 13, 0, 1, 2, 3, 4, 8, 11, 12, 13, 7, 6, 5, 3, 12, 11, 0, 1, 2, 3, 4, 8, 11, 2, 1, 0, 11, 3, 4, 8, 2, 1, 0, 7, 6, 5, 3, 4, 8, 2, 1, 0, 7, 6, 5, 0, 1, 0, 2, 1, 0, 7, 6, 5, 3, 4, 8, 2, 1, 0, 7, 6, 5, 0, 1, 0, 2, 1, 0, 7, 6, 5, 3, 4, 8, 2, 1, 0, 7, 6, 5, 11, 3, 4, 8, 2, 1, 0, 7, 6, 5, 3, 12, 11, 0, 1, 2, 3, 4, 8, 11, 2, 1, 0, 11, 3, 4, 8, 2, 1, 0, 7, 6, 5, 3, 4, 8, 2, 1, 0, 7, 6, 5, 0, 1, 0, 2, 1, 0, 7, 6, 5, 3, 4, 8, 2, 1, 0, 7, 6, 5, 8, 9, 13, 0, 1, 2, 3, 4, 8, 11, 12, 13, 7, 6, 5, 3, 12, 11, 0, 1, 2, 3, 4, 8, 11, 2, 1, 0, 11, 3, 4, 8, 2, 1, 0, 7, 6, 5, 3, 4, 8, 2, 1, 0, 7, 6, 5, 0, 1, 0, 2, 1, 0, 7, 6, 5, 3, 4, 8, 2, 1, 0, 7, 6, 5, 0, 1, 0, 2, 1, 0, 7, 6, 5, 3, 4, 8, 2, 1, 0, 7, 6, 5, 11, 3, 4, 8, 2, 1, 0, 7, 6, 5, 3, 12, 11, 0, 1, 2, 3, 4, 8, 11, 2, 1, 0, 11, 3, 4, 8, 2, 1, 0, 7, 6, 5, 3, 4, 8, 2, 1, 0, 7, 6, 5, 0, 1, 0, 2, 1, 0, 7, 6, 5, 3, 4, 8, 2, 1, 0, 7, 6, 5, 0, 1, 0, 2, 1, 0, 5, 6, 5, 7, 6, 5, 3, 4, 8, 2, 1, 0, 7, 6, 5, 11, 3, 4, 8, 2, 1, 0, 7, 6, 5, 3, 12, 11, 0, 1, 2, 3, 4, 8, 11, 2, 1, 0, 11, 3, 4, 8, 2, 1, 0, 7, 6, 5, 3, 4, 8, 2, 1, 0, 7, 6, 5, 0, 1, 0, 2, 1, 0, 7, 6, 5, 3, 4, 8, 2, 1, 0, 7, 6, 5, 8, 9, 13, 0, 1, 2, 3, 4, 8, 11, 12, 13, 7, 6, 5, 3, 12, 11, 0, 1, 2, 3, 4, 8, 11, 2, 1, 0, 11, 3, 4, 8, 2, 1, 0, 7, 6, 5, 3, 4, 8, 2, 1, 0, 7, 6, 5, 0, 1, 0, 2, 1, 0, 7, 6, 5, 3, 4, 8, 2, 1, 0, 7, 6, 5, 0, 1, 0, 2, 1, 0, 7, 6, 5, 3, 4, 8, 2, 1, 0, 7, 6, 5, 11, 3, 4, 8, 2, 1, 0, 7, 6, 5, 3, 12, 11, 0, 1, 2, 3, 4, 8, 11, 2, 1, 0, 11, 3, 4, 8, 2, 1, 0, 7, 6, 5, 3, 4, 8, 2, 1, 0, 7, 6, 5, 0, 1, 0, 2, 1, 0, 7, 6, 5, 3, 4, 8, 2, 1, 0, 7, 6, 5]] []) (.seq (.reg p55_r16 [4]) .ret)))))))
theorem P55 : PFn Try.prog 55 ⟨p55, [SRes.tmp 4], 72⟩ := ⟨c55, F55, by kernel_rfl⟩

def p54_r0 : List PI := [
  ⟨none, some 2, [], .eff fun e => ret (.v (Value.pointer none))⟩]
def p54_r1 : List PI := [
  ⟨none, some 4, [0], .eff fun e => ret (e 0)⟩,
  ⟨none, some 5, [], .eff fun e => effMkmap⟩,
  ⟨none, some 6, [], .eff fun e => effMkmap⟩,
  ⟨none, some 7, [4, 5, 6], .eff fun e => effBuild ([Value.slice none 0 0, Value.int (IntKind.i64) 0, Value.int (IntKind.i64) 0, Value.int (IntKind.i64) 0, Value.int (IntKind.i64) 0, Value.map none, Value.map none]) [(0, 1, (e 4)), (5, 1, (e 5)), (6, 1, (e 6))]⟩,
  ⟨none, some 8, [7], .eff fun e => effBox (e 7)⟩,
  ⟨none, some 3, [8], .eff fun e => ret (e 8)⟩]
def p54_r2 : List PI := [
  ⟨none, some 9, [3], .eff fun e => ret (e 3)⟩,
  ⟨none, some 10, [9], .eff fun e => effNilck (e 9)⟩,
  ⟨none, some 11, [10], .eff fun e => effOff 1 (e 10)⟩,
  ⟨none, some 12, [11], .eff fun e => effSlcA 4 1 (e 11) none none none⟩,
  ⟨none, some 13, [0], .eff fun e => ret (e 0)⟩,
  ⟨none, some 14, [12, 13], .eff fun e => effCopy 1 (e 12) (e 13)⟩]
def p54_r3 : List PI := [
  ⟨none, some 15, [3], .eff fun e => ret (e 3)⟩,
  ⟨none, some 2, [15], .eff fun e => ret (e 15)⟩]
def p54 : PCode := (.seq (.reg p54_r0 [0]) (.seq (.reg p54_r1 [0, 3]) (.seq (.reg p54_r2 [3]) (.seq (.reg p54_r3 [2]) .ret))))
theorem P54 : PFn Try.prog 54 ⟨p54, [SRes.tmp 2], 16⟩ := ⟨c54, F54, by kernel_rfl⟩

def p19_r0 : List PI := [
  ⟨none, some 2, [], .eff fun e => ret (.v (Value.bool false))⟩,
  ⟨none, some 3, [], .eff fun e => ret (.v (Value.int (IntKind.i64) 0))⟩]
def p19_r1 : List PI := [
  ⟨none, some 6, [0], .eff fun e => ret (e 0)⟩,
  ⟨none, some 7, [6], .call 23 ([Operand.tmp 6])⟩,
  ⟨none, some 4, [7], .eff fun e => ret (e 7)⟩]
def p19_r2 : List PI := [
  ⟨none, some 8, [4], .eff fun e => ret (e 4)⟩,
  ⟨none, some 9, [8], .eff fun e => effIb (BinOp.neq) (e 8) (.v (Value.int (IntKind.i64) 0))⟩]
def p19_r3 : List PI := [
  ⟨none, some 10, [4], .eff fun e => ret (e 4)⟩,
  ⟨none, some 2, [], .eff fun e => ret (.v (Value.bool false))⟩,
  ⟨none, some 3, [10], .eff fun e => ret (e 10)⟩]
def p19_r4 : List PI := [
  ⟨none, some 11, [0], .eff fun e => ret (e 0)⟩,
  ⟨none, some 12, [11], .call 54 ([Operand.tmp 11])⟩,
  ⟨none, some 5, [12], .eff fun e => ret (e 12)⟩]
def p19_r5 : List PI := [
  ⟨none, some 13, [5], .eff fun e => ret (e 5)⟩,
  ⟨none, some 14, [5], .eff fun e => ret (e 5)⟩,
  ⟨none, some 15, [14], .eff fun e => effNilck (e 14)⟩,
  ⟨none, some 16, [15], .eff fun e => effOff 1 (e 15)⟩,
  ⟨none, some 17, [16], .eff fun e => effLoadN 4 (e 16)⟩,
  ⟨none, some 18, [13, 17], .call 55 ([Operand.tmp 13, Operand.tmp 17])⟩,
  ⟨none, some 2, [18], .eff fun e => ret (e 18)⟩,
  ⟨none, some 3, [], .eff fun e => ret (.v (Value.int (IntKind.i64) 0))⟩]
def p19 : PCode := (.seq (.reg p19_r0 [0]) (.seq (.seq (.reg p19_r1 [0, 4]) (.seq (.reg p19_r2 [0, 4, 9]) (.cond (Operand.tmp 9) (.seq (.reg p19_r3 [2, 3]) .ret) .skip))) (.seq (.reg p19_r4 [5]) (.seq (.reg p19_r5 [2, 3]) .ret))))
theorem P19 : PFn Try.prog 19 ⟨p19, [SRes.tmp 2, SRes.tmp 3], 19⟩ := ⟨c19, F19, by kernel_rfl⟩

def p21_r0 : List PI := [
  ⟨none, some 2, [], .eff fun e => ret (.v (Value.int (IntKind.i64) 0))⟩,
  ⟨none, some 3, [], .eff fun e => ret (.v (Value.int (IntKind.i64) 0))⟩]
def p21_r1 : List PI := [
  ⟨none, some 6, [0], .eff fun e => ret (e 0)⟩,
  ⟨none, some 7, [6], .call 23 ([Operand.tmp 6])⟩,
  ⟨none, some 4, [7], .eff fun e => ret (e 7)⟩]
def p21_r2 : List PI := [
  ⟨none, some 8, [4], .eff fun e => ret (e 4)⟩,
  ⟨none, some 9, [8], .eff fun e => effIb (BinOp.neq) (e 8) (.v (Value.int (IntKind.i64) 0))⟩]
def p21_r3 : List PI := [
  ⟨none, some 10, [4], .eff fun e => ret (e 4)⟩,
  ⟨none, some 2, [], .eff fun e => ret (.v (Value.int (IntKind.i64) 0))⟩,
  ⟨none, some 3, [10], .eff fun e => ret (e 10)⟩]
def p21_r4 : List PI := [
  ⟨none, some 11, [0], .eff fun e => ret (e 0)⟩,
  ⟨none, some 12, [11], .call 54 ([Operand.tmp 11])⟩,
  ⟨none, some 5, [12], .eff fun e => ret (e 12)⟩]
def p21_r5 : List PI := [
  ⟨none, some 13, [5], .eff fun e => ret (e 5)⟩,
  ⟨none, some 14, [5], .eff fun e => ret (e 5)⟩,
  ⟨none, some 15, [14], .eff fun e => effNilck (e 14)⟩,
  ⟨none, some 16, [15], .eff fun e => effOff 1 (e 15)⟩,
  ⟨none, some 17, [16], .eff fun e => effLoadN 4 (e 16)⟩,
  ⟨none, some 18, [13, 17], .call 55 ([Operand.tmp 13, Operand.tmp 17])⟩]
def p21_r6 : List PI := [
  ⟨none, some 2, [], .eff fun e => ret (.v (Value.int (IntKind.i64) 0))⟩,
  ⟨none, some 3, [], .eff fun e => ret (.v (Value.int (IntKind.i64) 13))⟩]
def p21_r7 : List PI := [
  ⟨none, some 19, [5], .eff fun e => ret (e 5)⟩,
  ⟨none, some 20, [19], .eff fun e => effNilck (e 19)⟩,
  ⟨none, some 21, [20], .eff fun e => effOff 6 (e 20)⟩,
  ⟨none, some 22, [21], .eff fun e => effLoad1 (e 21)⟩,
  ⟨none, some 23, [5], .eff fun e => ret (e 5)⟩,
  ⟨none, some 24, [23], .eff fun e => effNilck (e 23)⟩,
  ⟨none, some 25, [24], .eff fun e => effOff 1 (e 24)⟩,
  ⟨none, some 26, [25], .eff fun e => effLoadN 4 (e 25)⟩,
  ⟨none, some 27, [22, 26], .eff fun e => effLook (KTy.ar 4 (IntKind.i64)) (Value.int (IntKind.i64) 0) false (e 22) (e 26)⟩,
  ⟨none, some 2, [27], .eff fun e => ret (e 27)⟩,
  ⟨none, some 3, [], .eff fun e => ret (.v (Value.int (IntKind.i64) 0))⟩]
def p21 : PCode := (.seq (.reg p21_r0 [0]) (.seq (.seq (.reg p21_r1 [0, 4]) (.seq (.reg p21_r2 [0, 4, 9]) (.cond (Operand.tmp 9) (.seq (.reg p21_r3 [2, 3]) .ret) .skip))) (.seq (.reg p21_r4 [5]) (.seq (.seq (.reg p21_r5 [5, 18]) (.cond (Operand.tmp 18) (.seq (.reg p21_r6 [2, 3]) .ret) .skip)) (.seq (.draw p21_r7 [[], [0], [1, 0], [2, 1, 0], [], [4], [5, 4], [6, 5, 4], [3, 7, 2, 1, 0, 6, 5, 4], [8, 0, 1, 2, 3, 4, 5, 6, 7, 8, 3, 7, 2, 1, 0, 6, 5, 4, 0, 1, 0, 2, 1, 0, 4, 5, 4, 6, 5, 4, 3, 7, 2, 1, 0, 6, 5, 4], [9, 0, 1, 2, 3, 4, 5, 6, 7, 8, 9, 8, 0, 1, 2, 3, 4, 5, 6, 7, 8, 3, 7, 2, 1, 0, 6, 5, 4, 0, 1, 0, 2, 1, 0, 4, 5, 4, 6, 5, 4, 3, 7, 2, 1, 0, 6, 5, 4, 0, 1, 0, 2, 1, 0, 4, 5, 4, 6, 5, 4, 3, 7, 2, 1, 0, 6, 5, 4, 8, 0, 1, 2, 3, 4, 5, 6, 7, 8, 3, 7, 2, 1, 0, 6, 5, 4, 0, 1, 0, 2, 1, 0, 4, 5, 4, 6, 5, 4, 3, 7, 2, 1, 0, 6, 5, 4]] [2, 3]) .ret)))))
theorem P21 : PFn Try.prog 21 ⟨p21, [SRes.tmp 2, SRes.tmp 3], 28⟩ := ⟨c21, F21, by kernel_rfl⟩

def p62_r0 : List PI := [
  ⟨none, some 2, [0], .eff fun e => effBox (e 0)⟩,
  ⟨none, some 4, [], .eff fun e => ret (.v (Value.pointer none))⟩,
  ⟨none, some 5, [], .eff fun e => effAlloc ([Value.int (IntKind.i64) 0, Value.int (IntKind.i64) 0, Value.int (IntKind.i64) 0, Value.int (IntKind.i64) 0])⟩,
  ⟨none, some 6, [], .eff fun e => ret (.v (Value.int (IntKind.i64) 0))⟩]
def p62_r1 : List PI := [
  ⟨none, some 14, [2], .eff fun e => effLoad1 (e 2)⟩,
  ⟨none, some 15, [14], .call 23 ([Operand.tmp 14])⟩,
  ⟨none, some 7, [15], .eff fun e => ret (e 15)⟩]
def p62_r2 : List PI := [
  ⟨none, some 17, [7], .eff fun e => ret (e 7)⟩,
  ⟨none, some 18, [17], .eff fun e => effIb (BinOp.neq) (e 17) (.v (Value.int (IntKind.i64) 0))⟩,
  ⟨none, some 16, [18], .eff fun e => ret (e 18)⟩]
def p62_r3 : List PI := [
  ⟨none, some 19, [], .eff fun e => effBuild ([Value.int (IntKind.i64) 0, Value.int (IntKind.i64) 0, Value.int (IntKind.i64) 0, Value.int (IntKind.i64) 0]) []⟩,
  ⟨none, some 20, [7], .eff fun e => ret (e 7)⟩,
  ⟨none, some 4, [], .eff fun e => ret (.v (Value.pointer none))⟩,
  ⟨none, none, [5, 19], .eff fun e => effStore 4 (e 5) (e 19)⟩,
  ⟨none, some 6, [20], .eff fun e => ret (e 20)⟩]
def p62_r4 : List PI := [
  ⟨none, some 22, [1], .eff fun e => ret (e 1)⟩,
  ⟨none, some 23, [22], .eff fun e => effLenSl (e 22)⟩,
  ⟨none, some 24, [23], .eff fun e => effIb (BinOp.gtr) (e 23) (.v (Value.int (IntKind.i64) 60))⟩,
  ⟨none, some 21, [24], .eff fun e => ret (e 24)⟩]
def p62_r5 : List PI := [
  ⟨none, some 25, [], .eff fun e => effBuild ([Value.int (IntKind.i64) 0, Value.int (IntKind.i64) 0, Value.int (IntKind.i64) 0, Value.int (IntKind.i64) 0]) []⟩,
  ⟨none, some 4, [], .eff fun e => ret (.v (Value.pointer none))⟩,
  ⟨none, none, [5, 25], .eff fun e => effStore 4 (e 5) (e 25)⟩,
  ⟨none, some 6, [], .eff fun e => ret (.v (Value.int (IntKind.i64) 19))⟩]
def p62_r6 : List PI := [
  ⟨none, some 27, [1], .eff fun e => ret (e 1)⟩,
  ⟨none, some 28, [2], .eff fun e => effMkfn (Fn.func 81) [] [(e 2)]⟩,
  ⟨none, some 29, [27, 28], .call 58 ([Operand.tmp 27, Operand.tmp 28])⟩,
  ⟨none, some 26, [29], .eff fun e => ret (e 29)⟩]
def p62_r7 : List PI := [
  ⟨none, some 30, [], .eff fun e => effBuild ([Value.int (IntKind.i64) 0, Value.int (IntKind.i64) 0, Value.int (IntKind.i64) 0, Value.int (IntKind.i64) 0]) []⟩,
  ⟨none, some 4, [], .eff fun e => ret (.v (Value.pointer none))⟩,
  ⟨none, none, [5, 30], .eff fun e => effStore 4 (e 5) (e 30)⟩,
  ⟨none, some 6, [], .eff fun e => ret (.v (Value.int (IntKind.i64) 2))⟩]
def p62_r8 : List PI := [
  ⟨none, some 31, [2], .eff fun e => effLoad1 (e 2)⟩,
  ⟨none, some 32, [31], .call 54 ([Operand.tmp 31])⟩,
  ⟨none, some 8, [32], .eff fun e => ret (e 32)⟩]
def p62_r9 : List PI := [
  ⟨none, some 33, [8], .eff fun e => ret (e 8)⟩,
  ⟨none, some 34, [33], .eff fun e => effNilck (e 33)⟩,
  ⟨none, some 35, [34], .eff fun e => effOff 1 (e 34)⟩,
  ⟨none, some 36, [35], .eff fun e => effLoadN 4 (e 35)⟩,
  ⟨none, some 9, [], .eff fun e => effAlloc ([Value.int (IntKind.i64) 0, Value.int (IntKind.i64) 0, Value.int (IntKind.i64) 0, Value.int (IntKind.i64) 0])⟩,
  ⟨none, none, [9, 36], .eff fun e => effStore 4 (e 9) (e 36)⟩]
def p62_r10 : List PI := [
  ⟨none, some 37, [1], .eff fun e => ret (e 1)⟩,
  ⟨none, some 38, [37], .eff fun e => effLenSl (e 37)⟩,
  ⟨none, some 39, [], .eff fun e => ret (.v (Value.int (IntKind.i64) 0))⟩]
def p62_r11 : List PI := [
  ⟨none, some 40, [39, 38], .eff fun e => effIb (BinOp.lss) (e 39) (e 38)⟩]
def p62_r12 : List PI := [
  ⟨none, some 41, [37, 39], .eff fun e => effIdx 1 (e 37) (e 39)⟩,
  ⟨none, some 42, [41], .eff fun e => effLoad1 (e 41)⟩,
  ⟨none, some 11, [42], .eff fun e => ret (e 42)⟩]
def p62_r13 : List PI := [
  ⟨none, some 44, [8], .eff fun e => ret (e 8)⟩,
  ⟨none, some 45, [9], .eff fun e => effLoadN 4 (e 9)⟩,
  ⟨none, some 46, [11], .eff fun e => ret (e 11)⟩,
  ⟨none, some 47, [44, 45, 46], .call 77 ([Operand.tmp 44, Operand.tmp 45, Operand.tmp 46])⟩,
  ⟨none, some 43, [47], .eff fun e => ret (e 47)⟩,
  ⟨none, some 48, [43], .eff fun e => effExt 0 (e 43)⟩,
  ⟨none, some 49, [43], .eff fun e => effExt 1 (e 43)⟩,
  ⟨none, some 12, [], .eff fun e => effAlloc ([Value.int (IntKind.i64) 0, Value.int (IntKind.i64) 0, Value.int (IntKind.i64) 0, Value.int (IntKind.i64) 0])⟩,
  ⟨none, none, [12, 48], .eff fun e => effStore 4 (e 12) (e 48)⟩,
  ⟨none, some 13, [49], .eff fun e => ret (e 49)⟩]
def p62_r14 : List PI := [
  ⟨none, some 50, [13], .eff fun e => ret (e 13)⟩,
  ⟨none, some 51, [50], .eff fun e => effNt (e 50)⟩]
def p62_r15 : List PI := [
  ⟨none, some 52, [], .eff fun e => effBuild ([Value.int (IntKind.i64) 0, Value.int (IntKind.i64) 0, Value.int (IntKind.i64) 0, Value.int (IntKind.i64) 0]) []⟩,
  ⟨none, some 4, [], .eff fun e => ret (.v (Value.pointer none))⟩,
  ⟨none, none, [5, 52], .eff fun e => effStore 4 (e 5) (e 52)⟩,
  ⟨none, some 6, [], .eff fun e => ret (.v (Value.int (IntKind.i64) 12))⟩]
def p62_r16 : List PI := [
  ⟨none, some 53, [12], .eff fun e => effLoadN 4 (e 12)⟩,
  ⟨none, none, [9, 53], .eff fun e => effStore 4 (e 9) (e 53)⟩]
def p62_r17 : List PI := [
  ⟨none, some 54, [39], .eff fun e => effIb (BinOp.add) (e 39) (.v (Value.int (IntKind.i64) 1))⟩,
  ⟨none, some 39, [54], .eff fun e => ret (e 54)⟩]
def p62_l0 : PCode := (.seq (.reg p62_r11 [5, 8, 9, 37, 38, 39, 40]) (.seq (.cond (Operand.tmp 40) .skip (.exit 1)) (.seq (.block 2 (.seq (.reg p62_r12 [5, 8, 9, 11, 37, 38, 39]) (.seq (.reg p62_r13 [5, 8, 9, 12, 13, 37, 38, 39]) (.seq (.seq (.reg p62_r14 [5, 8, 9, 12, 37, 38, 39, 51]) (.cond (Operand.tmp 51) (.seq (.reg p62_r15 [4, 5, 6]) .ret) .skip)) (.reg p62_r16 [5, 8, 9, 37, 38, 39]))))) (.reg p62_r17 [5, 8, 9, 37, 38, 39]))))
def p62_r18 : List PI := [
  ⟨none, some 55, [8], .eff fun e => ret (e 8)⟩,
  ⟨none, some 56, [9], .eff fun e => effLoadN 4 (e 9)⟩,
  ⟨none, some 4, [55], .eff fun e => ret (e 55)⟩,
  ⟨none, none, [5, 56], .eff fun e => effStore 4 (e 5) (e 56)⟩,
  ⟨none, some 6, [], .eff fun e => ret (.v (Value.int (IntKind.i64) 0))⟩]
def p62 : PCode := (.seq (.reg p62_r0 [1, 2, 5]) (.seq (.reg p62_r1 [1, 2, 5, 7]) (.seq (.block 0 (.seq (.reg p62_r2 [1, 2, 5, 7, 16]) (.cond (Operand.tmp 16) (.seq (.reg p62_r3 [4, 5, 6]) .ret) (.seq (.reg p62_r4 [1, 2, 5, 21]) (.cond (Operand.tmp 21) (.seq (.reg p62_r5 [4, 5, 6]) .ret) (.seq (.reg p62_r6 [1, 2, 5, 26]) (.cond (Operand.tmp 26) (.seq (.reg p62_r7 [4, 5, 6]) .ret) .skip))))))) (.seq (.reg p62_r8 [1, 5, 8]) (.seq (.reg p62_r9 [1, 5, 8, 9]) (.seq (.seq (.reg p62_r10 [5, 8, 9, 37, 38, 39]) (.block 1 (.loop p62_l0))) (.seq (.draw p62_r18 [[], [], [0, 0], [1, 2, 0, 1, 2, 0, 0, 0, 0], [3, 0, 1, 2, 3, 1, 2, 0, 1, 2, 0, 0, 0, 0, 0, 0, 1, 2, 0, 1, 2, 0, 0, 0, 0]] [4, 5, 6]) .ret)))))))
theorem P62 : PFn Try.prog 62 ⟨p62, [SRes.tmp 4, SRes.cell 5 (some 4), SRes.tmp 6], 57⟩ := ⟨c62, F62, by kernel_rfl⟩

def p81_r0 : List PI := [
  ⟨none, some 3, [], .eff fun e => ret (.v (Value.bool false))⟩]
def p81_r1 : List PI := [
  ⟨none, some 4, [0], .eff fun e => ret (e 0)⟩,
  ⟨none, some 5, [1], .eff fun e => effLoad1 (e 1)⟩,
  ⟨none, some 6, [5], .eff fun e => effLenSl (e 5)⟩,
  ⟨none, some 7, [6], .eff fun e => effIb (BinOp.sub) (e 6) (.v (Value.int (IntKind.i64) 1))⟩,
  ⟨none, some 8, [4, 7], .call 60 ([Operand.const (Value.int (IntKind.i64) 0), Operand.tmp 4, Operand.tmp 7])⟩,
  ⟨none, some 9, [8], .eff fun e => effNt (e 8)⟩,
  ⟨none, some 3, [9], .eff fun e => ret (e 9)⟩]
def p81 : PCode := (.seq (.reg p81_r0 [0, 1]) (.seq (.reg p81_r1 [3]) .ret))
theorem P81 : PFn Try.prog 81 ⟨p81, [SRes.tmp 3], 10⟩ := ⟨c81, F81, by kernel_rfl⟩

def p68_r0 : List PI := [
  ⟨none, some 3, [1], .eff fun e => effBox (e 1)⟩,
  ⟨none, some 4, [], .eff fun e => ret (.v (Value.int (IntKind.i64) 0))⟩,
  ⟨none, some 5, [], .eff fun e => effAlloc ([Value.int (IntKind.i64) 0, Value.int (IntKind.i64) 0, Value.int (IntKind.i64) 0, Value.int (IntKind.i64) 0])⟩]
def p68_r1 : List PI := [
  ⟨none, some 9, [0], .eff fun e => ret (e 0)⟩,
  ⟨none, some 10, [9], .eff fun e => effNilck (e 9)⟩,
  ⟨none, some 11, [10], .eff fun e => effOff 0 (e 10)⟩,
  ⟨none, some 12, [11], .eff fun e => effLoad1 (e 11)⟩,
  ⟨none, some 13, [12], .eff fun e => effLenSl (e 12)⟩,
  ⟨none, some 14, [], .eff fun e => ret (.v (Value.int (IntKind.i64) 0))⟩]
def p68_r2 : List PI := [
  ⟨none, some 15, [14, 13], .eff fun e => effIb (BinOp.lss) (e 14) (e 13)⟩]
def p68_r3 : List PI := [
  ⟨none, some 16, [14], .eff fun e => ret (e 14)⟩,
  ⟨none, some 6, [16], .eff fun e => ret (e 16)⟩]
def p68_r4 : List PI := [
  ⟨none, some 18, [0], .eff fun e => ret (e 0)⟩,
  ⟨none, some 19, [3], .eff fun e => effLoadN 4 (e 3)⟩,
  ⟨none, some 20, [6], .eff fun e => ret (e 6)⟩,
  ⟨none, some 21, [18, 19, 20], .call 77 ([Operand.tmp 18, Operand.tmp 19, Operand.tmp 20])⟩,
  ⟨none, some 17, [21], .eff fun e => ret (e 21)⟩,
  ⟨none, some 22, [17], .eff fun e => effExt 0 (e 17)⟩,
  ⟨none, some 23, [17], .eff fun e => effExt 1 (e 17)⟩,
  ⟨none, some 7, [], .eff fun e => effAlloc ([Value.int (IntKind.i64) 0, Value.int (IntKind.i64) 0, Value.int (IntKind.i64) 0, Value.int (IntKind.i64) 0])⟩,
  ⟨none, none, [7, 22], .eff fun e => effStore 4 (e 7) (e 22)⟩,
  ⟨none, some 8, [23], .eff fun e => ret (e 23)⟩]
def p68_r5 : List PI := [
  ⟨none, some 24, [8], .eff fun e => ret (e 8)⟩,
  ⟨none, some 25, [24], .eff fun e => ret (e 24)⟩,
  ⟨some (25, true), some 26, [0], .eff fun e => ret (e 0)⟩,
  ⟨some (25, true), some 27, [7], .eff fun e => effLoadN 4 (e 7)⟩,
  ⟨some (25, true), some 28, [26, 27], .call 55 ([Operand.tmp 26, Operand.tmp 27])⟩,
  ⟨none, some 29, [25, 28], .eff fun e => effPick (e 25) (e 28) (.v (Value.bool false))⟩]
def p68_r6 : List PI := [
  ⟨none, some 30, [6], .eff fun e => ret (e 6)⟩,
  ⟨none, some 31, [7], .eff fun e => effLoadN 4 (e 7)⟩,
  ⟨none, some 4, [30], .eff fun e => ret (e 30)⟩,
  ⟨none, none, [5, 31], .eff fun e => effStore 4 (e 5) (e 31)⟩]
def p68_r7 : List PI := [
  ⟨none, some 32, [14], .eff fun e => effIb (BinOp.add) (e 14) (.v (Value.int (IntKind.i64) 1))⟩,
  ⟨none, some 14, [32], .eff fun e => ret (e 32)⟩]
def p68_l0 : PCode := (.seq (.reg p68_r2 [0, 3, 5, 13, 14, 15]) (.seq (.cond (Operand.tmp 15) .skip (.exit 0)) (.seq (.block 1 (.seq (.reg p68_r3 [0, 3, 5, 6, 13, 14]) (.seq (.reg p68_r4 [0, 3, 5, 6, 7, 8, 13, 14]) (.seq (.reg p68_r5 [0, 3, 5, 6, 7, 13, 14, 29]) (.cond (Operand.tmp 29) (.seq (.draw p68_r6 [[], [], [0, 0], [1, 2, 0, 1, 2, 0, 0, 0, 0]] [4, 5]) .ret) .skip))))) (.reg p68_r7 [0, 3, 5, 13, 14]))))
def p68_r8 : List PI := [
  ⟨none, some 33, [3], .eff fun e => effLoadN 4 (e 3)⟩,
  ⟨none, some 4, [], .eff fun e => ret (.v (Value.int (IntKind.i64) (-1)))⟩,
  ⟨none, none, [5, 33], .eff fun e => effStore 4 (e 5) (e 33)⟩]
def p68 : PCode := (.seq (.reg p68_r0 [0, 3, 5]) (.seq (.seq (.reg p68_r1 [0, 3, 5, 13, 14]) (.block 0 (.loop p68_l0))) (.seq (.draw p68_r8 [[], [], [0, 1, 0, 1]] [4, 5]) .ret)))
theorem P68 : PFn Try.prog 68 ⟨p68, [SRes.tmp 4, SRes.cell 5 (some 4)], 34⟩ := ⟨c68, F68, by kernel_rfl⟩

def p25_r0 : List PI := [
  ⟨none, some 4, [], .eff fun e => ret (.v (Value.slice none 0 0))⟩,
  ⟨none, some 5, [], .eff fun e => ret (.v (Value.int (IntKind.i64) 0))⟩]
def p25_r1 : List PI := [
  ⟨none, some 10, [0], .eff fun e => ret (e 0)⟩,
  ⟨none, some 11, [1], .eff fun e => ret (e 1)⟩,
  ⟨none, some 12, [10, 11], .call 62 ([Operand.tmp 10, Operand.tmp 11])⟩,
  ⟨none, some 9, [12], .eff fun e => ret (e 12)⟩,
  ⟨none, some 13, [9], .eff fun e => effExt 0 (e 9)⟩,
  ⟨none, some 14, [9], .eff fun e => effExt 1 (e 9)⟩,
  ⟨none, some 15, [9], .eff fun e => effExt 2 (e 9)⟩,
  ⟨none, some 7, [], .eff fun e => effAlloc ([Value.int (IntKind.i64) 0, Value.int (IntKind.i64) 0, Value.int (IntKind.i64) 0, Value.int (IntKind.i64) 0])⟩,
  ⟨none, some 6, [13], .eff fun e => ret (e 13)⟩,
  ⟨none, none, [7, 14], .eff fun e => effStore 4 (e 7) (e 14)⟩,
  ⟨none, some 8, [15], .eff fun e => ret (e 15)⟩]
def p25_r2 : List PI := [
  ⟨none, some 16, [8], .eff fun e => ret (e 8)⟩,
  ⟨none, some 17, [16], .eff fun e => effIb (BinOp.neq) (e 16) (.v (Value.int (IntKind.i64) 0))⟩]
def p25_r3 : List PI := [
  ⟨none, some 18, [8], .eff fun e => ret (e 8)⟩,
  ⟨none, some 4, [], .eff fun e => ret (.v (Value.slice none 0 0))⟩,
  ⟨none, some 5, [18], .eff fun e => ret (e 18)⟩]
def p25_r4 : List PI := [
  ⟨none, some 19, [0], .eff fun e => ret (e 0)⟩,
  ⟨none, some 20, [19], .eff fun e => effLenSl (e 19)⟩,
  ⟨none, some 21, [0], .eff fun e => ret (e 0)⟩,
  ⟨none, some 22, [21], .eff fun e => effLenSl (e 21)⟩,
  ⟨none, some 23, [7, 20, 22], .eff fun e => effSlcA 4 1 (e 7) none (some (e 20)) (some (e 22))⟩,
  ⟨none, some 4, [23], .eff fun e => ret (e 23)⟩,
  ⟨none, some 5, [], .eff fun e => ret (.v (Value.int (IntKind.i64) 0))⟩]
def p25 : PCode := (.seq (.reg p25_r0 [0, 1]) (.seq (.reg p25_r1 [0, 7, 8]) (.seq (.seq (.reg p25_r2 [0, 7, 8, 17]) (.cond (Operand.tmp 17) (.seq (.reg p25_r3 [4, 5]) .ret) .skip)) (.seq (.reg p25_r4 [4, 5]) .ret))))
theorem P25 : PFn Try.prog 25 ⟨p25, [SRes.tmp 4, SRes.tmp 5], 24⟩ := ⟨c25, F25, by kernel_rfl⟩

def p27_r0 : List PI := [
  ⟨none, some 4, [], .eff fun e => ret (.v (Value.bool false))⟩,
  ⟨none, some 5, [], .eff fun e => ret (.v (Value.int (IntKind.i64) 0))⟩]
def p27_r1 : List PI := [
  ⟨none, some 10, [0], .eff fun e => ret (e 0)⟩,
  ⟨none, some 11, [1], .eff fun e => ret (e 1)⟩,
  ⟨none, some 12, [10, 11], .call 62 ([Operand.tmp 10, Operand.tmp 11])⟩,
  ⟨none, some 9, [12], .eff fun e => ret (e 12)⟩,
  ⟨none, some 13, [9], .eff fun e => effExt 0 (e 9)⟩,
  ⟨none, some 14, [9], .eff fun e => effExt 1 (e 9)⟩,
  ⟨none, some 15, [9], .eff fun e => effExt 2 (e 9)⟩,
  ⟨none, some 7, [], .eff fun e => effAlloc ([Value.int (IntKind.i64) 0, Value.int (IntKind.i64) 0, Value.int (IntKind.i64) 0, Value.int (IntKind.i64) 0])⟩,
  ⟨none, some 6, [13], .eff fun e => ret (e 13)⟩,
  ⟨none, none, [7, 14], .eff fun e => effStore 4 (e 7) (e 14)⟩,
  ⟨none, some 8, [15], .eff fun e => ret (e 15)⟩]
def p27_r2 : List PI := [
  ⟨none, some 16, [8], .eff fun e => ret (e 8)⟩,
  ⟨none, some 17, [16], .eff fun e => effIb (BinOp.eql) (e 16) (.v (Value.int (IntKind.i64) 0))⟩,
  ⟨none, some 18, [17], .eff fun e => ret (e 17)⟩,
  ⟨some (18, true), some 19, [6], .eff fun e => ret (e 6)⟩,
  ⟨some (18, true), some 20, [7], .eff fun e => effLoadN 4 (e 7)⟩,
  ⟨some (18, true), some 21, [19, 20], .call 55 ([Operand.tmp 19, Operand.tmp 20])⟩,
  ⟨none, some 22, [18, 21], .eff fun e => effPick (e 18) (e 21) (.v (Value.bool false))⟩,
  ⟨none, some 23, [8], .eff fun e => ret (e 8)⟩,
  ⟨none, some 4, [22], .eff fun e => ret (e 22)⟩,
  ⟨none, some 5, [23], .eff fun e => ret (e 23)⟩]
def p27 : PCode := (.seq (.reg p27_r0 [0, 1]) (.seq (.reg p27_r1 [6, 7, 8]) (.seq (.reg p27_r2 [4, 5]) .ret)))
theorem P27 : PFn Try.prog 27 ⟨p27, [SRes.tmp 4, SRes.tmp 5], 24⟩ := ⟨c27, F27, by kernel_rfl⟩

end Go.Sx.Wk
/- The codes of the functions, written by a program (Gen.lean), and that they are the functions'. No conditions. -/
set_option linter.unusedVariables false
set_option maxRecDepth 100000
namespace Go.Sx.Wk
open Go Go.Sx Go.Proofs

def p8_r0 : List PI := [
  ⟨none, some 0, [], .eff fun e => ret (.v (Value.bool false))⟩]
def p8_r1 : List PI := [
  ⟨none, some 22, [], .call 39 ([])⟩,
  ⟨none, some 23, [22], .call 17 ([Operand.tmp 22])⟩,
  ⟨none, some 21, [23], .eff fun e => ret (e 23)⟩,
  ⟨none, some 24, [21], .eff fun e => effExt 0 (e 21)⟩,
  ⟨none, some 25, [21], .eff fun e => effExt 1 (e 21)⟩,
  ⟨none, some 26, [21], .eff fun e => effExt 2 (e 21)⟩,
  ⟨none, some 1, [24], .eff fun e => ret (e 24)⟩,
  ⟨none, some 2, [25], .eff fun e => ret (e 25)⟩,
  ⟨none, some 3, [26], .eff fun e => ret (e 26)⟩]
def p8_r2 : List PI := [
  ⟨none, some 28, [], .eff fun e => effMks 2 1 ([Value.int (IntKind.i64) 0, Value.int (IntKind.i64) 0]) [(0, 1, (.v (Value.int (IntKind.i64) 2))), (1, 1, (.v (Value.int (IntKind.i64) 2)))]⟩,
  ⟨none, some 29, [28], .call 40 ([Operand.tmp 28])⟩,
  ⟨none, some 30, [29], .call 19 ([Operand.tmp 29])⟩,
  ⟨none, some 27, [30], .eff fun e => ret (e 30)⟩,
  ⟨none, some 31, [27], .eff fun e => effExt 0 (e 27)⟩,
  ⟨none, some 32, [27], .eff fun e => effExt 1 (e 27)⟩,
  ⟨none, some 4, [31], .eff fun e => ret (e 31)⟩,
  ⟨none, some 5, [32], .eff fun e => ret (e 32)⟩]
def p8_r3 : List PI := [
  ⟨none, some 34, [], .eff fun e => effMks 2 1 ([Value.int (IntKind.i64) 0, Value.int (IntKind.i64) 0]) [(0, 1, (.v (Value.int (IntKind.i64) 1))), (1, 1, (.v (Value.int (IntKind.i64) 8)))]⟩,
  ⟨none, some 35, [34], .call 40 ([Operand.tmp 34])⟩,
  ⟨none, some 36, [35], .call 19 ([Operand.tmp 35])⟩,
  ⟨none, some 33, [36], .eff fun e => ret (e 36)⟩,
  ⟨none, some 37, [33], .eff fun e => effExt 0 (e 33)⟩,
  ⟨none, some 38, [33], .eff fun e => effExt 1 (e 33)⟩,
  ⟨none, some 6, [37], .eff fun e => ret (e 37)⟩,
  ⟨none, some 7, [38], .eff fun e => ret (e 38)⟩]
def p8_r4 : List PI := [
  ⟨none, some 40, [], .eff fun e => effMks 2 1 ([Value.int (IntKind.i64) 0, Value.int (IntKind.i64) 0]) [(0, 1, (.v (Value.int (IntKind.i64) 1))), (1, 1, (.v (Value.int (IntKind.i64) 8)))]⟩,
  ⟨none, some 41, [40], .call 40 ([Operand.tmp 40])⟩,
  ⟨none, some 42, [41], .call 21 ([Operand.tmp 41])⟩,
  ⟨none, some 39, [42], .eff fun e => ret (e 42)⟩,
  ⟨none, some 43, [39], .eff fun e => effExt 0 (e 39)⟩,
  ⟨none, some 44, [39], .eff fun e => effExt 1 (e 39)⟩,
  ⟨none, some 8, [43], .eff fun e => ret (e 43)⟩,
  ⟨none, some 9, [44], .eff fun e => ret (e 44)⟩]
def p8_r5 : List PI := [
  ⟨none, some 46, [], .call 41 ([])⟩,
  ⟨none, some 47, [46], .call 25 ([Operand.tmp 46, Operand.const (Value.slice none 0 0)])⟩,
  ⟨none, some 45, [47], .eff fun e => ret (e 47)⟩,
  ⟨none, some 48, [45], .eff fun e => effExt 0 (e 45)⟩,
  ⟨none, some 49, [45], .eff fun e => effExt 1 (e 45)⟩,
  ⟨none, some 10, [48], .eff fun e => ret (e 48)⟩,
  ⟨none, some 11, [49], .eff fun e => ret (e 49)⟩]
def p8_r6 : List PI := [
  ⟨none, some 51, [], .call 39 ([])⟩,
  ⟨none, some 52, [], .eff fun e => effMks 1 1 ([Value.int (IntKind.i64) 0]) [(0, 1, (.v (Value.int (IntKind.i64) 2)))]⟩,
  ⟨none, some 53, [52], .call 40 ([Operand.tmp 52])⟩,
  ⟨none, some 54, [51, 53], .call 27 ([Operand.tmp 51, Operand.tmp 53])⟩,
  ⟨none, some 50, [54], .eff fun e => ret (e 54)⟩,
  ⟨none, some 55, [50], .eff fun e => effExt 0 (e 50)⟩,
  ⟨none, some 56, [50], .eff fun e => effExt 1 (e 50)⟩,
  ⟨none, some 12, [55], .eff fun e => ret (e 55)⟩,
  ⟨none, some 13, [56], .eff fun e => ret (e 56)⟩]
def p8_r7 : List PI := [
  ⟨none, some 57, [3], .eff fun e => ret (e 3)⟩,
  ⟨none, some 58, [57], .eff fun e => effIb (BinOp.neq) (e 57) (.v (Value.int (IntKind.i64) 0))⟩,
  ⟨none, some 59, [58], .eff fun e => ret (e 58)⟩,
  ⟨some (59, false), some 60, [5], .eff fun e => ret (e 5)⟩,
  ⟨some (59, false), some 61, [60], .eff fun e => effIb (BinOp.neq) (e 60) (.v (Value.int (IntKind.i64) 0))⟩,
  ⟨none, some 62, [59, 61], .eff fun e => effPick (e 59) (.v (Value.bool true)) (e 61)⟩,
  ⟨none, some 63, [62], .eff fun e => ret (e 62)⟩,
  ⟨some (63, false), some 64, [7], .eff fun e => ret (e 7)⟩,
  ⟨some (63, false), some 65, [64], .eff fun e => effIb (BinOp.neq) (e 64) (.v (Value.int (IntKind.i64) 0))⟩,
  ⟨none, some 66, [63, 65], .eff fun e => effPick (e 63) (.v (Value.bool true)) (e 65)⟩,
  ⟨none, some 67, [66], .eff fun e => ret (e 66)⟩,
  ⟨some (67, false), some 68, [9], .eff fun e => ret (e 9)⟩,
  ⟨some (67, false), some 69, [68], .eff fun e => effIb (BinOp.neq) (e 68) (.v (Value.int (IntKind.i64) 0))⟩,
  ⟨none, some 70, [67, 69], .eff fun e => effPick (e 67) (.v (Value.bool true)) (e 69)⟩,
  ⟨none, some 71, [70], .eff fun e => ret (e 70)⟩,
  ⟨some (71, false), some 72, [11], .eff fun e => ret (e 11)⟩,
  ⟨some (71, false), some 73, [72], .eff fun e => effIb (BinOp.neq) (e 72) (.v (Value.int (IntKind.i64) 0))⟩,
  ⟨none, some 74, [71, 73], .eff fun e => effPick (e 71) (.v (Value.bool true)) (e 73)⟩,
  ⟨none, some 75, [74], .eff fun e => ret (e 74)⟩,
  ⟨some (75, false), some 76, [13], .eff fun e => ret (e 13)⟩,
  ⟨some (75, false), some 77, [76], .eff fun e => effIb (BinOp.neq) (e 76) (.v (Value.int (IntKind.i64) 0))⟩,
  ⟨none, some 78, [75, 77], .eff fun e => effPick (e 75) (.v (Value.bool true)) (e 77)⟩,
  ⟨none, some 79, [78], .eff fun e => ret (e 78)⟩,
  ⟨some (79, false), some 80, [1], .eff fun e => ret (e 1)⟩,
  ⟨some (79, false), some 81, [80], .eff fun e => effIb (BinOp.neq) (e 80) (.v (Value.int (IntKind.i64) 1))⟩,
  ⟨none, some 82, [79, 81], .eff fun e => effPick (e 79) (.v (Value.bool true)) (e 81)⟩,
  ⟨none, some 83, [82], .eff fun e => ret (e 82)⟩,
  ⟨some (83, false), some 84, [2], .eff fun e => ret (e 2)⟩,
  ⟨some (83, false), some 85, [84], .eff fun e => effIb (BinOp.neq) (e 84) (.v (Value.int (IntKind.i64) 1))⟩,
  ⟨none, some 86, [83, 85], .eff fun e => effPick (e 83) (.v (Value.bool true)) (e 85)⟩,
  ⟨none, some 87, [86], .eff fun e => ret (e 86)⟩,
  ⟨some (87, false), some 88, [4], .eff fun e => ret (e 4)⟩,
  ⟨some (87, false), some 89, [88], .eff fun e => effNt (e 88)⟩,
  ⟨none, some 90, [87, 89], .eff fun e => effPick (e 87) (.v (Value.bool true)) (e 89)⟩,
  ⟨none, some 91, [90], .eff fun e => ret (e 90)⟩,
  ⟨some (91, false), some 92, [6], .eff fun e => ret (e 6)⟩,
  ⟨none, some 93, [91, 92], .eff fun e => effPick (e 91) (.v (Value.bool true)) (e 92)⟩,
  ⟨none, some 94, [93], .eff fun e => ret (e 93)⟩,
  ⟨some (94, false), some 95, [8], .eff fun e => ret (e 8)⟩,
  ⟨some (94, false), some 96, [95], .eff fun e => effIb (BinOp.neq) (e 95) (.v (Value.int (IntKind.i64) 7))⟩,
  ⟨none, some 97, [94, 96], .eff fun e => effPick (e 94) (.v (Value.bool true)) (e 96)⟩,
  ⟨none, some 98, [97], .eff fun e => ret (e 97)⟩,
  ⟨some (98, false), some 99, [10], .eff fun e => ret (e 10)⟩,
  ⟨some (98, false), some 100, [], .call 41 ([])⟩,
  ⟨some (98, false), some 101, [99, 100], .call 29 ([Operand.tmp 99, Operand.tmp 100])⟩,
  ⟨some (98, false), some 102, [101], .eff fun e => effNt (e 101)⟩,
  ⟨none, some 103, [98, 102], .eff fun e => effPick (e 98) (.v (Value.bool true)) (e 102)⟩,
  ⟨none, some 104, [103], .eff fun e => ret (e 103)⟩,
  ⟨some (104, false), some 105, [12], .eff fun e => ret (e 12)⟩,
  ⟨none, some 106, [104, 105], .eff fun e => effPick (e 104) (.v (Value.bool true)) (e 105)⟩]
def p8_r8 : List PI := [
  ⟨none, some 0, [], .eff fun e => ret (.v (Value.bool false))⟩]
def p8_r9 : List PI := [
  ⟨none, some 108, [], .call 41 ([])⟩,
  ⟨none, some 109, [108], .call 32 ([Operand.tmp 108, Operand.const (Value.int (IntKind.i64) 0)])⟩,
  ⟨none, some 107, [109], .eff fun e => ret (e 109)⟩,
  ⟨none, some 110, [107], .eff fun e => effExt 0 (e 107)⟩,
  ⟨none, some 111, [107], .eff fun e => effExt 1 (e 107)⟩,
  ⟨none, some 14, [110], .eff fun e => ret (e 110)⟩,
  ⟨none, some 3, [111], .eff fun e => ret (e 111)⟩]
def p8_r10 : List PI := [
  ⟨none, some 113, [], .call 41 ([])⟩,
  ⟨none, some 114, [113], .call 32 ([Operand.tmp 113, Operand.const (Value.int (IntKind.i64) 61)])⟩,
  ⟨none, some 112, [114], .eff fun e => ret (e 114)⟩,
  ⟨none, some 115, [112], .eff fun e => effExt 0 (e 112)⟩,
  ⟨none, some 116, [112], .eff fun e => effExt 1 (e 112)⟩,
  ⟨none, some 5, [116], .eff fun e => ret (e 116)⟩]
def p8_r11 : List PI := [
  ⟨none, some 118, [], .eff fun e => effMks 1 1 ([Value.int (IntKind.i64) 0]) [(0, 1, (.v (Value.int (IntKind.i64) 1)))]⟩,
  ⟨none, some 119, [118], .call 40 ([Operand.tmp 118])⟩,
  ⟨none, some 120, [119], .call 34 ([Operand.tmp 119])⟩,
  ⟨none, some 117, [120], .eff fun e => ret (e 120)⟩,
  ⟨none, some 121, [117], .eff fun e => effExt 0 (e 117)⟩,
  ⟨none, some 122, [117], .eff fun e => effExt 1 (e 117)⟩,
  ⟨none, some 123, [117], .eff fun e => effExt 2 (e 117)⟩,
  ⟨none, some 15, [121], .eff fun e => ret (e 121)⟩,
  ⟨none, some 16, [122], .eff fun e => ret (e 122)⟩,
  ⟨none, some 7, [123], .eff fun e => ret (e 123)⟩]
def p8_r12 : List PI := [
  ⟨none, some 125, [], .eff fun e => effMks 3 1 ([Value.int (IntKind.i64) 0, Value.int (IntKind.i64) 0, Value.int (IntKind.i64) 0]) [(0, 1, (.v (Value.int (IntKind.i64) 3))), (1, 1, (.v (Value.int (IntKind.i64) 3))), (2, 1, (.v (Value.int (IntKind.i64) 3)))]⟩,
  ⟨none, some 126, [125], .call 40 ([Operand.tmp 125])⟩,
  ⟨none, some 127, [126], .call 34 ([Operand.tmp 126])⟩,
  ⟨none, some 124, [127], .eff fun e => ret (e 127)⟩,
  ⟨none, some 128, [124], .eff fun e => effExt 0 (e 124)⟩,
  ⟨none, some 129, [124], .eff fun e => effExt 1 (e 124)⟩,
  ⟨none, some 130, [124], .eff fun e => effExt 2 (e 124)⟩,
  ⟨none, some 17, [128], .eff fun e => ret (e 128)⟩,
  ⟨none, some 18, [129], .eff fun e => ret (e 129)⟩,
  ⟨none, some 9, [130], .eff fun e => ret (e 130)⟩]
def p8_r13 : List PI := [
  ⟨none, some 132, [], .eff fun e => effMks 3 1 ([Value.int (IntKind.i64) 0, Value.int (IntKind.i64) 0, Value.int (IntKind.i64) 0]) [(0, 1, (.v (Value.int (IntKind.i64) 1))), (1, 1, (.v (Value.int (IntKind.i64) 1))), (2, 1, (.v (Value.int (IntKind.i64) 1)))]⟩,
  ⟨none, some 133, [132], .call 40 ([Operand.tmp 132])⟩,
  ⟨none, some 134, [133], .call 36 ([Operand.tmp 133])⟩,
  ⟨none, some 131, [134], .eff fun e => ret (e 134)⟩,
  ⟨none, some 135, [131], .eff fun e => effExt 0 (e 131)⟩,
  ⟨none, some 136, [131], .eff fun e => effExt 1 (e 131)⟩,
  ⟨none, some 19, [135], .eff fun e => ret (e 135)⟩,
  ⟨none, some 11, [136], .eff fun e => ret (e 136)⟩]
def p8_r14 : List PI := [
  ⟨none, some 138, [], .eff fun e => effMks 4 1 ([Value.int (IntKind.i64) 0, Value.int (IntKind.i64) 0, Value.int (IntKind.i64) 0, Value.int (IntKind.i64) 0]) [(0, 1, (.v (Value.int (IntKind.i64) 4))), (1, 1, (.v (Value.int (IntKind.i64) 4))), (2, 1, (.v (Value.int (IntKind.i64) 4))), (3, 1, (.v (Value.int (IntKind.i64) 4)))]⟩,
  ⟨none, some 139, [138], .call 40 ([Operand.tmp 138])⟩,
  ⟨none, some 140, [139], .call 36 ([Operand.tmp 139])⟩,
  ⟨none, some 137, [140], .eff fun e => ret (e 140)⟩,
  ⟨none, some 141, [137], .eff fun e => effExt 0 (e 137)⟩,
  ⟨none, some 142, [137], .eff fun e => effExt 1 (e 137)⟩,
  ⟨none, some 20, [141], .eff fun e => ret (e 141)⟩,
  ⟨none, some 13, [142], .eff fun e => ret (e 142)⟩]
def p8_r15 : List PI := [
  ⟨none, some 143, [3], .eff fun e => ret (e 3)⟩,
  ⟨none, some 144, [143], .eff fun e => effIb (BinOp.eql) (e 143) (.v (Value.int (IntKind.i64) 0))⟩,
  ⟨none, some 145, [144], .eff fun e => ret (e 144)⟩,
  ⟨some (145, true), some 146, [5], .eff fun e => ret (e 5)⟩,
  ⟨some (145, true), some 147, [146], .eff fun e => effIb (BinOp.eql) (e 146) (.v (Value.int (IntKind.i64) 1))⟩,
  ⟨none, some 148, [145, 147], .eff fun e => effPick (e 145) (e 147) (.v (Value.bool false))⟩,
  ⟨none, some 149, [148], .eff fun e => ret (e 148)⟩,
  ⟨some (149, true), some 150, [7], .eff fun e => ret (e 7)⟩,
  ⟨some (149, true), some 151, [150], .eff fun e => effIb (BinOp.eql) (e 150) (.v (Value.int (IntKind.i64) 0))⟩,
  ⟨none, some 152, [149, 151], .eff fun e => effPick (e 149) (e 151) (.v (Value.bool false))⟩,
  ⟨none, some 153, [152], .eff fun e => ret (e 152)⟩,
  ⟨some (153, true), some 154, [9], .eff fun e => ret (e 9)⟩,
  ⟨some (153, true), some 155, [154], .eff fun e => effIb (BinOp.eql) (e 154) (.v (Value.int (IntKind.i64) 0))⟩,
  ⟨none, some 156, [153, 155], .eff fun e => effPick (e 153) (e 155) (.v (Value.bool false))⟩,
  ⟨none, some 157, [156], .eff fun e => ret (e 156)⟩,
  ⟨some (157, true), some 158, [11], .eff fun e => ret (e 11)⟩,
  ⟨some (157, true), some 159, [158], .eff fun e => effIb (BinOp.eql) (e 158) (.v (Value.int (IntKind.i64) 0))⟩,
  ⟨none, some 160, [157, 159], .eff fun e => effPick (e 157) (e 159) (.v (Value.bool false))⟩,
  ⟨none, some 161, [160], .eff fun e => ret (e 160)⟩,
  ⟨some (161, true), some 162, [13], .eff fun e => ret (e 13)⟩,
  ⟨some (161, true), some 163, [162], .eff fun e => effIb (BinOp.eql) (e 162) (.v (Value.int (IntKind.i64) 0))⟩,
  ⟨none, some 164, [161, 163], .eff fun e => effPick (e 161) (e 163) (.v (Value.bool false))⟩,
  ⟨none, some 165, [164], .eff fun e => ret (e 164)⟩,
  ⟨some (165, true), some 166, [14], .eff fun e => ret (e 14)⟩,
  ⟨some (165, true), some 167, [166], .eff fun e => effLenSl (e 166)⟩,
  ⟨some (165, true), some 168, [167], .eff fun e => effIb (BinOp.eql) (e 167) (.v (Value.int (IntKind.i64) 0))⟩,
  ⟨none, some 169, [165, 168], .eff fun e => effPick (e 165) (e 168) (.v (Value.bool false))⟩,
  ⟨none, some 170, [169], .eff fun e => ret (e 169)⟩,
  ⟨some (170, true), some 171, [15], .eff fun e => ret (e 15)⟩,
  ⟨some (170, true), some 172, [171], .eff fun e => effLenSl (e 171)⟩,
  ⟨some (170, true), some 173, [172], .eff fun e => effIb (BinOp.eql) (e 172) (.v (Value.int (IntKind.i64) 0))⟩,
  ⟨none, some 174, [170, 173], .eff fun e => effPick (e 170) (e 173) (.v (Value.bool false))⟩,
  ⟨none, some 175, [174], .eff fun e => ret (e 174)⟩,
  ⟨some (175, true), some 176, [16], .eff fun e => ret (e 16)⟩,
  ⟨some (175, true), some 177, [], .eff fun e => effMks 1 1 ([Value.int (IntKind.i64) 0]) [(0, 1, (.v (Value.int (IntKind.i64) 0)))]⟩,
  ⟨some (175, true), some 178, [177], .call 40 ([Operand.tmp 177])⟩,
  ⟨some (175, true), some 179, [176, 178], .call 29 ([Operand.tmp 176, Operand.tmp 178])⟩,
  ⟨none, some 180, [175, 179], .eff fun e => effPick (e 175) (e 179) (.v (Value.bool false))⟩,
  ⟨none, some 181, [180], .eff fun e => ret (e 180)⟩,
  ⟨some (181, true), some 182, [17], .eff fun e => ret (e 17)⟩,
  ⟨some (181, true), some 183, [], .eff fun e => effMks 2 1 ([Value.int (IntKind.i64) 0, Value.int (IntKind.i64) 0]) [(0, 1, (.v (Value.int (IntKind.i64) 0))), (1, 1, (.v (Value.int (IntKind.i64) 1)))]⟩,
  ⟨some (181, true), some 184, [183], .call 40 ([Operand.tmp 183])⟩,
  ⟨some (181, true), some 185, [182, 184], .call 29 ([Operand.tmp 182, Operand.tmp 184])⟩,
  ⟨none, some 186, [181, 185], .eff fun e => effPick (e 181) (e 185) (.v (Value.bool false))⟩,
  ⟨none, some 187, [186], .eff fun e => ret (e 186)⟩,
  ⟨some (187, true), some 188, [18], .eff fun e => ret (e 18)⟩,
  ⟨some (187, true), some 189, [], .eff fun e => effMks 3 1 ([Value.int (IntKind.i64) 0, Value.int (IntKind.i64) 0, Value.int (IntKind.i64) 0]) [(0, 1, (.v (Value.int (IntKind.i64) 2))), (1, 1, (.v (Value.int (IntKind.i64) 0))), (2, 1, (.v (Value.int (IntKind.i64) 1)))]⟩,
  ⟨some (187, true), some 190, [189], .call 40 ([Operand.tmp 189])⟩,
  ⟨some (187, true), some 191, [188, 190], .call 29 ([Operand.tmp 188, Operand.tmp 190])⟩,
  ⟨none, some 192, [187, 191], .eff fun e => effPick (e 187) (e 191) (.v (Value.bool false))⟩,
  ⟨none, some 193, [192], .eff fun e => ret (e 192)⟩,
  ⟨some (193, true), some 194, [19], .eff fun e => ret (e 19)⟩,
  ⟨some (193, true), some 195, [], .eff fun e => effMks 3 1 ([Value.int (IntKind.i64) 0, Value.int (IntKind.i64) 0, Value.int (IntKind.i64) 0]) [(0, 1, (.v (Value.int (IntKind.i64) 0))), (1, 1, (.v (Value.int (IntKind.i64) 1))), (2, 1, (.v (Value.int (IntKind.i64) 2)))]⟩,
  ⟨some (193, true), some 196, [195], .call 40 ([Operand.tmp 195])⟩,
  ⟨some (193, true), some 197, [194, 196], .call 29 ([Operand.tmp 194, Operand.tmp 196])⟩,
  ⟨none, some 198, [193, 197], .eff fun e => effPick (e 193) (e 197) (.v (Value.bool false))⟩,
  ⟨none, some 199, [198], .eff fun e => ret (e 198)⟩,
  ⟨some (199, true), some 200, [20], .eff fun e => ret (e 20)⟩,
  ⟨some (199, true), some 201, [], .eff fun e => effMks 4 1 ([Value.int (IntKind.i64) 0, Value.int (IntKind.i64) 0, Value.int (IntKind.i64) 0, Value.int (IntKind.i64) 0]) [(0, 1, (.v (Value.int (IntKind.i64) 0))), (1, 1, (.v (Value.int (IntKind.i64) 0))), (2, 1, (.v (Value.int (IntKind.i64) 0))), (3, 1, (.v (Value.int (IntKind.i64) 0)))]⟩,
  ⟨some (199, true), some 202, [201], .call 40 ([Operand.tmp 201])⟩,
  ⟨some (199, true), some 203, [200, 202], .call 29 ([Operand.tmp 200, Operand.tmp 202])⟩,
  ⟨none, some 204, [199, 203], .eff fun e => effPick (e 199) (e 203) (.v (Value.bool false))⟩,
  ⟨none, some 205, [204], .eff fun e => ret (e 204)⟩,
  ⟨some (205, true), some 206, [], .call 41 ([])⟩,
  ⟨some (205, true), some 207, [], .eff fun e => effMks 2 1 ([Value.int (IntKind.i64) 0, Value.int (IntKind.i64) 0]) [(0, 1, (.v (Value.int (IntKind.i64) 0))), (1, 1, (.v (Value.int (IntKind.i64) 1)))]⟩,
  ⟨some (205, true), some 208, [207], .call 40 ([Operand.tmp 207])⟩,
  ⟨some (205, true), some 209, [206, 208], .call 30 ([Operand.tmp 206, Operand.tmp 208])⟩,
  ⟨some (205, true), some 210, [209], .eff fun e => effIb (BinOp.eql) (e 209) (.v (Value.int (IntKind.i64) 0))⟩,
  ⟨none, some 211, [205, 210], .eff fun e => effPick (e 205) (e 210) (.v (Value.bool false))⟩,
  ⟨none, some 212, [211], .eff fun e => ret (e 211)⟩,
  ⟨some (212, true), some 213, [], .call 41 ([])⟩,
  ⟨some (212, true), some 214, [213], .call 30 ([Operand.tmp 213, Operand.const (Value.slice none 0 0)])⟩,
  ⟨some (212, true), some 215, [214], .eff fun e => effIb (BinOp.eql) (e 214) (.v (Value.int (IntKind.i64) 4))⟩,
  ⟨none, some 216, [212, 215], .eff fun e => effPick (e 212) (e 215) (.v (Value.bool false))⟩,
  ⟨none, some 217, [216], .eff fun e => ret (e 216)⟩,
  ⟨some (217, true), some 218, [], .call 23 ([Operand.const (Value.slice none 0 0)])⟩,
  ⟨some (217, true), some 219, [218], .eff fun e => effIb (BinOp.eql) (e 218) (.v (Value.int (IntKind.i64) 4))⟩,
  ⟨none, some 220, [217, 219], .eff fun e => effPick (e 217) (e 219) (.v (Value.bool false))⟩,
  ⟨none, some 221, [220], .eff fun e => ret (e 220)⟩,
  ⟨some (221, true), some 222, [], .eff fun e => effMks 1 1 ([Value.int (IntKind.i64) 0]) [(0, 1, (.v (Value.int (IntKind.i64) 0)))]⟩,
  ⟨some (221, true), some 223, [222], .call 40 ([Operand.tmp 222])⟩,
  ⟨some (221, true), some 224, [223], .call 23 ([Operand.tmp 223])⟩,
  ⟨some (221, true), some 225, [224], .eff fun e => effIb (BinOp.eql) (e 224) (.v (Value.int (IntKind.i64) 1))⟩,
  ⟨none, some 226, [221, 225], .eff fun e => effPick (e 221) (e 225) (.v (Value.bool false))⟩,
  ⟨none, some 227, [226], .eff fun e => ret (e 226)⟩,
  ⟨some (227, true), some 228, [], .eff fun e => effMks 1 1 ([Value.int (IntKind.i64) 0]) [(0, 1, (.v (Value.int (IntKind.i64) 9)))]⟩,
  ⟨some (227, true), some 229, [228], .call 40 ([Operand.tmp 228])⟩,
  ⟨some (227, true), some 230, [229], .call 23 ([Operand.tmp 229])⟩,
  ⟨some (227, true), some 231, [230], .eff fun e => effIb (BinOp.eql) (e 230) (.v (Value.int (IntKind.i64) 1))⟩,
  ⟨none, some 232, [227, 231], .eff fun e => effPick (e 227) (e 231) (.v (Value.bool false))⟩,
  ⟨none, some 233, [232], .eff fun e => ret (e 232)⟩,
  ⟨some (233, true), some 234, [], .eff fun e => effMks 5 1 ([Value.int (IntKind.i64) 0, Value.int (IntKind.i64) 0, Value.int (IntKind.i64) 0, Value.int (IntKind.i64) 0, Value.int (IntKind.i64) 0]) [(0, 1, (.v (Value.int (IntKind.i64) 1))), (1, 1, (.v (Value.int (IntKind.i64) 2))), (2, 1, (.v (Value.int (IntKind.i64) 3))), (3, 1, (.v (Value.int (IntKind.i64) 4))), (4, 1, (.v (Value.int (IntKind.i64) 5)))]⟩,
  ⟨some (233, true), some 235, [234], .call 40 ([Operand.tmp 234])⟩,
  ⟨some (233, true), some 236, [235], .call 23 ([Operand.tmp 235])⟩,
  ⟨some (233, true), some 237, [236], .eff fun e => effIb (BinOp.eql) (e 236) (.v (Value.int (IntKind.i64) 3))⟩,
  ⟨none, some 238, [233, 237], .eff fun e => effPick (e 233) (e 237) (.v (Value.bool false))⟩,
  ⟨none, some 239, [238], .eff fun e => ret (e 238)⟩,
  ⟨some (239, true), some 240, [], .call 16 ([])⟩,
  ⟨none, some 241, [239, 240], .eff fun e => effPick (e 239) (e 240) (.v (Value.bool false))⟩,
  ⟨none, some 0, [241], .eff fun e => ret (e 241)⟩]
def p8 : PCode := (.seq (.reg p8_r0 []) (.seq (.reg p8_r1 [1, 2, 3]) (.seq (.reg p8_r2 [1, 2, 3, 4, 5]) (.seq (.reg p8_r3 [1, 2, 3, 4, 5, 6, 7]) (.seq (.reg p8_r4 [1, 2, 3, 4, 5, 6, 7, 8, 9]) (.seq (.reg p8_r5 [1, 2, 3, 4, 5, 6, 7, 8, 9, 10, 11]) (.seq (.reg p8_r6 [1, 2, 3, 4, 5, 6, 7, 8, 9, 10, 11, 12, 13]) (.seq (.seq (.reg p8_r7 [106]) (.cond (Operand.tmp 106) (.seq (.reg p8_r8 [0]) .ret) .skip)) (.seq (.reg p8_r9 [3, 14]) (.seq (.reg p8_r10 [3, 5, 14]) (.seq (.reg p8_r11 [3, 5, 7, 14, 15, 16]) (.seq (.reg p8_r12 [3, 5, 7, 9, 14, 15, 16, 17, 18]) (.seq (.reg p8_r13 [3, 5, 7, 9, 11, 14, 15, 16, 17, 18, 19]) (.seq (.reg p8_r14 [3, 5, 7, 9, 11, 13, 14, 15, 16, 17, 18, 19, 20]) (.seq (.reg p8_r15 [0]) .ret)))))))))))))))
theorem P8 : PFn Try.prog 8 ⟨p8, [SRes.tmp 0], 242⟩ := ⟨c8, F8, by kernel_rfl⟩

def p32_r0 : List PI := [
  ⟨none, some 4, [], .eff fun e => ret (.v (Value.slice none 0 0))⟩,
  ⟨none, some 5, [], .eff fun e => ret (.v (Value.int (IntKind.i64) 0))⟩]
def p32_r1 : List PI := [
  ⟨none, some 12, [0], .eff fun e => ret (e 0)⟩,
  ⟨none, some 13, [12], .call 23 ([Operand.tmp 12])⟩,
  ⟨none, some 6, [13], .eff fun e => ret (e 13)⟩]
def p32_r2 : List PI := [
  ⟨none, some 15, [6], .eff fun e => ret (e 6)⟩,
  ⟨none, some 16, [15], .eff fun e => effIb (BinOp.neq) (e 15) (.v (Value.int (IntKind.i64) 0))⟩,
  ⟨none, some 14, [16], .eff fun e => ret (e 16)⟩]
def p32_r3 : List PI := [
  ⟨none, some 17, [6], .eff fun e => ret (e 6)⟩,
  ⟨none, some 4, [], .eff fun e => ret (.v (Value.slice none 0 0))⟩,
  ⟨none, some 5, [17], .eff fun e => ret (e 17)⟩]
def p32_r4 : List PI := [
  ⟨none, some 19, [1], .eff fun e => ret (e 1)⟩,
  ⟨none, some 20, [19], .call 60 ([Operand.const (Value.int (IntKind.i64) 0), Operand.tmp 19, Operand.const (Value.int (IntKind.i64) 60)])⟩,
  ⟨none, some 21, [20], .eff fun e => effNt (e 20)⟩,
  ⟨none, some 18, [21], .eff fun e => ret (e 21)⟩]
def p32_r5 : List PI := [
  ⟨none, some 4, [], .eff fun e => ret (.v (Value.slice none 0 0))⟩,
  ⟨none, some 5, [], .eff fun e => ret (.v (Value.int (IntKind.i64) 1))⟩]
def p32_r6 : List PI := [
  ⟨none, some 22, [0], .eff fun e => ret (e 0)⟩,
  ⟨none, some 23, [22], .call 54 ([Operand.tmp 22])⟩,
  ⟨none, some 7, [23], .eff fun e => ret (e 23)⟩]
def p32_r7 : List PI := [
  ⟨none, some 24, [7], .eff fun e => ret (e 7)⟩,
  ⟨none, some 25, [7], .eff fun e => ret (e 7)⟩,
  ⟨none, some 26, [25], .eff fun e => effNilck (e 25)⟩,
  ⟨none, some 27, [26], .eff fun e => effOff 1 (e 26)⟩,
  ⟨none, some 28, [27], .eff fun e => effLoadN 4 (e 27)⟩,
  ⟨none, some 29, [24, 28], .call 55 ([Operand.tmp 24, Operand.tmp 28])⟩,
  ⟨none, some 30, [29], .eff fun e => effNt (e 29)⟩]
def p32_r8 : List PI := [
  ⟨none, some 4, [], .eff fun e => ret (.v (Value.slice none 0 0))⟩,
  ⟨none, some 5, [], .eff fun e => ret (.v (Value.int (IntKind.i64) 12))⟩]
def p32_r9 : List PI := [
  ⟨none, some 8, [], .eff fun e => ret (.v (Value.slice none 0 0))⟩]
def p32_r10 : List PI := [
  ⟨none, some 31, [7], .eff fun e => ret (e 7)⟩,
  ⟨none, some 32, [31], .eff fun e => effNilck (e 31)⟩,
  ⟨none, some 33, [32], .eff fun e => effOff 1 (e 32)⟩,
  ⟨none, some 34, [33], .eff fun e => effLoadN 4 (e 33)⟩,
  ⟨none, some 9, [], .eff fun e => effAlloc ([Value.int (IntKind.i64) 0, Value.int (IntKind.i64) 0, Value.int (IntKind.i64) 0, Value.int (IntKind.i64) 0])⟩,
  ⟨none, none, [9, 34], .eff fun e => effStore 4 (e 9) (e 34)⟩]
def p32_r11 : List PI := [
  ⟨none, some 35, [1], .eff fun e => ret (e 1)⟩,
  ⟨none, some 36, [], .eff fun e => ret (.v (Value.int (IntKind.i64) 0))⟩]
def p32_r12 : List PI := [
  ⟨none, some 37, [36, 35], .eff fun e => effIb (BinOp.lss) (e 36) (e 35)⟩]
def p32_r13 : List PI := [
  ⟨none, some 39, [7], .eff fun e => ret (e 7)⟩,
  ⟨none, some 40, [9], .eff fun e => effLoadN 4 (e 9)⟩,
  ⟨none, some 41, [39, 40], .call 68 ([Operand.tmp 39, Operand.tmp 40])⟩,
  ⟨none, some 38, [41], .eff fun e => ret (e 41)⟩,
  ⟨none, some 42, [38], .eff fun e => effExt 0 (e 38)⟩,
  ⟨none, some 43, [38], .eff fun e => effExt 1 (e 38)⟩,
  ⟨none, some 11, [], .eff fun e => effAlloc ([Value.int (IntKind.i64) 0, Value.int (IntKind.i64) 0, Value.int (IntKind.i64) 0, Value.int (IntKind.i64) 0])⟩,
  ⟨none, some 10, [42], .eff fun e => ret (e 42)⟩,
  ⟨none, none, [11, 43], .eff fun e => effStore 4 (e 11) (e 43)⟩]
def p32_r14 : List PI := [
  ⟨none, some 44, [8], .eff fun e => ret (e 8)⟩,
  ⟨none, some 45, [10], .eff fun e => ret (e 10)⟩,
  ⟨none, some 46, [45], .eff fun e => effMks 1 1 ([Value.int (IntKind.i64) 0]) [(0, 1, (e 45))]⟩,
  ⟨none, some 47, [44, 46], .eff fun e => effApp 1 8 (e 44) (e 46)⟩,
  ⟨none, some 48, [11], .eff fun e => effLoadN 4 (e 11)⟩,
  ⟨none, some 8, [47], .eff fun e => ret (e 47)⟩,
  ⟨none, none, [9, 48], .eff fun e => effStore 4 (e 9) (e 48)⟩]
def p32_r15 : List PI := [
  ⟨none, some 49, [36], .eff fun e => effIb (BinOp.add) (e 36) (.v (Value.int (IntKind.i64) 1))⟩,
  ⟨none, some 36, [49], .eff fun e => ret (e 49)⟩]
def p32_l0 : PCode := (.seq (.reg p32_r12 [7, 8, 9, 35, 36, 37]) (.seq (.cond (Operand.tmp 37) .skip (.exit 1)) (.seq (.block 2 (.seq (.reg p32_r13 [7, 8, 9, 10, 11, 35, 36]) (.draw p32_r14 [[], [], [1], [0, 2, 1], [], [3, 3, 0, 1, 2, 3, 0, 2, 1, 0, 2, 1, 1, 0, 2, 1], [4, 5, 0, 1, 2, 3, 4, 5, 3, 3, 0, 1, 2, 3, 0, 2, 1, 0, 2, 1, 1, 0, 2, 1, 1, 0, 2, 1, 3, 3, 0, 1, 2, 3, 0, 2, 1, 0, 2, 1, 1, 0, 2, 1]] [7, 8, 9, 35, 36]))) (.reg p32_r15 [7, 8, 9, 35, 36]))))
def p32_r16 : List PI := [
  ⟨none, some 50, [8], .eff fun e => ret (e 8)⟩,
  ⟨none, some 4, [50], .eff fun e => ret (e 50)⟩,
  ⟨none, some 5, [], .eff fun e => ret (.v (Value.int (IntKind.i64) 0))⟩]
def p32 : PCode := (.seq (.reg p32_r0 [0, 1]) (.seq (.reg p32_r1 [0, 1, 6]) (.seq (.block 0 (.seq (.reg p32_r2 [0, 1, 6, 14]) (.cond (Operand.tmp 14) (.seq (.reg p32_r3 [4, 5]) .ret) (.seq (.reg p32_r4 [0, 1, 18]) (.cond (Operand.tmp 18) (.seq (.reg p32_r5 [4, 5]) .ret) .skip))))) (.seq (.reg p32_r6 [1, 7]) (.seq (.seq (.reg p32_r7 [1, 7, 30]) (.cond (Operand.tmp 30) (.seq (.reg p32_r8 [4, 5]) .ret) .skip)) (.seq (.reg p32_r9 [1, 7, 8]) (.seq (.reg p32_r10 [1, 7, 8, 9]) (.seq (.seq (.reg p32_r11 [7, 8, 9, 35, 36]) (.block 1 (.loop p32_l0))) (.seq (.reg p32_r16 [4, 5]) .ret)))))))))
theorem P32 : PFn Try.prog 32 ⟨p32, [SRes.tmp 4, SRes.tmp 5], 51⟩ := ⟨c32, F32, by kernel_rfl⟩

def p34_r0 : List PI := [
  ⟨none, some 2, [], .eff fun e => ret (.v (Value.slice none 0 0))⟩,
  ⟨none, some 3, [], .eff fun e => ret (.v (Value.slice none 0 0))⟩,
  ⟨none, some 4, [], .eff fun e => ret (.v (Value.int (IntKind.i64) 0))⟩]
def p34_r1 : List PI := [
  ⟨none, some 14, [0], .eff fun e => ret (e 0)⟩,
  ⟨none, some 15, [14], .call 23 ([Operand.tmp 14])⟩,
  ⟨none, some 5, [15], .eff fun e => ret (e 15)⟩]
def p34_r2 : List PI := [
  ⟨none, some 16, [5], .eff fun e => ret (e 5)⟩,
  ⟨none, some 17, [16], .eff fun e => effIb (BinOp.neq) (e 16) (.v (Value.int (IntKind.i64) 0))⟩]
def p34_r3 : List PI := [
  ⟨none, some 18, [5], .eff fun e => ret (e 5)⟩,
  ⟨none, some 2, [], .eff fun e => ret (.v (Value.slice none 0 0))⟩,
  ⟨none, some 3, [], .eff fun e => ret (.v (Value.slice none 0 0))⟩,
  ⟨none, some 4, [18], .eff fun e => ret (e 18)⟩]
def p34_r4 : List PI := [
  ⟨none, some 19, [0], .eff fun e => ret (e 0)⟩,
  ⟨none, some 20, [19], .call 54 ([Operand.tmp 19])⟩,
  ⟨none, some 6, [20], .eff fun e => ret (e 20)⟩]
def p34_r5 : List PI := [
  ⟨none, some 21, [6], .eff fun e => ret (e 6)⟩,
  ⟨none, some 22, [6], .eff fun e => ret (e 6)⟩,
  ⟨none, some 23, [22], .eff fun e => effNilck (e 22)⟩,
  ⟨none, some 24, [23], .eff fun e => effOff 1 (e 23)⟩,
  ⟨none, some 25, [24], .eff fun e => effLoadN 4 (e 24)⟩,
  ⟨none, some 26, [21, 25], .call 55 ([Operand.tmp 21, Operand.tmp 25])⟩,
  ⟨none, some 27, [26], .eff fun e => effNt (e 26)⟩]
def p34_r6 : List PI := [
  ⟨none, some 2, [], .eff fun e => ret (.v (Value.slice none 0 0))⟩,
  ⟨none, some 3, [], .eff fun e => ret (.v (Value.slice none 0 0))⟩,
  ⟨none, some 4, [], .eff fun e => ret (.v (Value.int (IntKind.i64) 12))⟩]
def p34_r7 : List PI := [
  ⟨none, some 7, [], .eff fun e => ret (.v (Value.slice none 0 0))⟩]
def p34_r8 : List PI := [
  ⟨none, some 28, [6], .eff fun e => ret (e 6)⟩,
  ⟨none, some 29, [28], .eff fun e => effNilck (e 28)⟩,
  ⟨none, some 30, [29], .eff fun e => effOff 1 (e 29)⟩,
  ⟨none, some 31, [30], .eff fun e => effLoadN 4 (e 30)⟩,
  ⟨none, some 8, [], .eff fun e => effAlloc ([Value.int (IntKind.i64) 0, Value.int (IntKind.i64) 0, Value.int (IntKind.i64) 0, Value.int (IntKind.i64) 0])⟩,
  ⟨none, none, [8, 31], .eff fun e => effStore 4 (e 8) (e 31)⟩]
def p34_r9 : List PI := [
  ⟨none, some 32, [8], .eff fun e => effLoadN 4 (e 8)⟩,
  ⟨none, some 33, [32], .eff fun e => effMks 1 4 ([Value.int (IntKind.i64) 0, Value.int (IntKind.i64) 0, Value.int (IntKind.i64) 0, Value.int (IntKind.i64) 0]) [(0, 4, (e 32))]⟩,
  ⟨none, some 9, [33], .eff fun e => ret (e 33)⟩]
def p34_r10 : List PI := [
  ⟨none, some 35, [6], .eff fun e => ret (e 6)⟩,
  ⟨none, some 36, [8], .eff fun e => effLoadN 4 (e 8)⟩,
  ⟨none, some 37, [35, 36], .call 68 ([Operand.tmp 35, Operand.tmp 36])⟩,
  ⟨none, some 34, [37], .eff fun e => ret (e 37)⟩,
  ⟨none, some 38, [34], .eff fun e => effExt 0 (e 34)⟩,
  ⟨none, some 39, [34], .eff fun e => effExt 1 (e 34)⟩,
  ⟨none, some 11, [], .eff fun e => effAlloc ([Value.int (IntKind.i64) 0, Value.int (IntKind.i64) 0, Value.int (IntKind.i64) 0, Value.int (IntKind.i64) 0])⟩,
  ⟨none, some 10, [38], .eff fun e => ret (e 38)⟩,
  ⟨none, none, [11, 39], .eff fun e => effStore 4 (e 11) (e 39)⟩]
def p34_r11 : List PI := [
  ⟨none, some 40, [7], .eff fun e => ret (e 7)⟩,
  ⟨none, some 41, [10], .eff fun e => ret (e 10)⟩,
  ⟨none, some 42, [41], .eff fun e => effMks 1 1 ([Value.int (IntKind.i64) 0]) [(0, 1, (e 41))]⟩,
  ⟨none, some 43, [40, 42], .eff fun e => effApp 1 8 (e 40) (e 42)⟩,
  ⟨none, some 44, [11], .eff fun e => effLoadN 4 (e 11)⟩,
  ⟨none, some 7, [43], .eff fun e => ret (e 43)⟩,
  ⟨none, none, [8, 44], .eff fun e => effStore 4 (e 8) (e 44)⟩]
def p34_r12 : List PI := [
  ⟨none, some 45, [9], .eff fun e => ret (e 9)⟩,
  ⟨none, some 46, [45], .eff fun e => effLenSl (e 45)⟩,
  ⟨none, some 47, [], .eff fun e => ret (.v (Value.int (IntKind.i64) 0))⟩]
def p34_r13 : List PI := [
  ⟨none, some 48, [47, 46], .eff fun e => effIb (BinOp.lss) (e 47) (e 46)⟩]
def p34_r14 : List PI := [
  ⟨none, some 49, [47], .eff fun e => ret (e 47)⟩,
  ⟨none, some 50, [45, 47], .eff fun e => effIdx 4 (e 45) (e 47)⟩,
  ⟨none, some 51, [50], .eff fun e => effLoadN 4 (e 50)⟩,
  ⟨none, some 13, [], .eff fun e => effAlloc ([Value.int (IntKind.i64) 0, Value.int (IntKind.i64) 0, Value.int (IntKind.i64) 0, Value.int (IntKind.i64) 0])⟩,
  ⟨none, some 12, [49], .eff fun e => ret (e 49)⟩,
  ⟨none, none, [13, 51], .eff fun e => effStore 4 (e 13) (e 51)⟩]
def p34_r15 : List PI := [
  ⟨none, some 52, [13], .eff fun e => effLoadN 4 (e 13)⟩,
  ⟨none, some 53, [8], .eff fun e => effLoadN 4 (e 8)⟩,
  ⟨none, some 54, [52, 53], .eff fun e => effAeq false (KTy.ar 4 (IntKind.i64)) (e 52) (e 53)⟩]
def p34_r16 : List PI := [
  ⟨none, some 55, [7], .eff fun e => ret (e 7)⟩,
  ⟨none, some 56, [12], .eff fun e => ret (e 12)⟩,
  ⟨none, some 57, [12], .eff fun e => ret (e 12)⟩,
  ⟨none, some 58, [55, 56, 57], .eff fun e => effSlc 1 (e 55) none (some (e 56)) (some (e 57))⟩,
  ⟨none, some 59, [7], .eff fun e => ret (e 7)⟩,
  ⟨none, some 60, [12], .eff fun e => ret (e 12)⟩,
  ⟨none, some 61, [59, 60], .eff fun e => effSlc 1 (e 59) (some (e 60)) none none⟩,
  ⟨none, some 2, [58], .eff fun e => ret (e 58)⟩,
  ⟨none, some 3, [61], .eff fun e => ret (e 61)⟩]
def p34_r17 : List PI := [
  ⟨none, some 62, [47], .eff fun e => effIb (BinOp.add) (e 47) (.v (Value.int (IntKind.i64) 1))⟩,
  ⟨none, some 47, [62], .eff fun e => ret (e 62)⟩]
def p34_l0 : PCode := (.seq (.reg p34_r13 [6, 7, 8, 9, 45, 46, 47, 48]) (.seq (.cond (Operand.tmp 48) .skip (.exit 2)) (.seq (.block 3 (.seq (.reg p34_r14 [6, 7, 8, 9, 12, 13, 45, 46, 47]) (.seq (.reg p34_r15 [6, 7, 8, 9, 12, 45, 46, 47, 54]) (.cond (Operand.tmp 54) (.seq (.draw p34_r16 [[], [], [], [0, 1, 2], [], [], [4, 5], [3, 0, 1, 2, 3, 0, 1, 2, 0, 1, 2], [6, 7, 0, 1, 2, 3, 4, 5, 6, 7, 4, 5, 3, 0, 1, 2, 3, 0, 1, 2, 0, 1, 2, 0, 1, 2, 4, 5, 3, 0, 1, 2, 3, 0, 1, 2, 0, 1, 2]] [2, 3]) (.exit 0)) .skip)))) (.reg p34_r17 [6, 7, 8, 9, 45, 46, 47]))))
def p34_r18 : List PI := [
  ⟨none, some 63, [9], .eff fun e => ret (e 9)⟩,
  ⟨none, some 64, [8], .eff fun e => effLoadN 4 (e 8)⟩,
  ⟨none, some 65, [64], .eff fun e => effMks 1 4 ([Value.int (IntKind.i64) 0, Value.int (IntKind.i64) 0, Value.int (IntKind.i64) 0, Value.int (IntKind.i64) 0]) [(0, 4, (e 64))]⟩,
  ⟨none, some 66, [63, 65], .eff fun e => effApp 4 32 (e 63) (e 65)⟩,
  ⟨none, some 9, [66], .eff fun e => ret (e 66)⟩]
def p34_l1 : PCode := (.block 1 (.seq (.reg p34_r10 [6, 7, 8, 9, 10, 11]) (.seq (.draw p34_r11 [[], [], [1], [0, 2, 1], [], [3, 3, 0, 1, 2, 3, 0, 2, 1, 0, 2, 1, 1, 0, 2, 1], [4, 5, 0, 1, 2, 3, 4, 5, 3, 3, 0, 1, 2, 3, 0, 2, 1, 0, 2, 1, 1, 0, 2, 1, 1, 0, 2, 1, 3, 3, 0, 1, 2, 3, 0, 2, 1, 0, 2, 1, 1, 0, 2, 1]] [6, 7, 8, 9]) (.seq (.seq (.reg p34_r12 [6, 7, 8, 9, 45, 46, 47]) (.block 2 (.loop p34_l0))) (.reg p34_r18 [6, 7, 8, 9])))))
def p34_r19 : List PI := [
  ⟨none, some 67, [2], .eff fun e => ret (e 2)⟩,
  ⟨none, some 68, [3], .eff fun e => ret (e 3)⟩,
  ⟨none, some 2, [67], .eff fun e => ret (e 67)⟩,
  ⟨none, some 3, [68], .eff fun e => ret (e 68)⟩,
  ⟨none, some 4, [], .eff fun e => ret (.v (Value.int (IntKind.i64) 0))⟩]
def p34 : PCode := (.seq (.reg p34_r0 [0]) (.scope (.seq (.seq (.reg p34_r1 [0, 5]) (.seq (.reg p34_r2 [0, 5, 17]) (.cond (Operand.tmp 17) (.seq (.reg p34_r3 [2, 3, 4]) .ret) .skip))) (.seq (.reg p34_r4 [6]) (.seq (.seq (.reg p34_r5 [6, 27]) (.cond (Operand.tmp 27) (.seq (.reg p34_r6 [2, 3, 4]) .ret) .skip)) (.seq (.reg p34_r7 [6, 7]) (.seq (.reg p34_r8 [6, 7, 8]) (.seq (.reg p34_r9 [6, 7, 8, 9]) (.seq .skip (.seq (.block 0 (.loop p34_l1)) (.seq (.reg p34_r19 [2, 3, 4]) .ret)))))))))))
theorem P34 : PFn Try.prog 34 ⟨p34, [SRes.tmp 2, SRes.tmp 3, SRes.tmp 4], 69⟩ := ⟨c34, F34, by kernel_rfl⟩

def p36_r0 : List PI := [
  ⟨none, some 1, [0], .eff fun e => effBox (e 0)⟩,
  ⟨none, some 2, [], .eff fun e => ret (.v (Value.slice none 0 0))⟩,
  ⟨none, some 3, [], .eff fun e => ret (.v (Value.int (IntKind.i64) 0))⟩]
def p36_r1 : List PI := [
  ⟨none, some 8, [1], .eff fun e => effLoad1 (e 1)⟩,
  ⟨none, some 9, [8], .call 23 ([Operand.tmp 8])⟩,
  ⟨none, some 4, [9], .eff fun e => ret (e 9)⟩]
def p36_r2 : List PI := [
  ⟨none, some 10, [4], .eff fun e => ret (e 4)⟩,
  ⟨none, some 11, [10], .eff fun e => effIb (BinOp.neq) (e 10) (.v (Value.int (IntKind.i64) 0))⟩]
def p36_r3 : List PI := [
  ⟨none, some 12, [4], .eff fun e => ret (e 4)⟩,
  ⟨none, some 2, [], .eff fun e => ret (.v (Value.slice none 0 0))⟩,
  ⟨none, some 3, [12], .eff fun e => ret (e 12)⟩]
def p36_r4 : List PI := [
  ⟨none, some 5, [], .eff fun e => effAlloc ([Value.slice none 0 0])⟩]
def p36_r5 : List PI := [
  ⟨none, some 6, [], .eff fun e => effAlloc ([Value.nilFunc])⟩]
def p36_r6 : List PI := [
  ⟨none, some 13, [1, 5, 6], .eff fun e => effMkfn (Fn.func 70) [] [(e 1), (e 5), (e 6)]⟩,
  ⟨none, none, [6, 13], .eff fun e => effStore 1 (e 6) (e 13)⟩]
def p36_r7 : List PI := [
  ⟨none, some 7, [], .eff fun e => ret (.v (Value.int (IntKind.i64) 1))⟩]
def p36_r8 : List PI := [
  ⟨none, some 14, [6], .eff fun e => effLoad1 (e 6)⟩,
  ⟨none, some 15, [7], .eff fun e => ret (e 7)⟩,
  ⟨none, some 16, [14, 15], .callv (Operand.tmp 14) ([Operand.const (Value.slice none 0 0), Operand.tmp 15])⟩,
  ⟨none, some 17, [16], .eff fun e => effNt (e 16)⟩]
def p36_r9 : List PI := [
  ⟨none, some 18, [7], .eff fun e => ret (e 7)⟩,
  ⟨none, some 19, [18], .eff fun e => effIb (BinOp.add) (e 18) (.v (Value.int (IntKind.i64) 1))⟩,
  ⟨none, some 7, [19], .eff fun e => ret (e 19)⟩]
def p36_l0 : PCode := (.seq (.seq (.reg p36_r8 [5, 6, 7, 17]) (.cond (Operand.tmp 17) .skip (.exit 0))) (.seq (.block 1 .skip) (.reg p36_r9 [5, 6, 7])))
def p36_r10 : List PI := [
  ⟨none, some 20, [5], .eff fun e => effLoad1 (e 5)⟩,
  ⟨none, some 2, [20], .eff fun e => ret (e 20)⟩,
  ⟨none, some 3, [], .eff fun e => ret (.v (Value.int (IntKind.i64) 0))⟩]
def p36 : PCode := (.seq (.reg p36_r0 [1]) (.seq (.seq (.reg p36_r1 [1, 4]) (.seq (.reg p36_r2 [1, 4, 11]) (.cond (Operand.tmp 11) (.seq (.reg p36_r3 [2, 3]) .ret) .skip))) (.seq (.reg p36_r4 [1, 5]) (.seq (.reg p36_r5 [1, 5, 6]) (.seq (.reg p36_r6 [5, 6]) (.seq (.seq (.reg p36_r7 [5, 6, 7]) (.block 0 (.loop p36_l0))) (.seq (.reg p36_r10 [2, 3]) .ret)))))))
theorem P36 : PFn Try.prog 36 ⟨p36, [SRes.tmp 2, SRes.tmp 3], 21⟩ := ⟨c36, F36, by kernel_rfl⟩

def p70_r0 : List PI := [
  ⟨none, some 7, [], .eff fun e => ret (.v (Value.bool false))⟩]
def p70_r1 : List PI := [
  ⟨none, some 14, [0], .eff fun e => ret (e 0)⟩,
  ⟨none, some 15, [14], .eff fun e => effLenSl (e 14)⟩,
  ⟨none, some 16, [2], .eff fun e => effLoad1 (e 2)⟩,
  ⟨none, some 17, [16], .eff fun e => effLenSl (e 16)⟩,
  ⟨none, some 18, [15, 17], .eff fun e => effIb (BinOp.eql) (e 15) (e 17)⟩]
def p70_r2 : List PI := [
  ⟨none, some 19, [0], .eff fun e => ret (e 0)⟩,
  ⟨none, none, [3, 19], .eff fun e => effStore 1 (e 3) (e 19)⟩]
def p70_r3 : List PI := [
  ⟨none, some 7, [], .eff fun e => ret (.v (Value.bool true))⟩]
def p70_r4 : List PI := [
  ⟨none, some 8, [], .eff fun e => ret (.v (Value.int (IntKind.i64) 0))⟩]
def p70_r5 : List PI := [
  ⟨none, some 20, [0], .eff fun e => ret (e 0)⟩,
  ⟨none, some 21, [20], .eff fun e => effLenSl (e 20)⟩,
  ⟨none, some 22, [21], .eff fun e => effIb (BinOp.gtr) (e 21) (.v (Value.int (IntKind.i64) 0))⟩]
def p70_r6 : List PI := [
  ⟨none, some 23, [0], .eff fun e => ret (e 0)⟩,
  ⟨none, some 24, [23], .call 49 ([Operand.tmp 23])⟩,
  ⟨none, some 25, [24], .eff fun e => effIb (BinOp.add) (e 24) (.v (Value.int (IntKind.i64) 1))⟩,
  ⟨none, some 8, [25], .eff fun e => ret (e 25)⟩]
def p70_r7 : List PI := [
  ⟨none, some 26, [8], .eff fun e => ret (e 8)⟩,
  ⟨none, some 27, [26], .eff fun e => effIb (BinOp.add) (e 26) (.v (Value.int (IntKind.i64) 1))⟩,
  ⟨none, some 28, [1], .eff fun e => ret (e 1)⟩,
  ⟨none, some 29, [27, 28], .eff fun e => effBig false [(e 27), (e 28)]⟩,
  ⟨none, some 30, [], .eff fun e => ret (.v (Value.int (IntKind.i64) 0))⟩]
def p70_r8 : List PI := [
  ⟨none, some 31, [30, 29], .eff fun e => effIb (BinOp.lss) (e 30) (e 29)⟩]
def p70_r9 : List PI := [
  ⟨none, some 32, [30], .eff fun e => ret (e 30)⟩,
  ⟨none, some 9, [32], .eff fun e => ret (e 32)⟩]
def p70_r10 : List PI := [
  ⟨none, some 10, [], .eff fun e => ret (.v (Value.slice none 0 0))⟩]
def p70_r11 : List PI := [
  ⟨none, some 33, [0], .eff fun e => ret (e 0)⟩,
  ⟨none, some 34, [33], .call 48 ([Operand.tmp 33])⟩,
  ⟨none, some 35, [9], .eff fun e => ret (e 9)⟩,
  ⟨none, some 36, [35], .eff fun e => effMks 1 1 ([Value.int (IntKind.i64) 0]) [(0, 1, (e 35))]⟩,
  ⟨none, some 37, [34, 36], .eff fun e => effApp 1 8 (e 34) (e 36)⟩,
  ⟨none, some 38, [37], .eff fun e => effLenSl (e 37)⟩,
  ⟨none, some 39, [], .eff fun e => ret (.v (Value.int (IntKind.i64) 0))⟩]
def p70_r12 : List PI := [
  ⟨none, some 40, [39, 38], .eff fun e => effIb (BinOp.lss) (e 39) (e 38)⟩]
def p70_r13 : List PI := [
  ⟨none, some 41, [39], .eff fun e => ret (e 39)⟩,
  ⟨none, some 42, [37, 39], .eff fun e => effIdx 1 (e 37) (e 39)⟩,
  ⟨none, some 43, [42], .eff fun e => effLoad1 (e 42)⟩,
  ⟨none, some 11, [41], .eff fun e => ret (e 41)⟩,
  ⟨none, some 12, [43], .eff fun e => ret (e 43)⟩]
def p70_r14 : List PI := [
  ⟨none, some 44, [12], .eff fun e => ret (e 12)⟩,
  ⟨none, some 45, [9], .eff fun e => ret (e 9)⟩,
  ⟨none, some 46, [44, 45], .eff fun e => effIb (BinOp.eql) (e 44) (e 45)⟩]
def p70_r15 : List PI := [
  ⟨none, some 47, [10], .eff fun e => ret (e 10)⟩,
  ⟨none, some 48, [2], .eff fun e => effLoad1 (e 2)⟩,
  ⟨none, some 49, [11], .eff fun e => ret (e 11)⟩,
  ⟨none, some 50, [48, 49], .eff fun e => effIdx 1 (e 48) (e 49)⟩,
  ⟨none, some 51, [50], .eff fun e => effLoad1 (e 50)⟩,
  ⟨none, some 52, [51], .eff fun e => effMks 1 1 ([Value.int (IntKind.i64) 0]) [(0, 1, (e 51))]⟩,
  ⟨none, some 53, [47, 52], .eff fun e => effApp 1 8 (e 47) (e 52)⟩,
  ⟨none, some 10, [53], .eff fun e => ret (e 53)⟩]
def p70_r16 : List PI := [
  ⟨none, some 54, [39], .eff fun e => effIb (BinOp.add) (e 39) (.v (Value.int (IntKind.i64) 1))⟩,
  ⟨none, some 39, [54], .eff fun e => ret (e 54)⟩]
def p70_l0 : PCode := (.seq (.reg p70_r12 [0, 1, 2, 4, 9, 10, 29, 30, 37, 38, 39, 40]) (.seq (.cond (Operand.tmp 40) .skip (.exit 2)) (.seq (.block 3 (.seq (.reg p70_r13 [0, 1, 2, 4, 9, 10, 11, 12, 29, 30, 37, 38, 39]) (.seq (.reg p70_r14 [0, 1, 2, 4, 9, 10, 11, 29, 30, 37, 38, 39, 46]) (.cond (Operand.tmp 46) (.reg p70_r15 [0, 1, 2, 4, 9, 10, 29, 30, 37, 38, 39]) .skip)))) (.reg p70_r16 [0, 1, 2, 4, 9, 10, 29, 30, 37, 38, 39]))))
def p70_r17 : List PI := [
  ⟨none, some 55, [10], .eff fun e => ret (e 10)⟩,
  ⟨none, some 56, [55], .call 54 ([Operand.tmp 55])⟩,
  ⟨none, some 13, [56], .eff fun e => ret (e 56)⟩]
def p70_r18 : List PI := [
  ⟨none, some 57, [13], .eff fun e => ret (e 13)⟩,
  ⟨none, some 58, [13], .eff fun e => ret (e 13)⟩,
  ⟨none, some 59, [58], .eff fun e => effNilck (e 58)⟩,
  ⟨none, some 60, [59], .eff fun e => effOff 1 (e 59)⟩,
  ⟨none, some 61, [60], .eff fun e => effLoadN 4 (e 60)⟩,
  ⟨none, some 62, [57, 61], .call 55 ([Operand.tmp 57, Operand.tmp 61])⟩,
  ⟨none, some 63, [62], .eff fun e => ret (e 62)⟩,
  ⟨some (63, true), some 64, [4], .eff fun e => effLoad1 (e 4)⟩,
  ⟨some (63, true), some 65, [0], .eff fun e => ret (e 0)⟩,
  ⟨some (63, true), some 66, [65], .call 48 ([Operand.tmp 65])⟩,
  ⟨some (63, true), some 67, [9], .eff fun e => ret (e 9)⟩,
  ⟨some (63, true), some 68, [67], .eff fun e => effMks 1 1 ([Value.int (IntKind.i64) 0]) [(0, 1, (e 67))]⟩,
  ⟨some (63, true), some 69, [66, 68], .eff fun e => effApp 1 8 (e 66) (e 68)⟩,
  ⟨some (63, true), some 70, [1], .eff fun e => ret (e 1)⟩,
  ⟨some (63, true), some 71, [64, 69, 70], .callv (Operand.tmp 64) ([Operand.tmp 69, Operand.tmp 70])⟩,
  ⟨none, some 72, [63, 71], .eff fun e => effPick (e 63) (e 71) (.v (Value.bool false))⟩]
def p70_r19 : List PI := [
  ⟨none, some 7, [], .eff fun e => ret (.v (Value.bool true))⟩]
def p70_r20 : List PI := [
  ⟨none, some 73, [30], .eff fun e => effIb (BinOp.add) (e 30) (.v (Value.int (IntKind.i64) 1))⟩,
  ⟨none, some 30, [73], .eff fun e => ret (e 73)⟩]
def p70_l1 : PCode := (.seq (.reg p70_r8 [0, 1, 2, 4, 29, 30, 31]) (.seq (.cond (Operand.tmp 31) .skip (.exit 0)) (.seq (.block 1 (.seq (.reg p70_r9 [0, 1, 2, 4, 9, 29, 30]) (.seq (.reg p70_r10 [0, 1, 2, 4, 9, 10, 29, 30]) (.seq (.seq (.reg p70_r11 [0, 1, 2, 4, 9, 10, 29, 30, 37, 38, 39]) (.block 2 (.loop p70_l0))) (.seq (.reg p70_r17 [0, 1, 2, 4, 9, 13, 29, 30]) (.seq (.draw p70_r18 [[], [], [1], [2, 1], [3, 2, 1], [0, 4, 3, 2, 1], [5, 5, 0, 4, 3, 2, 1, 0, 4, 3, 2, 1], [6, 5, 5, 0, 4, 3, 2, 1, 0, 4, 3, 2, 1], [6, 5, 5, 0, 4, 3, 2, 1, 0, 4, 3, 2, 1], [8, 6, 6, 6, 5, 5, 0, 4, 3, 2, 1, 0, 4, 3, 2, 1, 5, 5, 0, 4, 3, 2, 1, 0, 4, 3, 2, 1, 5, 5, 0, 4, 3, 2, 1, 0, 4, 3, 2, 1], [6, 5, 5, 0, 4, 3, 2, 1, 0, 4, 3, 2, 1], [10, 6, 6, 5, 5, 0, 4, 3, 2, 1, 0, 4, 3, 2, 1, 5, 5, 0, 4, 3, 2, 1, 0, 4, 3, 2, 1], [9, 11, 9, 6, 8, 6, 6, 6, 5, 5, 0, 4, 3, 2, 1, 0, 4, 3, 2, 1, 5, 5, 0, 4, 3, 2, 1, 0, 4, 3, 2, 1, 5, 5, 0, 4, 3, 2, 1, 0, 4, 3, 2, 1, 10, 6, 6, 5, 5, 0, 4, 3, 2, 1, 0, 4, 3, 2, 1, 5, 5, 0, 4, 3, 2, 1, 0, 4, 3, 2, 1, 8, 6, 6, 6, 5, 5, 0, 4, 3, 2, 1, 0, 4, 3, 2, 1, 5, 5, 0, 4, 3, 2, 1, 0, 4, 3, 2, 1, 5, 5, 0, 4, 3, 2, 1, 0, 4, 3, 2, 1, 5, 5, 0, 4, 3, 2, 1, 0, 4, 3, 2, 1], [6, 5, 5, 0, 4, 3, 2, 1, 0, 4, 3, 2, 1], [7, 12, 13, 12, 6, 6, 5, 5, 0, 4, 3, 2, 1, 0, 4, 3, 2, 1, 9, 11, 9, 6, 8, 6, 6, 6, 5, 5, 0, 4, 3, 2, 1, 0, 4, 3, 2, 1, 5, 5, 0, 4, 3, 2, 1, 0, 4, 3, 2, 1, 5, 5, 0, 4, 3, 2, 1, 0, 4, 3, 2, 1, 10, 6, 6, 5, 5, 0, 4, 3, 2, 1, 0, 4, 3, 2, 1, 5, 5, 0, 4, 3, 2, 1, 0, 4, 3, 2, 1, 8, 6, 6, 6, 5, 5, 0, 4, 3, 2, 1, 0, 4, 3, 2, 1, 5, 5, 0, 4, 3, 2, 1, 0, 4, 3, 2, 1, 5, 5, 0, 4, 3, 2, 1, 0, 4, 3, 2, 1, 5, 5, 0, 4, 3, 2, 1, 0, 4, 3, 2, 1, 6, 5, 5, 0, 4, 3, 2, 1, 0, 4, 3, 2, 1, 9, 11, 9, 6, 8, 6, 6, 6, 5, 5, 0, 4, 3, 2, 1, 0, 4, 3, 2, 1, 5, 5, 0, 4, 3, 2, 1, 0, 4, 3, 2, 1, 5, 5, 0, 4, 3, 2, 1, 0, 4, 3, 2, 1, 10, 6, 6, 5, 5, 0, 4, 3, 2, 1, 0, 4, 3, 2, 1, 5, 5, 0, 4, 3, 2, 1, 0, 4, 3, 2, 1, 8, 6, 6, 6, 5, 5, 0, 4, 3, 2, 1, 0, 4, 3, 2, 1, 5, 5, 0, 4, 3, 2, 1, 0, 4, 3, 2, 1, 5, 5, 0, 4, 3, 2, 1, 0, 4, 3, 2, 1, 5, 5, 0, 4, 3, 2, 1, 0, 4, 3, 2, 1, 5, 5, 0, 4, 3, 2, 1, 0, 4, 3, 2, 1], [6, 14, 5, 5, 0, 4, 3, 2, 1, 0, 4, 3, 2, 1, 7, 12, 13, 12, 6, 6, 5, 5, 0, 4, 3, 2, 1, 0, 4, 3, 2, 1, 9, 11, 9, 6, 8, 6, 6, 6, 5, 5, 0, 4, 3, 2, 1, 0, 4, 3, 2, 1, 5, 5, 0, 4, 3, 2, 1, 0, 4, 3, 2, 1, 5, 5, 0, 4, 3, 2, 1, 0, 4, 3, 2, 1, 10, 6, 6, 5, 5, 0, 4, 3, 2, 1, 0, 4, 3, 2, 1, 5, 5, 0, 4, 3, 2, 1, 0, 4, 3, 2, 1, 8, 6, 6, 6, 5, 5, 0, 4, 3, 2, 1, 0, 4, 3, 2, 1, 5, 5, 0, 4, 3, 2, 1, 0, 4, 3, 2, 1, 5, 5, 0, 4, 3, 2, 1, 0, 4, 3, 2, 1, 5, 5, 0, 4, 3, 2, 1, 0, 4, 3, 2, 1, 6, 5, 5, 0, 4, 3, 2, 1, 0, 4, 3, 2, 1, 9, 11, 9, 6, 8, 6, 6, 6, 5, 5, 0, 4, 3, 2, 1, 0, 4, 3, 2, 1, 5, 5, 0, 4, 3, 2, 1, 0, 4, 3, 2, 1, 5, 5, 0, 4, 3, 2, 1, 0, 4, 3, 2, 1, 10, 6, 6, 5, 5, 0, 4, 3, 2, 1, 0, 4, 3, 2, 1, 5, 5, 0, 4, 3, 2, 1, 0, 4, 3, 2, 1, 8, 6, 6, 6, 5, 5, 0, 4, 3, 2, 1, 0, 4, 3, 2, 1, 5, 5, 0, 4, 3, 2, 1, 0, 4, 3, 2, 1, 5, 5, 0, 4, 3, 2, 1, 0, 4, 3, 2, 1, 5, 5, 0, 4, 3, 2, 1, 0, 4, 3, 2, 1, 5, 5, 0, 4, 3, 2, 1, 0, 4, 3, 2, 1]] [0, 1, 2, 4, 29, 30, 72]) (.cond (Operand.tmp 72) (.seq (.reg p70_r19 [7]) .ret) .skip))))))) (.reg p70_r20 [0, 1, 2, 4, 29, 30]))))
def p70_r21 : List PI := [
  ⟨none, some 7, [], .eff fun e => ret (.v (Value.bool false))⟩]
def p70 : PCode := (.seq (.reg p70_r0 [0, 1, 2, 3, 4]) (.seq (.seq (.reg p70_r1 [0, 1, 2, 3, 4, 18]) (.cond (Operand.tmp 18) (.seq (.reg p70_r2 []) (.seq (.reg p70_r3 [7]) .ret)) .skip)) (.seq (.reg p70_r4 [0, 1, 2, 4, 8]) (.seq (.seq (.reg p70_r5 [0, 1, 2, 4, 8, 22]) (.cond (Operand.tmp 22) (.reg p70_r6 [0, 1, 2, 4, 8]) .skip)) (.seq (.seq (.reg p70_r7 [0, 1, 2, 4, 29, 30]) (.block 0 (.loop p70_l1))) (.seq (.reg p70_r21 [7]) .ret))))))
theorem P70 : PFn Try.prog 70 ⟨p70, [SRes.tmp 7], 74⟩ := ⟨c70, F70, by kernel_rfl⟩

def p48_r0 : List PI := [
  ⟨none, some 2, [], .eff fun e => ret (.v (Value.slice none 0 0))⟩]
def p48_r1 : List PI := [
  ⟨none, some 3, [0], .eff fun e => ret (e 0)⟩,
  ⟨none, some 4, [0], .eff fun e => ret (e 0)⟩,
  ⟨none, some 5, [4], .eff fun e => effLenSl (e 4)⟩,
  ⟨none, some 6, [0], .eff fun e => ret (e 0)⟩,
  ⟨none, some 7, [6], .eff fun e => effLenSl (e 6)⟩,
  ⟨none, some 8, [3, 5, 7], .eff fun e => effSlc 1 (e 3) none (some (e 5)) (some (e 7))⟩,
  ⟨none, some 2, [8], .eff fun e => ret (e 8)⟩]
def p48 : PCode := (.seq (.reg p48_r0 [0]) (.seq (.reg p48_r1 [2]) .ret))
theorem P48 : PFn Try.prog 48 ⟨p48, [SRes.tmp 2], 9⟩ := ⟨c48, F48, by kernel_rfl⟩

def p49_r0 : List PI := [
  ⟨none, some 2, [], .eff fun e => ret (.v (Value.int (IntKind.i64) 0))⟩]
def p49_r1 : List PI := [
  ⟨none, some 5, [0], .eff fun e => ret (e 0)⟩,
  ⟨none, some 6, [5], .eff fun e => effLenSl (e 5)⟩,
  ⟨none, some 7, [6], .eff fun e => effIb (BinOp.lss) (e 6) (.v (Value.int (IntKind.i64) 1))⟩]
def p49_r2 : List PI := [
  ⟨none, some 8, [], .eff fun e => effMkifc 9 (.v (Value.string (⟨#[115, 108, 105, 99, 101, 115, 46, 77, 97, 120, 58, 32, 101, 109, 112, 116, 121, 32, 108, 105, 115, 116]⟩ : ByteArray)))⟩,
  ⟨none, none, [], .eff fun e => none⟩]
def p49_r3 : List PI := [
  ⟨none, some 9, [0], .eff fun e => ret (e 0)⟩,
  ⟨none, some 10, [9], .eff fun e => effIdx 1 (e 9) (.v (Value.int (IntKind.i64) 0))⟩,
  ⟨none, some 11, [10], .eff fun e => effLoad1 (e 10)⟩,
  ⟨none, some 3, [11], .eff fun e => ret (e 11)⟩]
def p49_r4 : List PI := [
  ⟨none, some 4, [], .eff fun e => ret (.v (Value.int (IntKind.i64) 1))⟩]
def p49_r5 : List PI := [
  ⟨none, some 12, [4], .eff fun e => ret (e 4)⟩,
  ⟨none, some 13, [0], .eff fun e => ret (e 0)⟩,
  ⟨none, some 14, [13], .eff fun e => effLenSl (e 13)⟩,
  ⟨none, some 15, [12, 14], .eff fun e => effIb (BinOp.lss) (e 12) (e 14)⟩]
def p49_r6 : List PI := [
  ⟨none, some 18, [3], .eff fun e => ret (e 3)⟩,
  ⟨none, some 19, [0], .eff fun e => ret (e 0)⟩,
  ⟨none, some 20, [4], .eff fun e => ret (e 4)⟩,
  ⟨none, some 21, [19, 20], .eff fun e => effIdx 1 (e 19) (e 20)⟩,
  ⟨none, some 22, [21], .eff fun e => effLoad1 (e 21)⟩,
  ⟨none, some 23, [18, 22], .eff fun e => effBig true [(e 18), (e 22)]⟩,
  ⟨none, some 3, [23], .eff fun e => ret (e 23)⟩]
def p49_r7 : List PI := [
  ⟨none, some 16, [4], .eff fun e => ret (e 4)⟩,
  ⟨none, some 17, [16], .eff fun e => effIb (BinOp.add) (e 16) (.v (Value.int (IntKind.i64) 1))⟩,
  ⟨none, some 4, [17], .eff fun e => ret (e 17)⟩]
def p49_l0 : PCode := (.seq (.seq (.reg p49_r5 [0, 3, 4, 15]) (.cond (Operand.tmp 15) .skip (.exit 0))) (.seq (.block 1 (.reg p49_r6 [0, 3, 4])) (.reg p49_r7 [0, 3, 4])))
def p49_r8 : List PI := [
  ⟨none, some 24, [3], .eff fun e => ret (e 3)⟩,
  ⟨none, some 2, [24], .eff fun e => ret (e 24)⟩]
def p49 : PCode := (.seq (.reg p49_r0 [0]) (.seq (.seq (.reg p49_r1 [0, 7]) (.cond (Operand.tmp 7) (.reg p49_r2 [0]) .skip)) (.seq (.reg p49_r3 [0, 3]) (.seq (.seq (.reg p49_r4 [0, 3, 4]) (.block 0 (.loop p49_l0))) (.seq (.reg p49_r8 [2]) .ret)))))
theorem P49 : PFn Try.prog 49 ⟨p49, [SRes.tmp 2], 25⟩ := ⟨c49, F49, by kernel_rfl⟩

def p30_r0 : List PI := [
  ⟨none, some 2, [0], .eff fun e => effBox (e 0)⟩,
  ⟨none, some 4, [], .eff fun e => ret (.v (Value.int (IntKind.i64) 0))⟩]
def p30_r1 : List PI := [
  ⟨none, some 11, [2], .eff fun e => effLoad1 (e 2)⟩,
  ⟨none, some 12, [11], .call 23 ([Operand.tmp 11])⟩,
  ⟨none, some 5, [12], .eff fun e => ret (e 12)⟩]
def p30_r2 : List PI := [
  ⟨none, some 14, [5], .eff fun e => ret (e 5)⟩,
  ⟨none, some 15, [14], .eff fun e => effIb (BinOp.neq) (e 14) (.v (Value.int (IntKind.i64) 0))⟩,
  ⟨none, some 13, [15], .eff fun e => ret (e 15)⟩]
def p30_r3 : List PI := [
  ⟨none, some 16, [5], .eff fun e => ret (e 5)⟩,
  ⟨none, some 4, [16], .eff fun e => ret (e 16)⟩]
def p30_r4 : List PI := [
  ⟨none, some 18, [1], .eff fun e => ret (e 1)⟩,
  ⟨none, some 19, [18], .eff fun e => effLenSl (e 18)⟩,
  ⟨none, some 20, [19], .eff fun e => effIb (BinOp.eql) (e 19) (.v (Value.int (IntKind.i64) 0))⟩,
  ⟨none, some 17, [20], .eff fun e => ret (e 20)⟩]
def p30_r5 : List PI := [
  ⟨none, some 4, [], .eff fun e => ret (.v (Value.int (IntKind.i64) 4))⟩]
def p30_r6 : List PI := [
  ⟨none, some 22, [1], .eff fun e => ret (e 1)⟩,
  ⟨none, some 23, [22], .eff fun e => effLenSl (e 22)⟩,
  ⟨none, some 24, [23], .eff fun e => effIb (BinOp.gtr) (e 23) (.v (Value.int (IntKind.i64) 60))⟩,
  ⟨none, some 21, [24], .eff fun e => ret (e 24)⟩]
def p30_r7 : List PI := [
  ⟨none, some 4, [], .eff fun e => ret (.v (Value.int (IntKind.i64) 19))⟩]
def p30_r8 : List PI := [
  ⟨none, some 26, [1], .eff fun e => ret (e 1)⟩,
  ⟨none, some 27, [2], .eff fun e => effMkfn (Fn.func 66) [] [(e 2)]⟩,
  ⟨none, some 28, [26, 27], .call 58 ([Operand.tmp 26, Operand.tmp 27])⟩,
  ⟨none, some 25, [28], .eff fun e => ret (e 28)⟩]
def p30_r9 : List PI := [
  ⟨none, some 4, [], .eff fun e => ret (.v (Value.int (IntKind.i64) 2))⟩]
def p30_r10 : List PI := [
  ⟨none, some 29, [2], .eff fun e => effLoad1 (e 2)⟩,
  ⟨none, some 30, [29], .eff fun e => effLenSl (e 29)⟩,
  ⟨none, some 31, [], .eff fun e => ret (.v (Value.int (IntKind.i64) 0))⟩]
def p30_r11 : List PI := [
  ⟨none, some 32, [31, 30], .eff fun e => effIb (BinOp.lss) (e 31) (e 30)⟩]
def p30_r12 : List PI := [
  ⟨none, some 33, [31], .eff fun e => ret (e 31)⟩,
  ⟨none, some 34, [29, 31], .eff fun e => effIdx 1 (e 29) (e 31)⟩,
  ⟨none, some 35, [34], .eff fun e => effLoad1 (e 34)⟩,
  ⟨none, some 6, [33], .eff fun e => ret (e 33)⟩,
  ⟨none, some 7, [35], .eff fun e => ret (e 35)⟩]
def p30_r13 : List PI := [
  ⟨none, some 36, [1], .eff fun e => ret (e 1)⟩,
  ⟨none, some 37, [6], .eff fun e => ret (e 6)⟩,
  ⟨none, some 38, [36, 37], .call 67 ([Operand.tmp 36, Operand.tmp 37])⟩,
  ⟨none, some 8, [38], .eff fun e => ret (e 38)⟩]
def p30_r14 : List PI := [
  ⟨none, some 39, [8], .eff fun e => ret (e 8)⟩,
  ⟨none, some 40, [39], .eff fun e => effIb (BinOp.lss) (e 39) (.v (Value.int (IntKind.i64) 0))⟩]
def p30_r15 : List PI := [
  ⟨none, some 4, [], .eff fun e => ret (.v (Value.int (IntKind.i64) 14))⟩]
def p30_r16 : List PI := [
  ⟨none, some 41, [8], .eff fun e => ret (e 8)⟩,
  ⟨none, some 9, [41], .eff fun e => ret (e 41)⟩]
def p30_r17 : List PI := [
  ⟨none, some 42, [8], .eff fun e => ret (e 8)⟩,
  ⟨none, some 43, [42], .eff fun e => effIb (BinOp.add) (e 42) (.v (Value.int (IntKind.i64) 1))⟩,
  ⟨none, some 10, [43], .eff fun e => ret (e 43)⟩]
def p30_r18 : List PI := [
  ⟨none, some 44, [10], .eff fun e => ret (e 10)⟩,
  ⟨none, some 45, [8], .eff fun e => ret (e 8)⟩,
  ⟨none, some 46, [1], .eff fun e => ret (e 1)⟩,
  ⟨none, some 47, [46], .eff fun e => effLenSl (e 46)⟩,
  ⟨none, some 48, [45, 47], .eff fun e => effIb (BinOp.add) (e 45) (e 47)⟩,
  ⟨none, some 49, [44, 48], .eff fun e => effIb (BinOp.leq) (e 44) (e 48)⟩]
def p30_r19 : List PI := [
  ⟨none, some 52, [1], .eff fun e => ret (e 1)⟩,
  ⟨none, some 53, [10], .eff fun e => ret (e 10)⟩,
  ⟨none, some 54, [1], .eff fun e => ret (e 1)⟩,
  ⟨none, some 55, [54], .eff fun e => effLenSl (e 54)⟩,
  ⟨none, some 56, [53, 55], .eff fun e => effIb (BinOp.rem) (e 53) (e 55)⟩,
  ⟨none, some 57, [52, 56], .eff fun e => effIdx 1 (e 52) (e 56)⟩,
  ⟨none, some 58, [57], .eff fun e => effLoad1 (e 57)⟩,
  ⟨none, some 59, [6], .eff fun e => ret (e 6)⟩,
  ⟨none, some 60, [58, 59], .eff fun e => effIb (BinOp.eql) (e 58) (e 59)⟩]
def p30_r20 : List PI := [
  ⟨none, some 61, [10], .eff fun e => ret (e 10)⟩,
  ⟨none, some 62, [9], .eff fun e => ret (e 9)⟩,
  ⟨none, some 63, [61, 62], .eff fun e => effIb (BinOp.sub) (e 61) (e 62)⟩,
  ⟨none, some 64, [7], .eff fun e => ret (e 7)⟩,
  ⟨none, some 65, [63, 64], .eff fun e => effIb (BinOp.gtr) (e 63) (e 64)⟩]
def p30_r21 : List PI := [
  ⟨none, some 4, [], .eff fun e => ret (.v (Value.int (IntKind.i64) 14))⟩]
def p30_r22 : List PI := [
  ⟨none, some 66, [10], .eff fun e => ret (e 10)⟩,
  ⟨none, some 9, [66], .eff fun e => ret (e 66)⟩]
def p30_r23 : List PI := [
  ⟨none, some 50, [10], .eff fun e => ret (e 10)⟩,
  ⟨none, some 51, [50], .eff fun e => effIb (BinOp.add) (e 50) (.v (Value.int (IntKind.i64) 1))⟩,
  ⟨none, some 10, [51], .eff fun e => ret (e 51)⟩]
def p30_l0 : PCode := (.seq (.seq (.reg p30_r18 [1, 6, 7, 8, 9, 10, 29, 30, 31, 49]) (.cond (Operand.tmp 49) .skip (.exit 3))) (.seq (.block 4 (.seq (.reg p30_r19 [1, 6, 7, 8, 9, 10, 29, 30, 31, 60]) (.cond (Operand.tmp 60) (.seq (.seq (.reg p30_r20 [1, 6, 7, 8, 10, 29, 30, 31, 65]) (.cond (Operand.tmp 65) (.seq (.reg p30_r21 [4]) .ret) .skip)) (.reg p30_r22 [1, 6, 7, 8, 9, 10, 29, 30, 31])) .skip))) (.reg p30_r23 [1, 6, 7, 8, 9, 10, 29, 30, 31])))
def p30_r24 : List PI := [
  ⟨none, some 67, [31], .eff fun e => effIb (BinOp.add) (e 31) (.v (Value.int (IntKind.i64) 1))⟩,
  ⟨none, some 31, [67], .eff fun e => ret (e 67)⟩]
def p30_l1 : PCode := (.seq (.reg p30_r11 [1, 29, 30, 31, 32]) (.seq (.cond (Operand.tmp 32) .skip (.exit 1)) (.seq (.block 2 (.seq (.reg p30_r12 [1, 6, 7, 29, 30, 31]) (.seq (.reg p30_r13 [1, 6, 7, 8, 29, 30, 31]) (.seq (.seq (.reg p30_r14 [1, 6, 7, 8, 29, 30, 31, 40]) (.cond (Operand.tmp 40) (.seq (.reg p30_r15 [4]) .ret) .skip)) (.seq (.reg p30_r16 [1, 6, 7, 8, 9, 29, 30, 31]) (.seq (.reg p30_r17 [1, 6, 7, 8, 9, 10, 29, 30, 31]) (.block 3 (.loop p30_l0)))))))) (.reg p30_r24 [1, 29, 30, 31]))))
def p30_r25 : List PI := [
  ⟨none, some 4, [], .eff fun e => ret (.v (Value.int (IntKind.i64) 0))⟩]
def p30 : PCode := (.seq (.reg p30_r0 [1, 2]) (.seq (.reg p30_r1 [1, 2, 5]) (.seq (.block 0 (.seq (.reg p30_r2 [1, 2, 5, 13]) (.cond (Operand.tmp 13) (.seq (.reg p30_r3 [4]) .ret) (.seq (.reg p30_r4 [1, 2, 17]) (.cond (Operand.tmp 17) (.seq (.reg p30_r5 [4]) .ret) (.seq (.reg p30_r6 [1, 2, 21]) (.cond (Operand.tmp 21) (.seq (.reg p30_r7 [4]) .ret) (.seq (.reg p30_r8 [1, 2, 25]) (.cond (Operand.tmp 25) (.seq (.reg p30_r9 [4]) .ret) .skip))))))))) (.seq (.seq (.reg p30_r10 [1, 29, 30, 31]) (.block 1 (.loop p30_l1))) (.seq (.reg p30_r25 [4]) .ret)))))
theorem P30 : PFn Try.prog 30 ⟨p30, [SRes.tmp 4], 68⟩ := ⟨c30, F30, by kernel_rfl⟩

def p66_r0 : List PI := [
  ⟨none, some 3, [], .eff fun e => ret (.v (Value.bool false))⟩]
def p66_r1 : List PI := [
  ⟨none, some 4, [0], .eff fun e => ret (e 0)⟩,
  ⟨none, some 5, [1], .eff fun e => effLoad1 (e 1)⟩,
  ⟨none, some 6, [5], .eff fun e => effLenSl (e 5)⟩,
  ⟨none, some 7, [6], .eff fun e => effIb (BinOp.sub) (e 6) (.v (Value.int (IntKind.i64) 1))⟩,
  ⟨none, some 8, [4, 7], .call 60 ([Operand.const (Value.int (IntKind.i64) 0), Operand.tmp 4, Operand.tmp 7])⟩,
  ⟨none, some 9, [8], .eff fun e => effNt (e 8)⟩,
  ⟨none, some 3, [9], .eff fun e => ret (e 9)⟩]
def p66 : PCode := (.seq (.reg p66_r0 [0, 1]) (.seq (.reg p66_r1 [3]) .ret))
theorem P66 : PFn Try.prog 66 ⟨p66, [SRes.tmp 3], 10⟩ := ⟨c66, F66, by kernel_rfl⟩

def p67_r0 : List PI := [
  ⟨none, some 4, [], .eff fun e => ret (.v (Value.int (IntKind.i64) 0))⟩]
def p67_r1 : List PI := [
  ⟨none, some 6, [0], .eff fun e => ret (e 0)⟩,
  ⟨none, some 7, [6], .eff fun e => effLenSl (e 6)⟩,
  ⟨none, some 8, [], .eff fun e => ret (.v (Value.int (IntKind.i64) 0))⟩]
def p67_r2 : List PI := [
  ⟨none, some 9, [8, 7], .eff fun e => effIb (BinOp.lss) (e 8) (e 7)⟩]
def p67_r3 : List PI := [
  ⟨none, some 10, [8], .eff fun e => ret (e 8)⟩,
  ⟨none, some 5, [10], .eff fun e => ret (e 10)⟩]
def p67_r4 : List PI := [
  ⟨none, some 11, [1], .eff fun e => ret (e 1)⟩,
  ⟨none, some 12, [0], .eff fun e => ret (e 0)⟩,
  ⟨none, some 13, [5], .eff fun e => ret (e 5)⟩,
  ⟨none, some 14, [12, 13], .eff fun e => effIdx 1 (e 12) (e 13)⟩,
  ⟨none, some 15, [14], .eff fun e => effLoad1 (e 14)⟩,
  ⟨none, some 16, [11, 15], .eff fun e => effIb (BinOp.eql) (e 11) (e 15)⟩]
def p67_r5 : List PI := [
  ⟨none, some 17, [5], .eff fun e => ret (e 5)⟩,
  ⟨none, some 4, [17], .eff fun e => ret (e 17)⟩]
def p67_r6 : List PI := [
  ⟨none, some 18, [8], .eff fun e => effIb (BinOp.add) (e 8) (.v (Value.int (IntKind.i64) 1))⟩,
  ⟨none, some 8, [18], .eff fun e => ret (e 18)⟩]
def p67_l0 : PCode := (.seq (.reg p67_r2 [0, 1, 7, 8, 9]) (.seq (.cond (Operand.tmp 9) .skip (.exit 0)) (.seq (.block 1 (.seq (.reg p67_r3 [0, 1, 5, 7, 8]) (.seq (.reg p67_r4 [0, 1, 5, 7, 8, 16]) (.cond (Operand.tmp 16) (.seq (.reg p67_r5 [4]) .ret) .skip)))) (.reg p67_r6 [0, 1, 7, 8]))))
def p67_r7 : List PI := [
  ⟨none, some 4, [], .eff fun e => ret (.v (Value.int (IntKind.i64) (-1)))⟩]
def p67 : PCode := (.seq (.reg p67_r0 [0, 1]) (.seq (.seq (.reg p67_r1 [0, 1, 7, 8]) (.block 0 (.loop p67_l0))) (.seq (.reg p67_r7 [4]) .ret)))
theorem P67 : PFn Try.prog 67 ⟨p67, [SRes.tmp 4], 19⟩ := ⟨c67, F67, by kernel_rfl⟩

def p39_r0 : List PI := [
  ⟨none, some 0, [], .eff fun e => ret (.v (Value.slice none 0 0))⟩]
def p39_r1 : List PI := [
  ⟨none, some 1, [], .eff fun e => effMks 3 1 ([Value.int (IntKind.i64) 0, Value.int (IntKind.i64) 0, Value.int (IntKind.i64) 0]) [(0, 1, (.v (Value.int (IntKind.i64) 2))), (1, 1, (.v (Value.int (IntKind.i64) 3))), (2, 1, (.v (Value.int (IntKind.i64) 6)))]⟩,
  ⟨none, some 2, [1], .call 40 ([Operand.tmp 1])⟩,
  ⟨none, some 0, [2], .eff fun e => ret (e 2)⟩]
def p39 : PCode := (.seq (.reg p39_r0 []) (.seq (.reg p39_r1 [0]) .ret))
theorem P39 : PFn Try.prog 39 ⟨p39, [SRes.tmp 0], 3⟩ := ⟨c39, F39, by kernel_rfl⟩

def p40_r0 : List PI := [
  ⟨none, some 2, [], .eff fun e => ret (.v (Value.slice none 0 0))⟩]
def p40_r1 : List PI := [
  ⟨none, some 3, [0], .eff fun e => ret (e 0)⟩,
  ⟨none, some 2, [3], .eff fun e => ret (e 3)⟩]
def p40 : PCode := (.seq (.reg p40_r0 [0]) (.seq (.reg p40_r1 [2]) .ret))
theorem P40 : PFn Try.prog 40 ⟨p40, [SRes.tmp 2], 4⟩ := ⟨c40, F40, by kernel_rfl⟩

def p41_r0 : List PI := [
  ⟨none, some 0, [], .eff fun e => ret (.v (Value.slice none 0 0))⟩]
def p41_r1 : List PI := [
  ⟨none, some 1, [], .eff fun e => effMks 2 1 ([Value.int (IntKind.i64) 0, Value.int (IntKind.i64) 0]) [(0, 1, (.v (Value.int (IntKind.i64) 2))), (1, 1, (.v (Value.int (IntKind.i64) 3)))]⟩,
  ⟨none, some 2, [1], .call 40 ([Operand.tmp 1])⟩,
  ⟨none, some 0, [2], .eff fun e => ret (e 2)⟩]
def p41 : PCode := (.seq (.reg p41_r0 []) (.seq (.reg p41_r1 [0]) .ret))
theorem P41 : PFn Try.prog 41 ⟨p41, [SRes.tmp 0], 3⟩ := ⟨c41, F41, by kernel_rfl⟩

def p16_r0 : List PI := [
  ⟨none, some 0, [], .eff fun e => ret (.v (Value.bool false))⟩]
def p16_r1 : List PI := [
  ⟨none, some 19, [], .call 41 ([])⟩,
  ⟨none, some 20, [19], .call 17 ([Operand.tmp 19])⟩,
  ⟨none, some 18, [20], .eff fun e => ret (e 20)⟩,
  ⟨none, some 21, [18], .eff fun e => effExt 0 (e 18)⟩,
  ⟨none, some 22, [18], .eff fun e => effExt 1 (e 18)⟩,
  ⟨none, some 23, [18], .eff fun e => effExt 2 (e 18)⟩,
  ⟨none, some 1, [21], .eff fun e => ret (e 21)⟩,
  ⟨none, some 2, [22], .eff fun e => ret (e 22)⟩,
  ⟨none, some 3, [23], .eff fun e => ret (e 23)⟩]
def p16_r2 : List PI := [
  ⟨none, some 25, [], .call 41 ([])⟩,
  ⟨none, some 26, [25], .call 19 ([Operand.tmp 25])⟩,
  ⟨none, some 24, [26], .eff fun e => ret (e 26)⟩,
  ⟨none, some 27, [24], .eff fun e => effExt 0 (e 24)⟩,
  ⟨none, some 28, [24], .eff fun e => effExt 1 (e 24)⟩,
  ⟨none, some 4, [27], .eff fun e => ret (e 27)⟩,
  ⟨none, some 5, [28], .eff fun e => ret (e 28)⟩]
def p16_r3 : List PI := [
  ⟨none, some 30, [], .call 39 ([])⟩,
  ⟨none, some 31, [30], .call 19 ([Operand.tmp 30])⟩,
  ⟨none, some 29, [31], .eff fun e => ret (e 31)⟩,
  ⟨none, some 32, [29], .eff fun e => effExt 0 (e 29)⟩,
  ⟨none, some 33, [29], .eff fun e => effExt 1 (e 29)⟩,
  ⟨none, some 6, [32], .eff fun e => ret (e 32)⟩,
  ⟨none, some 7, [33], .eff fun e => ret (e 33)⟩]
def p16_r4 : List PI := [
  ⟨none, some 35, [], .call 39 ([])⟩,
  ⟨none, some 36, [35], .call 21 ([Operand.tmp 35])⟩,
  ⟨none, some 34, [36], .eff fun e => ret (e 36)⟩,
  ⟨none, some 37, [34], .eff fun e => effExt 0 (e 34)⟩,
  ⟨none, some 38, [34], .eff fun e => effExt 1 (e 34)⟩,
  ⟨none, some 8, [37], .eff fun e => ret (e 37)⟩,
  ⟨none, some 9, [38], .eff fun e => ret (e 38)⟩]
def p16_r5 : List PI := [
  ⟨none, some 40, [], .call 41 ([])⟩,
  ⟨none, some 41, [], .eff fun e => effMks 2 1 ([Value.int (IntKind.i64) 0, Value.int (IntKind.i64) 0]) [(0, 1, (.v (Value.int (IntKind.i64) 0))), (1, 1, (.v (Value.int (IntKind.i64) 0)))]⟩,
  ⟨none, some 42, [41], .call 40 ([Operand.tmp 41])⟩,
  ⟨none, some 43, [40, 42], .call 25 ([Operand.tmp 40, Operand.tmp 42])⟩,
  ⟨none, some 39, [43], .eff fun e => ret (e 43)⟩,
  ⟨none, some 44, [39], .eff fun e => effExt 0 (e 39)⟩,
  ⟨none, some 45, [39], .eff fun e => effExt 1 (e 39)⟩,
  ⟨none, some 10, [44], .eff fun e => ret (e 44)⟩,
  ⟨none, some 11, [45], .eff fun e => ret (e 45)⟩]
def p16_r6 : List PI := [
  ⟨none, some 47, [], .call 41 ([])⟩,
  ⟨none, some 48, [], .eff fun e => effMks 2 1 ([Value.int (IntKind.i64) 0, Value.int (IntKind.i64) 0]) [(0, 1, (.v (Value.int (IntKind.i64) 0))), (1, 1, (.v (Value.int (IntKind.i64) 0)))]⟩,
  ⟨none, some 49, [48], .call 40 ([Operand.tmp 48])⟩,
  ⟨none, some 50, [47, 49], .call 27 ([Operand.tmp 47, Operand.tmp 49])⟩,
  ⟨none, some 46, [50], .eff fun e => ret (e 50)⟩,
  ⟨none, some 51, [46], .eff fun e => effExt 0 (e 46)⟩,
  ⟨none, some 52, [46], .eff fun e => effExt 1 (e 46)⟩,
  ⟨none, some 12, [51], .eff fun e => ret (e 51)⟩,
  ⟨none, some 13, [52], .eff fun e => ret (e 52)⟩]
def p16_r7 : List PI := [
  ⟨none, some 53, [3], .eff fun e => ret (e 3)⟩,
  ⟨none, some 54, [53], .eff fun e => effIb (BinOp.neq) (e 53) (.v (Value.int (IntKind.i64) 0))⟩,
  ⟨none, some 55, [54], .eff fun e => ret (e 54)⟩,
  ⟨some (55, false), some 56, [5], .eff fun e => ret (e 5)⟩,
  ⟨some (55, false), some 57, [56], .eff fun e => effIb (BinOp.neq) (e 56) (.v (Value.int (IntKind.i64) 0))⟩,
  ⟨none, some 58, [55, 57], .eff fun e => effPick (e 55) (.v (Value.bool true)) (e 57)⟩,
  ⟨none, some 59, [58], .eff fun e => ret (e 58)⟩,
  ⟨some (59, false), some 60, [7], .eff fun e => ret (e 7)⟩,
  ⟨some (59, false), some 61, [60], .eff fun e => effIb (BinOp.neq) (e 60) (.v (Value.int (IntKind.i64) 0))⟩,
  ⟨none, some 62, [59, 61], .eff fun e => effPick (e 59) (.v (Value.bool true)) (e 61)⟩,
  ⟨none, some 63, [62], .eff fun e => ret (e 62)⟩,
  ⟨some (63, false), some 64, [9], .eff fun e => ret (e 9)⟩,
  ⟨some (63, false), some 65, [64], .eff fun e => effIb (BinOp.neq) (e 64) (.v (Value.int (IntKind.i64) 0))⟩,
  ⟨none, some 66, [63, 65], .eff fun e => effPick (e 63) (.v (Value.bool true)) (e 65)⟩,
  ⟨none, some 67, [66], .eff fun e => ret (e 66)⟩,
  ⟨some (67, false), some 68, [11], .eff fun e => ret (e 11)⟩,
  ⟨some (67, false), some 69, [68], .eff fun e => effIb (BinOp.neq) (e 68) (.v (Value.int (IntKind.i64) 0))⟩,
  ⟨none, some 70, [67, 69], .eff fun e => effPick (e 67) (.v (Value.bool true)) (e 69)⟩,
  ⟨none, some 71, [70], .eff fun e => ret (e 70)⟩,
  ⟨some (71, false), some 72, [13], .eff fun e => ret (e 13)⟩,
  ⟨some (71, false), some 73, [72], .eff fun e => effIb (BinOp.neq) (e 72) (.v (Value.int (IntKind.i64) 0))⟩,
  ⟨none, some 74, [71, 73], .eff fun e => effPick (e 71) (.v (Value.bool true)) (e 73)⟩]
def p16_r8 : List PI := [
  ⟨none, some 0, [], .eff fun e => ret (.v (Value.bool false))⟩]
def p16_r9 : List PI := [
  ⟨none, some 76, [], .call 41 ([])⟩,
  ⟨none, some 77, [76], .call 32 ([Operand.tmp 76, Operand.const (Value.int (IntKind.i64) 6)])⟩,
  ⟨none, some 75, [77], .eff fun e => ret (e 77)⟩,
  ⟨none, some 78, [75], .eff fun e => effExt 0 (e 75)⟩,
  ⟨none, some 79, [75], .eff fun e => effExt 1 (e 75)⟩,
  ⟨none, some 14, [78], .eff fun e => ret (e 78)⟩,
  ⟨none, some 3, [79], .eff fun e => ret (e 79)⟩]
def p16_r10 : List PI := [
  ⟨none, some 81, [], .call 41 ([])⟩,
  ⟨none, some 82, [81], .call 34 ([Operand.tmp 81])⟩,
  ⟨none, some 80, [82], .eff fun e => ret (e 82)⟩,
  ⟨none, some 83, [80], .eff fun e => effExt 0 (e 80)⟩,
  ⟨none, some 84, [80], .eff fun e => effExt 1 (e 80)⟩,
  ⟨none, some 85, [80], .eff fun e => effExt 2 (e 80)⟩,
  ⟨none, some 15, [83], .eff fun e => ret (e 83)⟩,
  ⟨none, some 16, [84], .eff fun e => ret (e 84)⟩,
  ⟨none, some 5, [85], .eff fun e => ret (e 85)⟩]
def p16_r11 : List PI := [
  ⟨none, some 87, [], .call 39 ([])⟩,
  ⟨none, some 88, [87], .call 36 ([Operand.tmp 87])⟩,
  ⟨none, some 86, [88], .eff fun e => ret (e 88)⟩,
  ⟨none, some 89, [86], .eff fun e => effExt 0 (e 86)⟩,
  ⟨none, some 90, [86], .eff fun e => effExt 1 (e 86)⟩,
  ⟨none, some 17, [89], .eff fun e => ret (e 89)⟩,
  ⟨none, some 7, [90], .eff fun e => ret (e 90)⟩]
def p16_r12 : List PI := [
  ⟨none, some 92, [], .call 41 ([])⟩,
  ⟨none, some 93, [92], .call 21 ([Operand.tmp 92])⟩,
  ⟨none, some 91, [93], .eff fun e => ret (e 93)⟩,
  ⟨none, some 94, [91], .eff fun e => effExt 0 (e 91)⟩,
  ⟨none, some 95, [91], .eff fun e => effExt 1 (e 91)⟩,
  ⟨none, some 9, [95], .eff fun e => ret (e 95)⟩]
def p16_r13 : List PI := [
  ⟨none, some 97, [], .call 39 ([])⟩,
  ⟨none, some 98, [97], .call 32 ([Operand.tmp 97, Operand.const (Value.int (IntKind.i64) 1)])⟩,
  ⟨none, some 96, [98], .eff fun e => ret (e 98)⟩,
  ⟨none, some 99, [96], .eff fun e => effExt 0 (e 96)⟩,
  ⟨none, some 100, [96], .eff fun e => effExt 1 (e 96)⟩,
  ⟨none, some 11, [100], .eff fun e => ret (e 100)⟩]
def p16_r14 : List PI := [
  ⟨none, some 102, [], .call 41 ([])⟩,
  ⟨none, some 103, [], .eff fun e => effMks 2 1 ([Value.int (IntKind.i64) 0, Value.int (IntKind.i64) 0]) [(0, 1, (.v (Value.int (IntKind.i64) 1))), (1, 1, (.v (Value.int (IntKind.i64) 1)))]⟩,
  ⟨none, some 104, [103], .call 40 ([Operand.tmp 103])⟩,
  ⟨none, some 105, [102, 104], .call 25 ([Operand.tmp 102, Operand.tmp 104])⟩,
  ⟨none, some 101, [105], .eff fun e => ret (e 105)⟩,
  ⟨none, some 106, [101], .eff fun e => effExt 0 (e 101)⟩,
  ⟨none, some 107, [101], .eff fun e => effExt 1 (e 101)⟩,
  ⟨none, some 13, [107], .eff fun e => ret (e 107)⟩]
def p16_r15 : List PI := [
  ⟨none, some 108, [3], .eff fun e => ret (e 3)⟩,
  ⟨none, some 109, [108], .eff fun e => effIb (BinOp.eql) (e 108) (.v (Value.int (IntKind.i64) 0))⟩,
  ⟨none, some 110, [109], .eff fun e => ret (e 109)⟩,
  ⟨some (110, true), some 111, [5], .eff fun e => ret (e 5)⟩,
  ⟨some (110, true), some 112, [111], .eff fun e => effIb (BinOp.eql) (e 111) (.v (Value.int (IntKind.i64) 0))⟩,
  ⟨none, some 113, [110, 112], .eff fun e => effPick (e 110) (e 112) (.v (Value.bool false))⟩,
  ⟨none, some 114, [113], .eff fun e => ret (e 113)⟩,
  ⟨some (114, true), some 115, [7], .eff fun e => ret (e 7)⟩,
  ⟨some (114, true), some 116, [115], .eff fun e => effIb (BinOp.eql) (e 115) (.v (Value.int (IntKind.i64) 0))⟩,
  ⟨none, some 117, [114, 116], .eff fun e => effPick (e 114) (e 116) (.v (Value.bool false))⟩,
  ⟨none, some 118, [117], .eff fun e => ret (e 117)⟩,
  ⟨some (118, true), some 119, [9], .eff fun e => ret (e 9)⟩,
  ⟨some (118, true), some 120, [119], .eff fun e => effIb (BinOp.eql) (e 119) (.v (Value.int (IntKind.i64) 13))⟩,
  ⟨none, some 121, [118, 120], .eff fun e => effPick (e 118) (e 120) (.v (Value.bool false))⟩,
  ⟨none, some 122, [121], .eff fun e => ret (e 121)⟩,
  ⟨some (122, true), some 123, [11], .eff fun e => ret (e 11)⟩,
  ⟨some (122, true), some 124, [123], .eff fun e => effIb (BinOp.eql) (e 123) (.v (Value.int (IntKind.i64) 12))⟩,
  ⟨none, some 125, [122, 124], .eff fun e => effPick (e 122) (e 124) (.v (Value.bool false))⟩,
  ⟨none, some 126, [125], .eff fun e => ret (e 125)⟩,
  ⟨some (126, true), some 127, [13], .eff fun e => ret (e 13)⟩,
  ⟨some (126, true), some 128, [127], .eff fun e => effIb (BinOp.eql) (e 127) (.v (Value.int (IntKind.i64) 12))⟩,
  ⟨none, some 129, [126, 128], .eff fun e => effPick (e 126) (e 128) (.v (Value.bool false))⟩,
  ⟨none, some 130, [129], .eff fun e => ret (e 129)⟩,
  ⟨some (130, true), some 131, [1], .eff fun e => ret (e 1)⟩,
  ⟨some (130, true), some 132, [131], .eff fun e => effIb (BinOp.eql) (e 131) (.v (Value.int (IntKind.i64) 5))⟩,
  ⟨none, some 133, [130, 132], .eff fun e => effPick (e 130) (e 132) (.v (Value.bool false))⟩,
  ⟨none, some 134, [133], .eff fun e => ret (e 133)⟩,
  ⟨some (134, true), some 135, [2], .eff fun e => ret (e 2)⟩,
  ⟨some (134, true), some 136, [135], .eff fun e => effIb (BinOp.eql) (e 135) (.v (Value.int (IntKind.i64) 6))⟩,
  ⟨none, some 137, [134, 136], .eff fun e => effPick (e 134) (e 136) (.v (Value.bool false))⟩,
  ⟨none, some 138, [137], .eff fun e => ret (e 137)⟩,
  ⟨some (138, true), some 139, [4], .eff fun e => ret (e 4)⟩,
  ⟨none, some 140, [138, 139], .eff fun e => effPick (e 138) (e 139) (.v (Value.bool false))⟩,
  ⟨none, some 141, [140], .eff fun e => ret (e 140)⟩,
  ⟨some (141, true), some 142, [6], .eff fun e => ret (e 6)⟩,
  ⟨some (141, true), some 143, [142], .eff fun e => effNt (e 142)⟩,
  ⟨none, some 144, [141, 143], .eff fun e => effPick (e 141) (e 143) (.v (Value.bool false))⟩,
  ⟨none, some 145, [144], .eff fun e => ret (e 144)⟩,
  ⟨some (145, true), some 146, [8], .eff fun e => ret (e 8)⟩,
  ⟨some (145, true), some 147, [146], .eff fun e => effIb (BinOp.eql) (e 146) (.v (Value.int (IntKind.i64) 7))⟩,
  ⟨none, some 148, [145, 147], .eff fun e => effPick (e 145) (e 147) (.v (Value.bool false))⟩,
  ⟨none, some 149, [148], .eff fun e => ret (e 148)⟩,
  ⟨some (149, true), some 150, [10], .eff fun e => ret (e 10)⟩,
  ⟨some (149, true), some 151, [], .eff fun e => effMks 2 1 ([Value.int (IntKind.i64) 0, Value.int (IntKind.i64) 0]) [(0, 1, (.v (Value.int (IntKind.i64) 2))), (1, 1, (.v (Value.int (IntKind.i64) 1)))]⟩,
  ⟨some (149, true), some 152, [151], .call 40 ([Operand.tmp 151])⟩,
  ⟨some (149, true), some 153, [150, 152], .call 29 ([Operand.tmp 150, Operand.tmp 152])⟩,
  ⟨none, some 154, [149, 153], .eff fun e => effPick (e 149) (e 153) (.v (Value.bool false))⟩,
  ⟨none, some 155, [154], .eff fun e => ret (e 154)⟩,
  ⟨some (155, true), some 156, [12], .eff fun e => ret (e 12)⟩,
  ⟨none, some 157, [155, 156], .eff fun e => effPick (e 155) (e 156) (.v (Value.bool false))⟩,
  ⟨none, some 158, [157], .eff fun e => ret (e 157)⟩,
  ⟨some (158, true), some 159, [14], .eff fun e => ret (e 14)⟩,
  ⟨some (158, true), some 160, [], .eff fun e => effMks 6 1 ([Value.int (IntKind.i64) 0, Value.int (IntKind.i64) 0, Value.int (IntKind.i64) 0, Value.int (IntKind.i64) 0, Value.int (IntKind.i64) 0, Value.int (IntKind.i64) 0]) [(0, 1, (.v (Value.int (IntKind.i64) 0))), (1, 1, (.v (Value.int (IntKind.i64) 0))), (2, 1, (.v (Value.int (IntKind.i64) 1))), (3, 1, (.v (Value.int (IntKind.i64) 0))), (4, 1, (.v (Value.int (IntKind.i64) 0))), (5, 1, (.v (Value.int (IntKind.i64) 1)))]⟩,
  ⟨some (158, true), some 161, [160], .call 40 ([Operand.tmp 160])⟩,
  ⟨some (158, true), some 162, [159, 161], .call 29 ([Operand.tmp 159, Operand.tmp 161])⟩,
  ⟨none, some 163, [158, 162], .eff fun e => effPick (e 158) (e 162) (.v (Value.bool false))⟩,
  ⟨none, some 164, [163], .eff fun e => ret (e 163)⟩,
  ⟨some (164, true), some 165, [15], .eff fun e => ret (e 15)⟩,
  ⟨some (164, true), some 166, [], .eff fun e => effMks 1 1 ([Value.int (IntKind.i64) 0]) [(0, 1, (.v (Value.int (IntKind.i64) 0)))]⟩,
  ⟨some (164, true), some 167, [166], .call 40 ([Operand.tmp 166])⟩,
  ⟨some (164, true), some 168, [165, 167], .call 29 ([Operand.tmp 165, Operand.tmp 167])⟩,
  ⟨none, some 169, [164, 168], .eff fun e => effPick (e 164) (e 168) (.v (Value.bool false))⟩,
  ⟨none, some 170, [169], .eff fun e => ret (e 169)⟩,
  ⟨some (170, true), some 171, [16], .eff fun e => ret (e 16)⟩,
  ⟨some (170, true), some 172, [], .eff fun e => effMks 3 1 ([Value.int (IntKind.i64) 0, Value.int (IntKind.i64) 0, Value.int (IntKind.i64) 0]) [(0, 1, (.v (Value.int (IntKind.i64) 0))), (1, 1, (.v (Value.int (IntKind.i64) 1))), (2, 1, (.v (Value.int (IntKind.i64) 0)))]⟩,
  ⟨some (170, true), some 173, [172], .call 40 ([Operand.tmp 172])⟩,
  ⟨some (170, true), some 174, [171, 173], .call 29 ([Operand.tmp 171, Operand.tmp 173])⟩,
  ⟨none, some 175, [170, 174], .eff fun e => effPick (e 170) (e 174) (.v (Value.bool false))⟩,
  ⟨none, some 176, [175], .eff fun e => ret (e 175)⟩,
  ⟨some (176, true), some 177, [17], .eff fun e => ret (e 17)⟩,
  ⟨some (176, true), some 178, [], .eff fun e => effMks 3 1 ([Value.int (IntKind.i64) 0, Value.int (IntKind.i64) 0, Value.int (IntKind.i64) 0]) [(0, 1, (.v (Value.int (IntKind.i64) 0))), (1, 1, (.v (Value.int (IntKind.i64) 0))), (2, 1, (.v (Value.int (IntKind.i64) 1)))]⟩,
  ⟨some (176, true), some 179, [178], .call 40 ([Operand.tmp 178])⟩,
  ⟨some (176, true), some 180, [177, 179], .call 29 ([Operand.tmp 177, Operand.tmp 179])⟩,
  ⟨none, some 181, [176, 180], .eff fun e => effPick (e 176) (e 180) (.v (Value.bool false))⟩,
  ⟨none, some 182, [181], .eff fun e => ret (e 181)⟩,
  ⟨some (182, true), some 183, [], .call 41 ([])⟩,
  ⟨some (182, true), some 184, [], .eff fun e => effMks 3 1 ([Value.int (IntKind.i64) 0, Value.int (IntKind.i64) 0, Value.int (IntKind.i64) 0]) [(0, 1, (.v (Value.int (IntKind.i64) 0))), (1, 1, (.v (Value.int (IntKind.i64) 0))), (2, 1, (.v (Value.int (IntKind.i64) 1)))]⟩,
  ⟨some (182, true), some 185, [184], .call 40 ([Operand.tmp 184])⟩,
  ⟨some (182, true), some 186, [183, 185], .call 30 ([Operand.tmp 183, Operand.tmp 185])⟩,
  ⟨some (182, true), some 187, [186], .eff fun e => effIb (BinOp.eql) (e 186) (.v (Value.int (IntKind.i64) 0))⟩,
  ⟨none, some 188, [182, 187], .eff fun e => effPick (e 182) (e 187) (.v (Value.bool false))⟩,
  ⟨none, some 189, [188], .eff fun e => ret (e 188)⟩,
  ⟨some (189, true), some 190, [], .call 41 ([])⟩,
  ⟨some (189, true), some 191, [], .eff fun e => effMks 4 1 ([Value.int (IntKind.i64) 0, Value.int (IntKind.i64) 0, Value.int (IntKind.i64) 0, Value.int (IntKind.i64) 0]) [(0, 1, (.v (Value.int (IntKind.i64) 0))), (1, 1, (.v (Value.int (IntKind.i64) 0))), (2, 1, (.v (Value.int (IntKind.i64) 0))), (3, 1, (.v (Value.int (IntKind.i64) 1)))]⟩,
  ⟨some (189, true), some 192, [191], .call 40 ([Operand.tmp 191])⟩,
  ⟨some (189, true), some 193, [190, 192], .call 30 ([Operand.tmp 190, Operand.tmp 192])⟩,
  ⟨some (189, true), some 194, [193], .eff fun e => effIb (BinOp.eql) (e 193) (.v (Value.int (IntKind.i64) 14))⟩,
  ⟨none, some 195, [189, 194], .eff fun e => effPick (e 189) (e 194) (.v (Value.bool false))⟩,
  ⟨none, some 0, [195], .eff fun e => ret (e 195)⟩]
def p16 : PCode := (.seq (.reg p16_r0 []) (.seq (.reg p16_r1 [1, 2, 3]) (.seq (.reg p16_r2 [1, 2, 3, 4, 5]) (.seq (.reg p16_r3 [1, 2, 3, 4, 5, 6, 7]) (.seq (.reg p16_r4 [1, 2, 3, 4, 5, 6, 7, 8, 9]) (.seq (.reg p16_r5 [1, 2, 3, 4, 5, 6, 7, 8, 9, 10, 11]) (.seq (.reg p16_r6 [1, 2, 3, 4, 5, 6, 7, 8, 9, 10, 11, 12, 13]) (.seq (.seq (.reg p16_r7 [1, 2, 4, 6, 8, 10, 12, 74]) (.cond (Operand.tmp 74) (.seq (.reg p16_r8 [0]) .ret) .skip)) (.seq (.reg p16_r9 [1, 2, 3, 4, 6, 8, 10, 12, 14]) (.seq (.reg p16_r10 [1, 2, 3, 4, 5, 6, 8, 10, 12, 14, 15, 16]) (.seq (.reg p16_r11 [1, 2, 3, 4, 5, 6, 7, 8, 10, 12, 14, 15, 16, 17]) (.seq (.reg p16_r12 [1, 2, 3, 4, 5, 6, 7, 8, 9, 10, 12, 14, 15, 16, 17]) (.seq (.reg p16_r13 [1, 2, 3, 4, 5, 6, 7, 8, 9, 10, 11, 12, 14, 15, 16, 17]) (.seq (.reg p16_r14 [1, 2, 3, 4, 5, 6, 7, 8, 9, 10, 11, 12, 13, 14, 15, 16, 17]) (.seq (.reg p16_r15 [0]) .ret)))))))))))))))
theorem P16 : PFn Try.prog 16 ⟨p16, [SRes.tmp 0], 196⟩ := ⟨c16, F16, by kernel_rfl⟩

def p20_r0 : List PI := [
  ⟨none, some 2, [], .eff fun e => ret (.v (Value.bool false))⟩,
  ⟨none, some 3, [], .eff fun e => ret (.v (Value.int (IntKind.i64) 0))⟩]
def p20_r1 : List PI := [
  ⟨none, some 5, [0], .eff fun e => ret (e 0)⟩,
  ⟨none, some 6, [5], .call 24 ([Operand.tmp 5])⟩,
  ⟨none, some 4, [6], .eff fun e => ret (e 6)⟩]
def p20_r2 : List PI := [
  ⟨none, some 7, [4], .eff fun e => ret (e 4)⟩,
  ⟨none, some 8, [7], .eff fun e => effIb (BinOp.neq) (e 7) (.v (Value.int (IntKind.i64) 0))⟩]
def p20_r3 : List PI := [
  ⟨none, some 9, [4], .eff fun e => ret (e 4)⟩,
  ⟨none, some 2, [], .eff fun e => ret (.v (Value.bool false))⟩,
  ⟨none, some 3, [9], .eff fun e => ret (e 9)⟩]
def p20_r4 : List PI := [
  ⟨none, some 10, [0], .eff fun e => ret (e 0)⟩,
  ⟨none, some 11, [10], .call 56 ([Operand.tmp 10])⟩,
  ⟨none, some 2, [11], .eff fun e => ret (e 11)⟩,
  ⟨none, some 3, [], .eff fun e => ret (.v (Value.int (IntKind.i64) 0))⟩]
def p20 : PCode := (.seq (.reg p20_r0 [0]) (.seq (.reg p20_r1 [0, 4]) (.seq (.seq (.reg p20_r2 [0, 4, 8]) (.cond (Operand.tmp 8) (.seq (.reg p20_r3 [2, 3]) .ret) .skip)) (.seq (.reg p20_r4 [2, 3]) .ret))))
theorem P20 : PFn Try.prog 20 ⟨p20, [SRes.tmp 2, SRes.tmp 3], 12⟩ := ⟨c20, F20, by kernel_rfl⟩

def p22_r0 : List PI := [
  ⟨none, some 2, [], .eff fun e => ret (.v (Value.int (IntKind.i64) 0))⟩,
  ⟨none, some 3, [], .eff fun e => ret (.v (Value.int (IntKind.i64) 0))⟩]
def p22_r1 : List PI := [
  ⟨none, some 7, [0], .eff fun e => ret (e 0)⟩,
  ⟨none, some 8, [7], .call 24 ([Operand.tmp 7])⟩,
  ⟨none, some 4, [8], .eff fun e => ret (e 8)⟩]
def p22_r2 : List PI := [
  ⟨none, some 9, [4], .eff fun e => ret (e 4)⟩,
  ⟨none, some 10, [9], .eff fun e => effIb (BinOp.neq) (e 9) (.v (Value.int (IntKind.i64) 0))⟩]
def p22_r3 : List PI := [
  ⟨none, some 11, [4], .eff fun e => ret (e 4)⟩,
  ⟨none, some 2, [], .eff fun e => ret (.v (Value.int (IntKind.i64) 0))⟩,
  ⟨none, some 3, [11], .eff fun e => ret (e 11)⟩]
def p22_r4 : List PI := [
  ⟨none, some 13, [0], .eff fun e => ret (e 0)⟩,
  ⟨none, some 14, [13], .call 57 ([Operand.tmp 13])⟩,
  ⟨none, some 12, [14], .eff fun e => ret (e 14)⟩,
  ⟨none, some 15, [12], .eff fun e => effExt 0 (e 12)⟩,
  ⟨none, some 16, [12], .eff fun e => effExt 1 (e 12)⟩,
  ⟨none, some 5, [15], .eff fun e => ret (e 15)⟩,
  ⟨none, some 6, [16], .eff fun e => ret (e 16)⟩]
def p22_r5 : List PI := [
  ⟨none, some 17, [6], .eff fun e => ret (e 6)⟩,
  ⟨none, some 18, [17], .eff fun e => effIb (BinOp.lss) (e 17) (.v (Value.int (IntKind.i64) 0))⟩]
def p22_r6 : List PI := [
  ⟨none, some 2, [], .eff fun e => ret (.v (Value.int (IntKind.i64) 0))⟩,
  ⟨none, some 3, [], .eff fun e => ret (.v (Value.int (IntKind.i64) 13))⟩]
def p22_r7 : List PI := [
  ⟨none, some 19, [6], .eff fun e => ret (e 6)⟩,
  ⟨none, some 2, [19], .eff fun e => ret (e 19)⟩,
  ⟨none, some 3, [], .eff fun e => ret (.v (Value.int (IntKind.i64) 0))⟩]
def p22 : PCode := (.seq (.reg p22_r0 [0]) (.seq (.reg p22_r1 [0, 4]) (.seq (.seq (.reg p22_r2 [0, 4, 10]) (.cond (Operand.tmp 10) (.seq (.reg p22_r3 [2, 3]) .ret) .skip)) (.seq (.reg p22_r4 [6]) (.seq (.seq (.reg p22_r5 [6, 18]) (.cond (Operand.tmp 18) (.seq (.reg p22_r6 [2, 3]) .ret) .skip)) (.seq (.reg p22_r7 [2, 3]) .ret))))))
theorem P22 : PFn Try.prog 22 ⟨p22, [SRes.tmp 2, SRes.tmp 3], 20⟩ := ⟨c22, F22, by kernel_rfl⟩

def p56_r0 : List PI := [
  ⟨none, some 2, [], .eff fun e => ret (.v (Value.bool false))⟩]
def p56_r1 : List PI := [
  ⟨none, some 6, [0], .eff fun e => ret (e 0)⟩,
  ⟨none, some 7, [6], .call 57 ([Operand.tmp 6])⟩,
  ⟨none, some 5, [7], .eff fun e => ret (e 7)⟩,
  ⟨none, some 8, [5], .eff fun e => effExt 0 (e 5)⟩,
  ⟨none, some 9, [5], .eff fun e => effExt 1 (e 5)⟩,
  ⟨none, some 3, [8], .eff fun e => ret (e 8)⟩,
  ⟨none, some 4, [9], .eff fun e => ret (e 9)⟩]
def p56_r2 : List PI := [
  ⟨none, some 10, [4], .eff fun e => ret (e 4)⟩,
  ⟨none, some 11, [10], .eff fun e => effIb (BinOp.lss) (e 10) (.v (Value.int (IntKind.i64) 0))⟩,
  ⟨none, some 2, [11], .eff fun e => ret (e 11)⟩]
def p56 : PCode := (.seq (.reg p56_r0 [0]) (.seq (.reg p56_r1 [4]) (.seq (.reg p56_r2 [2]) .ret)))
theorem P56 : PFn Try.prog 56 ⟨p56, [SRes.tmp 2], 12⟩ := ⟨c56, F56, by kernel_rfl⟩

def p57_r0 : List PI := [
  ⟨none, some 2, [], .eff fun e => ret (.v (Value.slice none 0 0))⟩,
  ⟨none, some 3, [], .eff fun e => ret (.v (Value.int (IntKind.i64) 0))⟩]
def p57_r1 : List PI := [
  ⟨none, some 14, [0], .eff fun e => ret (e 0)⟩,
  ⟨none, some 15, [14], .call 78 ([Operand.tmp 14])⟩,
  ⟨none, some 4, [15], .eff fun e => ret (e 15)⟩]
def p57_r2 : List PI := [
  ⟨none, some 16, [4], .eff fun e => ret (e 4)⟩,
  ⟨none, some 17, [16], .eff fun e => effLenSl (e 16)⟩,
  ⟨none, some 18, [17, 17], .eff fun e => effMk 1 (Value.bool false) (e 17) (e 17)⟩,
  ⟨none, some 5, [18], .eff fun e => ret (e 18)⟩]
def p57_r3 : List PI := [
  ⟨none, some 6, [], .eff fun e => ret (.v (Value.int (IntKind.i64) 0))⟩]
def p57_r4 : List PI := [
  ⟨none, some 19, [6], .eff fun e => ret (e 6)⟩,
  ⟨none, some 20, [4], .eff fun e => ret (e 4)⟩,
  ⟨none, some 21, [20], .eff fun e => effLenSl (e 20)⟩,
  ⟨none, some 22, [19, 21], .eff fun e => effIb (BinOp.lss) (e 19) (e 21)⟩]
def p57_r5 : List PI := [
  ⟨none, some 25, [5], .eff fun e => ret (e 5)⟩,
  ⟨none, some 26, [6], .eff fun e => ret (e 6)⟩,
  ⟨none, some 27, [25, 26], .eff fun e => effIdx 1 (e 25) (e 26)⟩,
  ⟨none, none, [27], .eff fun e => effStore 1 (e 27) (.v (Value.bool true))⟩]
def p57_r6 : List PI := [
  ⟨none, some 23, [6], .eff fun e => ret (e 6)⟩,
  ⟨none, some 24, [23], .eff fun e => effIb (BinOp.add) (e 23) (.v (Value.int (IntKind.i64) 1))⟩,
  ⟨none, some 6, [24], .eff fun e => ret (e 24)⟩]
def p57_l0 : PCode := (.seq (.seq (.reg p57_r4 [0, 4, 5, 6, 22]) (.cond (Operand.tmp 22) .skip (.exit 0))) (.seq (.block 1 (.reg p57_r5 [0, 4, 5, 6])) (.reg p57_r6 [0, 4, 5, 6])))
def p57_r7 : List PI := [
  ⟨none, some 7, [], .eff fun e => ret (.v (Value.int (IntKind.i64) 0))⟩]
def p57_r8 : List PI := [
  ⟨none, some 30, [5], .eff fun e => ret (e 5)⟩,
  ⟨none, some 31, [0], .eff fun e => ret (e 0)⟩,
  ⟨none, some 32, [0], .eff fun e => ret (e 0)⟩,
  ⟨none, some 33, [31, 32], .call 65 ([Operand.tmp 31, Operand.tmp 32])⟩,
  ⟨none, some 34, [30, 33], .eff fun e => effIdx 1 (e 30) (e 33)⟩,
  ⟨none, some 35, [34], .eff fun e => effLoad1 (e 34)⟩,
  ⟨none, some 36, [35], .eff fun e => effNt (e 35)⟩]
def p57_r9 : List PI := [
  ⟨none, some 37, [5], .eff fun e => ret (e 5)⟩,
  ⟨none, some 38, [7], .eff fun e => ret (e 7)⟩,
  ⟨none, some 39, [38], .eff fun e => effIb (BinOp.sub) (e 38) (.v (Value.int (IntKind.i64) 1))⟩,
  ⟨none, some 2, [37], .eff fun e => ret (e 37)⟩,
  ⟨none, some 3, [39], .eff fun e => ret (e 39)⟩]
def p57_r10 : List PI := [
  ⟨none, some 40, [4], .eff fun e => ret (e 4)⟩,
  ⟨none, some 41, [40], .eff fun e => effLenSl (e 40)⟩,
  ⟨none, some 42, [41, 41], .eff fun e => effMk 1 (Value.bool false) (e 41) (e 41)⟩,
  ⟨none, some 8, [42], .eff fun e => ret (e 42)⟩]
def p57_r11 : List PI := [
  ⟨none, some 9, [], .eff fun e => ret (.v (Value.bool true))⟩]
def p57_r12 : List PI := [
  ⟨none, some 10, [], .eff fun e => ret (.v (Value.int (IntKind.i64) 0))⟩]
def p57_r13 : List PI := [
  ⟨none, some 43, [10], .eff fun e => ret (e 10)⟩,
  ⟨none, some 44, [4], .eff fun e => ret (e 4)⟩,
  ⟨none, some 45, [44], .eff fun e => effLenSl (e 44)⟩,
  ⟨none, some 46, [43, 45], .eff fun e => effIb (BinOp.lss) (e 43) (e 45)⟩]
def p57_r14 : List PI := [
  ⟨none, some 11, [], .eff fun e => ret (.v (Value.int (IntKind.i64) 0))⟩]
def p57_r15 : List PI := [
  ⟨none, some 49, [11], .eff fun e => ret (e 11)⟩,
  ⟨none, some 50, [0], .eff fun e => ret (e 0)⟩,
  ⟨none, some 51, [50], .eff fun e => effLenSl (e 50)⟩,
  ⟨none, some 52, [49, 51], .eff fun e => effIb (BinOp.lss) (e 49) (e 51)⟩]
def p57_r16 : List PI := [
  ⟨none, some 56, [0], .eff fun e => ret (e 0)⟩,
  ⟨none, some 57, [4], .eff fun e => ret (e 4)⟩,
  ⟨none, some 58, [10], .eff fun e => ret (e 10)⟩,
  ⟨none, some 59, [57, 58], .eff fun e => effIdx 1 (e 57) (e 58)⟩,
  ⟨none, some 60, [59], .eff fun e => effLoad1 (e 59)⟩,
  ⟨none, some 61, [11], .eff fun e => ret (e 11)⟩,
  ⟨none, some 62, [56, 60, 61], .call 79 ([Operand.tmp 56, Operand.tmp 60, Operand.tmp 61])⟩,
  ⟨none, some 55, [62], .eff fun e => ret (e 62)⟩,
  ⟨none, some 63, [55], .eff fun e => effExt 0 (e 55)⟩,
  ⟨none, some 64, [55], .eff fun e => effExt 1 (e 55)⟩,
  ⟨none, some 12, [63], .eff fun e => ret (e 63)⟩,
  ⟨none, some 13, [64], .eff fun e => ret (e 64)⟩]
def p57_r17 : List PI := [
  ⟨none, some 65, [8], .eff fun e => ret (e 8)⟩,
  ⟨none, some 66, [10], .eff fun e => ret (e 10)⟩,
  ⟨none, some 67, [8], .eff fun e => ret (e 8)⟩,
  ⟨none, some 68, [10], .eff fun e => ret (e 10)⟩,
  ⟨none, some 69, [67, 68], .eff fun e => effIdx 1 (e 67) (e 68)⟩,
  ⟨none, some 70, [69], .eff fun e => effLoad1 (e 69)⟩,
  ⟨none, some 71, [70], .eff fun e => ret (e 70)⟩,
  ⟨some (71, false), some 72, [13], .eff fun e => ret (e 13)⟩,
  ⟨some (71, false), some 73, [72], .eff fun e => ret (e 72)⟩,
  ⟨some (73, true), some 74, [5], .eff fun e => ret (e 5)⟩,
  ⟨some (73, true), some 75, [0], .eff fun e => ret (e 0)⟩,
  ⟨some (73, true), some 76, [12], .eff fun e => ret (e 12)⟩,
  ⟨some (73, true), some 77, [75, 76], .call 65 ([Operand.tmp 75, Operand.tmp 76])⟩,
  ⟨some (73, true), some 78, [74, 77], .eff fun e => effIdx 1 (e 74) (e 77)⟩,
  ⟨some (73, true), some 79, [78], .eff fun e => effLoad1 (e 78)⟩,
  ⟨some (71, false), some 80, [73, 79], .eff fun e => effPick (e 73) (e 79) (.v (Value.bool false))⟩,
  ⟨none, some 81, [71, 80], .eff fun e => effPick (e 71) (.v (Value.bool true)) (e 80)⟩,
  ⟨none, some 82, [65, 66], .eff fun e => effIdx 1 (e 65) (e 66)⟩,
  ⟨none, none, [82, 81], .eff fun e => effStore 1 (e 82) (e 81)⟩]
def p57_r18 : List PI := [
  ⟨none, some 53, [11], .eff fun e => ret (e 11)⟩,
  ⟨none, some 54, [53], .eff fun e => effIb (BinOp.add) (e 53) (.v (Value.int (IntKind.i64) 1))⟩,
  ⟨none, some 11, [54], .eff fun e => ret (e 54)⟩]
def p57_l1 : PCode := (.seq (.seq (.reg p57_r15 [0, 4, 5, 7, 8, 9, 10, 11, 52]) (.cond (Operand.tmp 52) .skip (.exit 6))) (.seq (.block 7 (.seq (.reg p57_r16 [0, 4, 5, 7, 8, 9, 10, 11, 12, 13]) (.reg p57_r17 [0, 4, 5, 7, 8, 9, 10, 11]))) (.reg p57_r18 [0, 4, 5, 7, 8, 9, 10, 11])))
def p57_r19 : List PI := [
  ⟨none, some 83, [9], .eff fun e => ret (e 9)⟩,
  ⟨none, some 84, [83], .eff fun e => ret (e 83)⟩,
  ⟨some (84, true), some 85, [8], .eff fun e => ret (e 8)⟩,
  ⟨some (84, true), some 86, [10], .eff fun e => ret (e 10)⟩,
  ⟨some (84, true), some 87, [85, 86], .eff fun e => effIdx 1 (e 85) (e 86)⟩,
  ⟨some (84, true), some 88, [87], .eff fun e => effLoad1 (e 87)⟩,
  ⟨some (84, true), some 89, [5], .eff fun e => ret (e 5)⟩,
  ⟨some (84, true), some 90, [10], .eff fun e => ret (e 10)⟩,
  ⟨some (84, true), some 91, [89, 90], .eff fun e => effIdx 1 (e 89) (e 90)⟩,
  ⟨some (84, true), some 92, [91], .eff fun e => effLoad1 (e 91)⟩,
  ⟨some (84, true), some 93, [88, 92], .eff fun e => effBb false (e 88) (e 92)⟩,
  ⟨none, some 94, [84, 93], .eff fun e => effPick (e 84) (e 93) (.v (Value.bool false))⟩,
  ⟨none, some 9, [94], .eff fun e => ret (e 94)⟩]
def p57_r20 : List PI := [
  ⟨none, some 47, [10], .eff fun e => ret (e 10)⟩,
  ⟨none, some 48, [47], .eff fun e => effIb (BinOp.add) (e 47) (.v (Value.int (IntKind.i64) 1))⟩,
  ⟨none, some 10, [48], .eff fun e => ret (e 48)⟩]
def p57_l2 : PCode := (.seq (.seq (.reg p57_r13 [0, 4, 5, 7, 8, 9, 10, 46]) (.cond (Operand.tmp 46) .skip (.exit 4))) (.seq (.block 5 (.seq (.seq (.reg p57_r14 [0, 4, 5, 7, 8, 9, 10, 11]) (.block 6 (.loop p57_l1))) (.draw p57_r19 [[], [0], [1, 0], [1, 0], [2, 3, 1, 1, 0, 1, 0, 0], [4, 1, 2, 3, 1, 1, 0, 1, 0, 0, 0], [1, 0], [1, 0], [6, 7, 1, 1, 0, 1, 0, 0], [8, 1, 6, 7, 1, 1, 0, 1, 0, 0, 0], [5, 9, 1, 4, 1, 2, 3, 1, 1, 0, 1, 0, 0, 0, 8, 1, 6, 7, 1, 1, 0, 1, 0, 0, 0, 0], [1, 10, 0, 5, 9, 1, 4, 1, 2, 3, 1, 1, 0, 1, 0, 0, 0, 8, 1, 6, 7, 1, 1, 0, 1, 0, 0, 0, 0], [11, 1, 0, 1, 2, 3, 4, 5, 6, 7, 8, 9, 10, 11, 1, 10, 0, 5, 9, 1, 4, 1, 2, 3, 1, 1, 0, 1, 0, 0, 0, 8, 1, 6, 7, 1, 1, 0, 1, 0, 0, 0, 0, 0, 0, 1, 0, 1, 0, 2, 3, 1, 1, 0, 1, 0, 0, 4, 1, 2, 3, 1, 1, 0, 1, 0, 0, 0, 1, 0, 1, 0, 6, 7, 1, 1, 0, 1, 0, 0, 8, 1, 6, 7, 1, 1, 0, 1, 0, 0, 0, 5, 9, 1, 4, 1, 2, 3, 1, 1, 0, 1, 0, 0, 0, 8, 1, 6, 7, 1, 1, 0, 1, 0, 0, 0, 0, 1, 10, 0, 5, 9, 1, 4, 1, 2, 3, 1, 1, 0, 1, 0, 0, 0, 8, 1, 6, 7, 1, 1, 0, 1, 0, 0, 0, 0]] [0, 4, 5, 7, 8, 9, 10]))) (.reg p57_r20 [0, 4, 5, 7, 8, 9, 10])))
def p57_r21 : List PI := [
  ⟨none, some 95, [9], .eff fun e => ret (e 9)⟩]
def p57_r22 : List PI := [
  ⟨none, some 96, [5], .eff fun e => ret (e 5)⟩,
  ⟨none, some 2, [96], .eff fun e => ret (e 96)⟩,
  ⟨none, some 3, [], .eff fun e => ret (.v (Value.int (IntKind.i64) (-1)))⟩]
def p57_r23 : List PI := [
  ⟨none, some 97, [8], .eff fun e => ret (e 8)⟩,
  ⟨none, some 5, [97], .eff fun e => ret (e 97)⟩]
def p57_r24 : List PI := [
  ⟨none, some 28, [7], .eff fun e => ret (e 7)⟩,
  ⟨none, some 29, [28], .eff fun e => effIb (BinOp.add) (e 28) (.v (Value.int (IntKind.i64) 1))⟩,
  ⟨none, some 7, [29], .eff fun e => ret (e 29)⟩]
def p57_l3 : PCode := (.seq (.block 3 (.seq (.seq (.reg p57_r8 [0, 4, 5, 7, 36]) (.cond (Operand.tmp 36) (.seq (.reg p57_r9 [2, 3]) .ret) .skip)) (.seq (.reg p57_r10 [0, 4, 5, 7, 8]) (.seq (.reg p57_r11 [0, 4, 5, 7, 8, 9]) (.seq (.seq (.reg p57_r12 [0, 4, 5, 7, 8, 9, 10]) (.block 4 (.loop p57_l2))) (.seq (.seq (.reg p57_r21 [0, 4, 5, 7, 8, 95]) (.cond (Operand.tmp 95) (.seq (.reg p57_r22 [2, 3]) .ret) .skip)) (.reg p57_r23 [0, 4, 5, 7]))))))) (.reg p57_r24 [0, 4, 5, 7]))
def p57 : PCode := (.seq (.reg p57_r0 [0]) (.seq (.reg p57_r1 [0, 4]) (.seq (.reg p57_r2 [0, 4, 5]) (.seq (.seq (.reg p57_r3 [0, 4, 5, 6]) (.block 0 (.loop p57_l0))) (.seq (.reg p57_r7 [0, 4, 5, 7]) (.block 2 (.loop p57_l3)))))))
theorem P57 : PFn Try.prog 57 ⟨p57, [SRes.tmp 2, SRes.tmp 3], 98⟩ := ⟨c57, F57, by kernel_rfl⟩

def p78_r0 : List PI := [
  ⟨none, some 2, [], .eff fun e => ret (.v (Value.slice none 0 0))⟩]
def p78_r1 : List PI := [
  ⟨none, some 7, [0], .eff fun e => ret (e 0)⟩,
  ⟨none, some 8, [7], .eff fun e => effLenSl (e 7)⟩,
  ⟨none, some 9, [8], .eff fun e => effIb (BinOp.eql) (e 8) (.v (Value.int (IntKind.i64) 0))⟩]
def p78_r2 : List PI := [
  ⟨none, some 10, [], .eff fun e => effMks 1 1 ([Value.slice none 0 0]) [(0, 1, (.v (Value.slice none 0 0)))]⟩,
  ⟨none, some 2, [10], .eff fun e => ret (e 10)⟩]
def p78_r3 : List PI := [
  ⟨none, some 3, [], .eff fun e => ret (.v (Value.slice none 0 0))⟩]
def p78_r4 : List PI := [
  ⟨none, some 11, [0], .eff fun e => ret (e 0)⟩,
  ⟨none, some 12, [0], .eff fun e => ret (e 0)⟩,
  ⟨none, some 13, [12], .eff fun e => effLenSl (e 12)⟩,
  ⟨none, some 14, [13], .eff fun e => effIb (BinOp.sub) (e 13) (.v (Value.int (IntKind.i64) 1))⟩,
  ⟨none, some 15, [11, 14], .eff fun e => effSlc 1 (e 11) none (some (e 14)) none⟩,
  ⟨none, some 16, [15], .call 78 ([Operand.tmp 15])⟩,
  ⟨none, some 4, [16], .eff fun e => ret (e 16)⟩]
def p78_r5 : List PI := [
  ⟨none, some 5, [], .eff fun e => ret (.v (Value.int (IntKind.i64) 0))⟩]
def p78_r6 : List PI := [
  ⟨none, some 17, [5], .eff fun e => ret (e 5)⟩,
  ⟨none, some 18, [4], .eff fun e => ret (e 4)⟩,
  ⟨none, some 19, [18], .eff fun e => effLenSl (e 18)⟩,
  ⟨none, some 20, [17, 19], .eff fun e => effIb (BinOp.lss) (e 17) (e 19)⟩]
def p78_r7 : List PI := [
  ⟨none, some 6, [], .eff fun e => ret (.v (Value.int (IntKind.i64) 1))⟩]
def p78_r8 : List PI := [
  ⟨none, some 23, [6], .eff fun e => ret (e 6)⟩,
  ⟨none, some 24, [0], .eff fun e => ret (e 0)⟩,
  ⟨none, some 25, [0], .eff fun e => ret (e 0)⟩,
  ⟨none, some 26, [25], .eff fun e => effLenSl (e 25)⟩,
  ⟨none, some 27, [26], .eff fun e => effIb (BinOp.sub) (e 26) (.v (Value.int (IntKind.i64) 1))⟩,
  ⟨none, some 28, [24, 27], .eff fun e => effIdx 1 (e 24) (e 27)⟩,
  ⟨none, some 29, [28], .eff fun e => effLoad1 (e 28)⟩,
  ⟨none, some 30, [23, 29], .eff fun e => effIb (BinOp.leq) (e 23) (e 29)⟩]
def p78_r9 : List PI := [
  ⟨none, some 33, [3], .eff fun e => ret (e 3)⟩,
  ⟨none, some 34, [], .eff fun e => effMks0 1⟩,
  ⟨none, some 35, [4], .eff fun e => ret (e 4)⟩,
  ⟨none, some 36, [5], .eff fun e => ret (e 5)⟩,
  ⟨none, some 37, [35, 36], .eff fun e => effIdx 1 (e 35) (e 36)⟩,
  ⟨none, some 38, [37], .eff fun e => effLoad1 (e 37)⟩,
  ⟨none, some 39, [34, 38], .eff fun e => effApp 1 8 (e 34) (e 38)⟩,
  ⟨none, some 40, [6], .eff fun e => ret (e 6)⟩,
  ⟨none, some 41, [40], .eff fun e => effMks 1 1 ([Value.int (IntKind.i64) 0]) [(0, 1, (e 40))]⟩,
  ⟨none, some 42, [39, 41], .eff fun e => effApp 1 8 (e 39) (e 41)⟩,
  ⟨none, some 43, [42], .eff fun e => effMks 1 1 ([Value.slice none 0 0]) [(0, 1, (e 42))]⟩,
  ⟨none, some 44, [33, 43], .eff fun e => effApp 1 24 (e 33) (e 43)⟩,
  ⟨none, some 3, [44], .eff fun e => ret (e 44)⟩]
def p78_r10 : List PI := [
  ⟨none, some 31, [6], .eff fun e => ret (e 6)⟩,
  ⟨none, some 32, [31], .eff fun e => effIb (BinOp.add) (e 31) (.v (Value.int (IntKind.i64) 1))⟩,
  ⟨none, some 6, [32], .eff fun e => ret (e 32)⟩]
def p78_l0 : PCode := (.seq (.seq (.reg p78_r8 [0, 3, 4, 5, 6, 30]) (.cond (Operand.tmp 30) .skip (.exit 2))) (.seq (.block 3 (.reg p78_r9 [0, 3, 4, 5, 6])) (.reg p78_r10 [0, 3, 4, 5, 6])))
def p78_r11 : List PI := [
  ⟨none, some 21, [5], .eff fun e => ret (e 5)⟩,
  ⟨none, some 22, [21], .eff fun e => effIb (BinOp.add) (e 21) (.v (Value.int (IntKind.i64) 1))⟩,
  ⟨none, some 5, [22], .eff fun e => ret (e 22)⟩]
def p78_l1 : PCode := (.seq (.seq (.reg p78_r6 [0, 3, 4, 5, 20]) (.cond (Operand.tmp 20) .skip (.exit 0))) (.seq (.block 1 (.seq (.reg p78_r7 [0, 3, 4, 5, 6]) (.block 2 (.loop p78_l0)))) (.reg p78_r11 [0, 3, 4, 5])))
def p78_r12 : List PI := [
  ⟨none, some 45, [3], .eff fun e => ret (e 3)⟩,
  ⟨none, some 2, [45], .eff fun e => ret (e 45)⟩]
def p78 : PCode := (.seq (.reg p78_r0 [0]) (.seq (.seq (.reg p78_r1 [0, 9]) (.cond (Operand.tmp 9) (.seq (.reg p78_r2 [2]) .ret) .skip)) (.seq (.reg p78_r3 [0, 3]) (.seq (.reg p78_r4 [0, 3, 4]) (.seq (.seq (.reg p78_r5 [0, 3, 4, 5]) (.block 0 (.loop p78_l1))) (.seq (.reg p78_r12 [2]) .ret))))))
theorem P78 : PFn Try.prog 78 ⟨p78, [SRes.tmp 2], 46⟩ := ⟨c78, F78, by kernel_rfl⟩

def p65_r0 : List PI := [
  ⟨none, some 4, [], .eff fun e => ret (.v (Value.int (IntKind.i64) 0))⟩]
def p65_r1 : List PI := [
  ⟨none, some 5, [], .eff fun e => ret (.v (Value.int (IntKind.i64) 0))⟩]
def p65_r2 : List PI := [
  ⟨none, some 6, [], .eff fun e => ret (.v (Value.int (IntKind.i64) 0))⟩]
def p65_r3 : List PI := [
  ⟨none, some 7, [6], .eff fun e => ret (e 6)⟩,
  ⟨none, some 8, [0], .eff fun e => ret (e 0)⟩,
  ⟨none, some 9, [8], .eff fun e => effLenSl (e 8)⟩,
  ⟨none, some 10, [7, 9], .eff fun e => effIb (BinOp.lss) (e 7) (e 9)⟩]
def p65_r4 : List PI := [
  ⟨none, some 13, [5], .eff fun e => ret (e 5)⟩,
  ⟨none, some 14, [0], .eff fun e => ret (e 0)⟩,
  ⟨none, some 15, [6], .eff fun e => ret (e 6)⟩,
  ⟨none, some 16, [14, 15], .eff fun e => effIdx 1 (e 14) (e 15)⟩,
  ⟨none, some 17, [16], .eff fun e => effLoad1 (e 16)⟩,
  ⟨none, some 18, [13, 17], .eff fun e => effIb (BinOp.mul) (e 13) (e 17)⟩,
  ⟨none, some 19, [1], .eff fun e => ret (e 1)⟩,
  ⟨none, some 20, [6], .eff fun e => ret (e 6)⟩,
  ⟨none, some 21, [19, 20], .eff fun e => effIdx 1 (e 19) (e 20)⟩,
  ⟨none, some 22, [21], .eff fun e => effLoad1 (e 21)⟩,
  ⟨none, some 23, [18, 22], .eff fun e => effIb (BinOp.add) (e 18) (e 22)⟩,
  ⟨none, some 24, [23], .eff fun e => effIb (BinOp.sub) (e 23) (.v (Value.int (IntKind.i64) 1))⟩,
  ⟨none, some 5, [24], .eff fun e => ret (e 24)⟩]
def p65_r5 : List PI := [
  ⟨none, some 11, [6], .eff fun e => ret (e 6)⟩,
  ⟨none, some 12, [11], .eff fun e => effIb (BinOp.add) (e 11) (.v (Value.int (IntKind.i64) 1))⟩,
  ⟨none, some 6, [12], .eff fun e => ret (e 12)⟩]
def p65_l0 : PCode := (.seq (.seq (.reg p65_r3 [0, 1, 5, 6, 10]) (.cond (Operand.tmp 10) .skip (.exit 0))) (.seq (.block 1 (.draw p65_r4 [[], [], [], [1, 2], [3, 1, 2], [0, 4, 3, 1, 2], [], [], [6, 7], [8, 6, 7], [5, 9, 0, 4, 3, 1, 2, 8, 6, 7], [10, 5, 9, 0, 4, 3, 1, 2, 8, 6, 7], [11, 0, 1, 2, 3, 4, 5, 6, 7, 8, 9, 10, 11, 10, 5, 9, 0, 4, 3, 1, 2, 8, 6, 7, 1, 2, 3, 1, 2, 0, 4, 3, 1, 2, 6, 7, 8, 6, 7, 5, 9, 0, 4, 3, 1, 2, 8, 6, 7, 10, 5, 9, 0, 4, 3, 1, 2, 8, 6, 7]] [0, 1, 5, 6])) (.reg p65_r5 [0, 1, 5, 6])))
def p65_r6 : List PI := [
  ⟨none, some 25, [5], .eff fun e => ret (e 5)⟩,
  ⟨none, some 4, [25], .eff fun e => ret (e 25)⟩]
def p65 : PCode := (.seq (.reg p65_r0 [0, 1]) (.seq (.reg p65_r1 [0, 1, 5]) (.seq (.seq (.reg p65_r2 [0, 1, 5, 6]) (.block 0 (.loop p65_l0))) (.seq (.reg p65_r6 [4]) .ret))))
theorem P65 : PFn Try.prog 65 ⟨p65, [SRes.tmp 4], 26⟩ := ⟨c65, F65, by kernel_rfl⟩

def p79_r0 : List PI := [
  ⟨none, some 6, [], .eff fun e => ret (.v (Value.slice none 0 0))⟩,
  ⟨none, some 7, [], .eff fun e => ret (.v (Value.bool false))⟩]
def p79_r1 : List PI := [
  ⟨none, some 8, [], .eff fun e => ret (.v (Value.slice none 0 0))⟩]
def p79_r2 : List PI := [
  ⟨none, some 9, [], .eff fun e => ret (.v (Value.int (IntKind.i64) 0))⟩]
def p79_r3 : List PI := [
  ⟨none, some 10, [9], .eff fun e => ret (e 9)⟩,
  ⟨none, some 11, [0], .eff fun e => ret (e 0)⟩,
  ⟨none, some 12, [11], .eff fun e => effLenSl (e 11)⟩,
  ⟨none, some 13, [10, 12], .eff fun e => effIb (BinOp.lss) (e 10) (e 12)⟩]
def p79_r4 : List PI := [
  ⟨none, some 16, [9], .eff fun e => ret (e 9)⟩,
  ⟨none, some 17, [2], .eff fun e => ret (e 2)⟩,
  ⟨none, some 18, [16, 17], .eff fun e => effIb (BinOp.eql) (e 16) (e 17)⟩]
def p79_r5 : List PI := [
  ⟨none, some 19, [8], .eff fun e => ret (e 8)⟩,
  ⟨none, some 20, [0], .eff fun e => ret (e 0)⟩,
  ⟨none, some 21, [9], .eff fun e => ret (e 9)⟩,
  ⟨none, some 22, [20, 21], .eff fun e => effIdx 1 (e 20) (e 21)⟩,
  ⟨none, some 23, [22], .eff fun e => effLoad1 (e 22)⟩,
  ⟨none, some 24, [23], .eff fun e => effMks 1 1 ([Value.int (IntKind.i64) 0]) [(0, 1, (e 23))]⟩,
  ⟨none, some 25, [19, 24], .eff fun e => effApp 1 8 (e 19) (e 24)⟩,
  ⟨none, some 8, [25], .eff fun e => ret (e 25)⟩]
def p79_r6 : List PI := [
  ⟨none, some 26, [1], .eff fun e => ret (e 1)⟩,
  ⟨none, some 27, [9], .eff fun e => ret (e 9)⟩,
  ⟨none, some 28, [26, 27], .eff fun e => effIdx 1 (e 26) (e 27)⟩,
  ⟨none, some 29, [28], .eff fun e => effLoad1 (e 28)⟩,
  ⟨none, some 30, [29], .eff fun e => effIb (BinOp.eql) (e 29) (.v (Value.int (IntKind.i64) 1))⟩]
def p79_r7 : List PI := [
  ⟨none, some 6, [], .eff fun e => ret (.v (Value.slice none 0 0))⟩,
  ⟨none, some 7, [], .eff fun e => ret (.v (Value.bool false))⟩]
def p79_r8 : List PI := [
  ⟨none, some 31, [8], .eff fun e => ret (e 8)⟩,
  ⟨none, some 32, [1], .eff fun e => ret (e 1)⟩,
  ⟨none, some 33, [9], .eff fun e => ret (e 9)⟩,
  ⟨none, some 34, [32, 33], .eff fun e => effIdx 1 (e 32) (e 33)⟩,
  ⟨none, some 35, [34], .eff fun e => effLoad1 (e 34)⟩,
  ⟨none, some 36, [35], .eff fun e => effIb (BinOp.sub) (e 35) (.v (Value.int (IntKind.i64) 1))⟩,
  ⟨none, some 37, [36], .eff fun e => effMks 1 1 ([Value.int (IntKind.i64) 0]) [(0, 1, (e 36))]⟩,
  ⟨none, some 38, [31, 37], .eff fun e => effApp 1 8 (e 31) (e 37)⟩,
  ⟨none, some 8, [38], .eff fun e => ret (e 38)⟩]
def p79_r9 : List PI := [
  ⟨none, some 14, [9], .eff fun e => ret (e 9)⟩,
  ⟨none, some 15, [14], .eff fun e => effIb (BinOp.add) (e 14) (.v (Value.int (IntKind.i64) 1))⟩,
  ⟨none, some 9, [15], .eff fun e => ret (e 15)⟩]
def p79_l0 : PCode := (.seq (.seq (.reg p79_r3 [0, 1, 2, 8, 9, 13]) (.cond (Operand.tmp 13) .skip (.exit 0))) (.seq (.block 1 (.seq (.seq (.reg p79_r4 [0, 1, 2, 8, 9, 18]) (.cond (Operand.tmp 18) (.seq (.reg p79_r5 [0, 1, 2, 8, 9]) (.exit 1)) .skip)) (.seq (.seq (.reg p79_r6 [0, 1, 2, 8, 9, 30]) (.cond (Operand.tmp 30) (.seq (.reg p79_r7 [6, 7]) .ret) .skip)) (.reg p79_r8 [0, 1, 2, 8, 9])))) (.reg p79_r9 [0, 1, 2, 8, 9])))
def p79_r10 : List PI := [
  ⟨none, some 39, [8], .eff fun e => ret (e 8)⟩,
  ⟨none, some 6, [39], .eff fun e => ret (e 39)⟩,
  ⟨none, some 7, [], .eff fun e => ret (.v (Value.bool true))⟩]
def p79 : PCode := (.seq (.reg p79_r0 [0, 1, 2]) (.seq (.reg p79_r1 [0, 1, 2, 8]) (.seq (.seq (.reg p79_r2 [0, 1, 2, 8, 9]) (.block 0 (.loop p79_l0))) (.seq (.reg p79_r10 [6, 7]) .ret))))
theorem P79 : PFn Try.prog 79 ⟨p79, [SRes.tmp 6, SRes.tmp 7], 40⟩ := ⟨c79, F79, by kernel_rfl⟩

def p3_r0 : List PI := [
  ⟨none, some 2, [], .eff fun e => ret (.v (Value.bool false))⟩]
def p3_r1 : List PI := [
  ⟨none, some 17, [0], .eff fun e => ret (e 0)⟩,
  ⟨none, some 18, [17], .eff fun e => effLenSl (e 17)⟩,
  ⟨none, some 19, [18], .eff fun e => effIb (BinOp.gtr) (e 18) (.v (Value.int (IntKind.i64) 60))⟩]
def p3_r2 : List PI := [
  ⟨none, some 20, [], .call 16 ([])⟩,
  ⟨none, some 2, [20], .eff fun e => ret (e 20)⟩]
def p3_r3 : List PI := [
  ⟨none, some 22, [0], .eff fun e => ret (e 0)⟩,
  ⟨none, some 23, [22], .call 17 ([Operand.tmp 22])⟩,
  ⟨none, some 21, [23], .eff fun e => ret (e 23)⟩,
  ⟨none, some 24, [21], .eff fun e => effExt 0 (e 21)⟩,
  ⟨none, some 25, [21], .eff fun e => effExt 1 (e 21)⟩,
  ⟨none, some 26, [21], .eff fun e => effExt 2 (e 21)⟩,
  ⟨none, some 3, [24], .eff fun e => ret (e 24)⟩,
  ⟨none, some 4, [25], .eff fun e => ret (e 25)⟩,
  ⟨none, some 5, [26], .eff fun e => ret (e 26)⟩]
def p3_r4 : List PI := [
  ⟨none, some 28, [0], .eff fun e => ret (e 0)⟩,
  ⟨none, some 29, [28], .call 18 ([Operand.tmp 28])⟩,
  ⟨none, some 27, [29], .eff fun e => ret (e 29)⟩,
  ⟨none, some 30, [27], .eff fun e => effExt 0 (e 27)⟩,
  ⟨none, some 31, [27], .eff fun e => effExt 1 (e 27)⟩,
  ⟨none, some 32, [27], .eff fun e => effExt 2 (e 27)⟩,
  ⟨none, some 6, [30], .eff fun e => ret (e 30)⟩,
  ⟨none, some 7, [31], .eff fun e => ret (e 31)⟩,
  ⟨none, some 8, [32], .eff fun e => ret (e 32)⟩]
def p3_r5 : List PI := [
  ⟨none, some 34, [0], .eff fun e => ret (e 0)⟩,
  ⟨none, some 35, [34], .call 19 ([Operand.tmp 34])⟩,
  ⟨none, some 33, [35], .eff fun e => ret (e 35)⟩,
  ⟨none, some 36, [33], .eff fun e => effExt 0 (e 33)⟩,
  ⟨none, some 37, [33], .eff fun e => effExt 1 (e 33)⟩,
  ⟨none, some 9, [36], .eff fun e => ret (e 36)⟩,
  ⟨none, some 10, [37], .eff fun e => ret (e 37)⟩]
def p3_r6 : List PI := [
  ⟨none, some 39, [0], .eff fun e => ret (e 0)⟩,
  ⟨none, some 40, [39], .call 20 ([Operand.tmp 39])⟩,
  ⟨none, some 38, [40], .eff fun e => ret (e 40)⟩,
  ⟨none, some 41, [38], .eff fun e => effExt 0 (e 38)⟩,
  ⟨none, some 42, [38], .eff fun e => effExt 1 (e 38)⟩,
  ⟨none, some 11, [41], .eff fun e => ret (e 41)⟩,
  ⟨none, some 12, [42], .eff fun e => ret (e 42)⟩]
def p3_r7 : List PI := [
  ⟨none, some 44, [0], .eff fun e => ret (e 0)⟩,
  ⟨none, some 45, [44], .call 21 ([Operand.tmp 44])⟩,
  ⟨none, some 43, [45], .eff fun e => ret (e 45)⟩,
  ⟨none, some 46, [43], .eff fun e => effExt 0 (e 43)⟩,
  ⟨none, some 47, [43], .eff fun e => effExt 1 (e 43)⟩,
  ⟨none, some 13, [46], .eff fun e => ret (e 46)⟩,
  ⟨none, some 14, [47], .eff fun e => ret (e 47)⟩]
def p3_r8 : List PI := [
  ⟨none, some 49, [0], .eff fun e => ret (e 0)⟩,
  ⟨none, some 50, [49], .call 22 ([Operand.tmp 49])⟩,
  ⟨none, some 48, [50], .eff fun e => ret (e 50)⟩,
  ⟨none, some 51, [48], .eff fun e => effExt 0 (e 48)⟩,
  ⟨none, some 52, [48], .eff fun e => effExt 1 (e 48)⟩,
  ⟨none, some 15, [51], .eff fun e => ret (e 51)⟩,
  ⟨none, some 16, [52], .eff fun e => ret (e 52)⟩]
def p3_r9 : List PI := [
  ⟨none, some 53, [3], .eff fun e => ret (e 3)⟩,
  ⟨none, some 54, [6], .eff fun e => ret (e 6)⟩,
  ⟨none, some 55, [53, 54], .eff fun e => effIb (BinOp.eql) (e 53) (e 54)⟩,
  ⟨none, some 56, [55], .eff fun e => ret (e 55)⟩,
  ⟨some (56, true), some 57, [4], .eff fun e => ret (e 4)⟩,
  ⟨some (56, true), some 58, [7], .eff fun e => ret (e 7)⟩,
  ⟨some (56, true), some 59, [57, 58], .eff fun e => effIb (BinOp.eql) (e 57) (e 58)⟩,
  ⟨none, some 60, [56, 59], .eff fun e => effPick (e 56) (e 59) (.v (Value.bool false))⟩,
  ⟨none, some 61, [60], .eff fun e => ret (e 60)⟩,
  ⟨some (61, true), some 62, [5], .eff fun e => ret (e 5)⟩,
  ⟨some (61, true), some 63, [8], .eff fun e => ret (e 8)⟩,
  ⟨some (61, true), some 64, [62, 63], .eff fun e => effIb (BinOp.eql) (e 62) (e 63)⟩,
  ⟨none, some 65, [61, 64], .eff fun e => effPick (e 61) (e 64) (.v (Value.bool false))⟩,
  ⟨none, some 66, [65], .eff fun e => ret (e 65)⟩,
  ⟨some (66, true), some 67, [9], .eff fun e => ret (e 9)⟩,
  ⟨some (66, true), some 68, [11], .eff fun e => ret (e 11)⟩,
  ⟨some (66, true), some 69, [67, 68], .eff fun e => effBb false (e 67) (e 68)⟩,
  ⟨none, some 70, [66, 69], .eff fun e => effPick (e 66) (e 69) (.v (Value.bool false))⟩,
  ⟨none, some 71, [70], .eff fun e => ret (e 70)⟩,
  ⟨some (71, true), some 72, [10], .eff fun e => ret (e 10)⟩,
  ⟨some (71, true), some 73, [12], .eff fun e => ret (e 12)⟩,
  ⟨some (71, true), some 74, [72, 73], .eff fun e => effIb (BinOp.eql) (e 72) (e 73)⟩,
  ⟨none, some 75, [71, 74], .eff fun e => effPick (e 71) (e 74) (.v (Value.bool false))⟩,
  ⟨none, some 76, [75], .eff fun e => ret (e 75)⟩,
  ⟨some (76, true), some 77, [13], .eff fun e => ret (e 13)⟩,
  ⟨some (76, true), some 78, [15], .eff fun e => ret (e 15)⟩,
  ⟨some (76, true), some 79, [77, 78], .eff fun e => effIb (BinOp.eql) (e 77) (e 78)⟩,
  ⟨none, some 80, [76, 79], .eff fun e => effPick (e 76) (e 79) (.v (Value.bool false))⟩,
  ⟨none, some 81, [80], .eff fun e => ret (e 80)⟩,
  ⟨some (81, true), some 82, [14], .eff fun e => ret (e 14)⟩,
  ⟨some (81, true), some 83, [16], .eff fun e => ret (e 16)⟩,
  ⟨some (81, true), some 84, [82, 83], .eff fun e => effIb (BinOp.eql) (e 82) (e 83)⟩,
  ⟨none, some 85, [81, 84], .eff fun e => effPick (e 81) (e 84) (.v (Value.bool false))⟩,
  ⟨none, some 86, [85], .eff fun e => ret (e 85)⟩,
  ⟨some (86, true), some 87, [0], .eff fun e => ret (e 0)⟩,
  ⟨some (86, true), some 88, [87], .call 23 ([Operand.tmp 87])⟩,
  ⟨some (86, true), some 89, [0], .eff fun e => ret (e 0)⟩,
  ⟨some (86, true), some 90, [89], .call 24 ([Operand.tmp 89])⟩,
  ⟨some (86, true), some 91, [88, 90], .eff fun e => effIb (BinOp.eql) (e 88) (e 90)⟩,
  ⟨none, some 92, [86, 91], .eff fun e => effPick (e 86) (e 91) (.v (Value.bool false))⟩,
  ⟨none, some 93, [92], .eff fun e => ret (e 92)⟩,
  ⟨some (93, true), some 94, [], .call 16 ([])⟩,
  ⟨none, some 95, [93, 94], .eff fun e => effPick (e 93) (e 94) (.v (Value.bool false))⟩,
  ⟨none, some 2, [95], .eff fun e => ret (e 95)⟩]
def p3 : PCode := (.seq (.reg p3_r0 [0]) (.seq (.seq (.reg p3_r1 [0, 19]) (.cond (Operand.tmp 19) (.seq (.reg p3_r2 [2]) .ret) .skip)) (.seq (.reg p3_r3 [0, 3, 4, 5]) (.seq (.reg p3_r4 [0, 3, 4, 5, 6, 7, 8]) (.seq (.reg p3_r5 [0, 3, 4, 5, 6, 7, 8, 9, 10]) (.seq (.reg p3_r6 [0, 3, 4, 5, 6, 7, 8, 9, 10, 11, 12]) (.seq (.reg p3_r7 [0, 3, 4, 5, 6, 7, 8, 9, 10, 11, 12, 13, 14]) (.seq (.reg p3_r8 [0, 3, 4, 5, 6, 7, 8, 9, 10, 11, 12, 13, 14, 15, 16]) (.seq (.reg p3_r9 [2]) .ret)))))))))
theorem P3 : PFn Try.prog 3 ⟨p3, [SRes.tmp 2], 96⟩ := ⟨c3, F3, by kernel_rfl⟩

end Go.Sx.Wk
/- The table of the functions that the examples reach. No conditions. -/
set_option linter.unusedVariables false
namespace Go.Sx.Wk
open Go Go.Sx Go.Proofs

def tab : List (Nat × PEnt) := [
  (8, ⟨p8, [SRes.tmp 0], 242⟩),
  (29, ⟨p29, [SRes.tmp 4], 26⟩),
  (60, ⟨p60, [SRes.tmp 6], 15⟩),
  (23, ⟨p23, [SRes.tmp 2], 14⟩),
  (59, ⟨p59, [SRes.tmp 2], 6⟩),
  (58, ⟨p58, [SRes.tmp 4], 9⟩),
  (80, ⟨p80, [SRes.tmp 4], 19⟩),
  (53, ⟨p53, [SRes.tmp 4], 12⟩),
  (17, ⟨p17, [SRes.tmp 2, SRes.tmp 3, SRes.tmp 4], 40⟩),
  (77, ⟨p77, [SRes.cell 6 (some 4), SRes.tmp 7], 43⟩),
  (55, ⟨p55, [SRes.tmp 4], 72⟩),
  (54, ⟨p54, [SRes.tmp 2], 16⟩),
  (19, ⟨p19, [SRes.tmp 2, SRes.tmp 3], 19⟩),
  (21, ⟨p21, [SRes.tmp 2, SRes.tmp 3], 28⟩),
  (62, ⟨p62, [SRes.tmp 4, SRes.cell 5 (some 4), SRes.tmp 6], 57⟩),
  (81, ⟨p81, [SRes.tmp 3], 10⟩),
  (68, ⟨p68, [SRes.tmp 4, SRes.cell 5 (some 4)], 34⟩),
  (25, ⟨p25, [SRes.tmp 4, SRes.tmp 5], 24⟩),
  (27, ⟨p27, [SRes.tmp 4, SRes.tmp 5], 24⟩),
  (32, ⟨p32, [SRes.tmp 4, SRes.tmp 5], 51⟩),
  (34, ⟨p34, [SRes.tmp 2, SRes.tmp 3, SRes.tmp 4], 69⟩),
  (36, ⟨p36, [SRes.tmp 2, SRes.tmp 3], 21⟩),
  (70, ⟨p70, [SRes.tmp 7], 74⟩),
  (48, ⟨p48, [SRes.tmp 2], 9⟩),
  (49, ⟨p49, [SRes.tmp 2], 25⟩),
  (30, ⟨p30, [SRes.tmp 4], 68⟩),
  (66, ⟨p66, [SRes.tmp 3], 10⟩),
  (67, ⟨p67, [SRes.tmp 4], 19⟩),
  (39, ⟨p39, [SRes.tmp 0], 3⟩),
  (40, ⟨p40, [SRes.tmp 2], 4⟩),
  (41, ⟨p41, [SRes.tmp 0], 3⟩),
  (16, ⟨p16, [SRes.tmp 0], 196⟩)]

theorem tab_ok : PTabOk Try.prog tab := ⟨P8, P29, P60, P23, P59, P58, P80, P53, P17, P77, P55, P54, P19, P21, P62, P81, P68, P25, P27, P32, P34, P36, P70, P48, P49, P30, P66, P67, P39, P40, P41, P16, trivial⟩

end Go.Sx.Wk
