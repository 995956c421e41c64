/- The codes of the functions, written by a program (Gen.lean), and that they are the functions'. No conditions. -/
import Derived.Test.YtfiebjbhiflfpaaDoorSxJNtoNq
import Derived.KernelRfl
import Derived.Test.YtfiebjbhiflfpaaDoorProg
set_option linter.unusedVariables false
set_option maxRecDepth 100000
namespace Go.Sx.Ch
open Go Go.Sx Go.Proofs
noncomputable def p3_r0 : List PI := [
  ⟨none, some 2, [0], .eff fun e => effBox (e 0)⟩,
  ⟨none, some 4, [], .eff fun e => ret (.v (Value.bool false))⟩]
noncomputable def p3_r1 : List PI := [
  ⟨none, some 18, [2], .eff fun e => effLoadN 1 (e 2)⟩,
  ⟨none, some 19, [18], .call 15 ([Operand.tmp 18])⟩]
noncomputable def p3_r2 : List PI := [
  ⟨none, some 20, [], .call 16 ([])⟩,
  ⟨none, some 4, [20], .eff fun e => ret (e 20)⟩]
noncomputable def p3_r3 : List PI := [
  ⟨none, some 21, [2], .eff fun e => effLoadN 1 (e 2)⟩,
  ⟨none, some 5, [], .eff fun e => effAlloc ([Value.slice none 0 0])⟩,
  ⟨none, none, [5, 21], .eff fun e => effStore 1 (e 5) (e 21)⟩]
noncomputable def p3_r4 : List PI := [
  ⟨none, some 23, [2], .eff fun e => effLoadN 1 (e 2)⟩,
  ⟨none, some 24, [23], .call 17 ([Operand.tmp 23])⟩,
  ⟨none, some 22, [24], .eff fun e => ret (e 24)⟩,
  ⟨none, some 25, [22], .eff fun e => effExt 0 (e 22)⟩,
  ⟨none, some 26, [22], .eff fun e => effExt 1 (e 22)⟩,
  ⟨none, some 6, [], .eff fun e => effAlloc ([Value.slice none 0 0])⟩,
  ⟨none, none, [6, 25], .eff fun e => effStore 1 (e 6) (e 25)⟩,
  ⟨none, some 7, [26], .eff fun e => ret (e 26)⟩]
noncomputable def p3_r5 : List PI := [
  ⟨none, some 28, [5], .eff fun e => effLoadN 1 (e 5)⟩,
  ⟨none, some 29, [28], .call 18 ([Operand.tmp 28])⟩,
  ⟨none, some 27, [29], .eff fun e => ret (e 29)⟩,
  ⟨none, some 30, [27], .eff fun e => effExt 0 (e 27)⟩,
  ⟨none, some 31, [27], .eff fun e => effExt 1 (e 27)⟩,
  ⟨none, some 8, [], .eff fun e => effAlloc ([Value.slice none 0 0])⟩,
  ⟨none, none, [8, 30], .eff fun e => effStore 1 (e 8) (e 30)⟩,
  ⟨none, some 9, [31], .eff fun e => ret (e 31)⟩]
noncomputable def p3_r6 : List PI := [
  ⟨none, some 33, [2], .eff fun e => effLoadN 1 (e 2)⟩,
  ⟨none, some 34, [33], .call 19 ([Operand.tmp 33])⟩,
  ⟨none, some 32, [34], .eff fun e => ret (e 34)⟩,
  ⟨none, some 35, [32], .eff fun e => effExt 0 (e 32)⟩,
  ⟨none, some 36, [32], .eff fun e => effExt 1 (e 32)⟩,
  ⟨none, some 10, [], .eff fun e => effAlloc ([Value.slice none 0 0])⟩,
  ⟨none, none, [10, 35], .eff fun e => effStore 1 (e 10) (e 35)⟩,
  ⟨none, some 11, [36], .eff fun e => ret (e 36)⟩]
noncomputable def p3_r7 : List PI := [
  ⟨none, some 38, [5], .eff fun e => effLoadN 1 (e 5)⟩,
  ⟨none, some 39, [38], .call 20 ([Operand.tmp 38])⟩,
  ⟨none, some 37, [39], .eff fun e => ret (e 39)⟩,
  ⟨none, some 40, [37], .eff fun e => effExt 0 (e 37)⟩,
  ⟨none, some 41, [37], .eff fun e => effExt 1 (e 37)⟩,
  ⟨none, some 12, [], .eff fun e => effAlloc ([Value.slice none 0 0])⟩,
  ⟨none, none, [12, 40], .eff fun e => effStore 1 (e 12) (e 40)⟩,
  ⟨none, some 13, [41], .eff fun e => ret (e 41)⟩]
noncomputable def p3_r8 : List PI := [
  ⟨none, some 43, [2], .eff fun e => effLoadN 1 (e 2)⟩,
  ⟨none, some 44, [1], .eff fun e => ret (e 1)⟩,
  ⟨none, some 45, [43, 44], .call 21 ([Operand.tmp 43, Operand.tmp 44])⟩,
  ⟨none, some 42, [45], .eff fun e => ret (e 45)⟩,
  ⟨none, some 46, [42], .eff fun e => effExt 0 (e 42)⟩,
  ⟨none, some 47, [42], .eff fun e => effExt 1 (e 42)⟩,
  ⟨none, some 14, [], .eff fun e => effAlloc ([Value.slice none 0 0])⟩,
  ⟨none, none, [14, 46], .eff fun e => effStore 1 (e 14) (e 46)⟩,
  ⟨none, some 15, [47], .eff fun e => ret (e 47)⟩]
noncomputable def p3_r9 : List PI := [
  ⟨none, some 49, [5], .eff fun e => effLoadN 1 (e 5)⟩,
  ⟨none, some 50, [1], .eff fun e => ret (e 1)⟩,
  ⟨none, some 51, [49, 50], .call 22 ([Operand.tmp 49, Operand.tmp 50])⟩,
  ⟨none, some 48, [51], .eff fun e => ret (e 51)⟩,
  ⟨none, some 52, [48], .eff fun e => effExt 0 (e 48)⟩,
  ⟨none, some 53, [48], .eff fun e => effExt 1 (e 48)⟩,
  ⟨none, some 16, [], .eff fun e => effAlloc ([Value.slice none 0 0])⟩,
  ⟨none, none, [16, 52], .eff fun e => effStore 1 (e 16) (e 52)⟩,
  ⟨none, some 17, [53], .eff fun e => ret (e 53)⟩]
noncomputable def p3_r10 : List PI := [
  ⟨none, some 54, [6], .eff fun e => effOff 0 (e 6)⟩,
  ⟨none, some 55, [54], .eff fun e => effLoad1 (e 54)⟩,
  ⟨none, some 56, [8], .eff fun e => effOff 0 (e 8)⟩,
  ⟨none, some 57, [56], .eff fun e => effLoad1 (e 56)⟩,
  ⟨none, some 58, [55, 57], .call 23 ([Operand.tmp 55, Operand.tmp 57])⟩,
  ⟨none, some 59, [58], .eff fun e => ret (e 58)⟩,
  ⟨some (59, true), some 60, [7], .eff fun e => ret (e 7)⟩,
  ⟨some (59, true), some 61, [9], .eff fun e => ret (e 9)⟩,
  ⟨some (59, true), some 62, [60, 61], .eff fun e => effIb (BinOp.eql) (e 60) (e 61)⟩,
  ⟨none, some 63, [59, 62], .eff fun e => effPick (e 59) (e 62) (.v (Value.bool false))⟩,
  ⟨none, some 64, [63], .eff fun e => ret (e 63)⟩,
  ⟨some (64, true), some 65, [10], .eff fun e => effOff 0 (e 10)⟩,
  ⟨some (64, true), some 66, [65], .eff fun e => effLoad1 (e 65)⟩,
  ⟨some (64, true), some 67, [12], .eff fun e => effOff 0 (e 12)⟩,
  ⟨some (64, true), some 68, [67], .eff fun e => effLoad1 (e 67)⟩,
  ⟨some (64, true), some 69, [66, 68], .call 23 ([Operand.tmp 66, Operand.tmp 68])⟩,
  ⟨none, some 70, [64, 69], .eff fun e => effPick (e 64) (e 69) (.v (Value.bool false))⟩,
  ⟨none, some 71, [70], .eff fun e => ret (e 70)⟩,
  ⟨some (71, true), some 72, [11], .eff fun e => ret (e 11)⟩,
  ⟨some (71, true), some 73, [13], .eff fun e => ret (e 13)⟩,
  ⟨some (71, true), some 74, [72, 73], .eff fun e => effIb (BinOp.eql) (e 72) (e 73)⟩,
  ⟨none, some 75, [71, 74], .eff fun e => effPick (e 71) (e 74) (.v (Value.bool false))⟩,
  ⟨none, some 76, [75], .eff fun e => ret (e 75)⟩,
  ⟨some (76, true), some 77, [14], .eff fun e => effOff 0 (e 14)⟩,
  ⟨some (76, true), some 78, [77], .eff fun e => effLoad1 (e 77)⟩,
  ⟨some (76, true), some 79, [16], .eff fun e => effOff 0 (e 16)⟩,
  ⟨some (76, true), some 80, [79], .eff fun e => effLoad1 (e 79)⟩,
  ⟨some (76, true), some 81, [78, 80], .call 23 ([Operand.tmp 78, Operand.tmp 80])⟩,
  ⟨none, some 82, [76, 81], .eff fun e => effPick (e 76) (e 81) (.v (Value.bool false))⟩,
  ⟨none, some 83, [82], .eff fun e => ret (e 82)⟩,
  ⟨some (83, true), some 84, [15], .eff fun e => ret (e 15)⟩,
  ⟨some (83, true), some 85, [17], .eff fun e => ret (e 17)⟩,
  ⟨some (83, true), some 86, [84, 85], .eff fun e => effIb (BinOp.eql) (e 84) (e 85)⟩,
  ⟨none, some 87, [83, 86], .eff fun e => effPick (e 83) (e 86) (.v (Value.bool false))⟩,
  ⟨none, some 88, [87], .eff fun e => ret (e 87)⟩,
  ⟨some (88, true), some 89, [], .call 16 ([])⟩,
  ⟨none, some 90, [88, 89], .eff fun e => effPick (e 88) (e 89) (.v (Value.bool false))⟩,
  ⟨none, some 4, [90], .eff fun e => ret (e 90)⟩]
noncomputable def p3 : PCode := (.seq (.reg p3_r0 [1, 2]) (.seq (.seq (.reg p3_r1 [1, 2, 19]) (.cond (Operand.tmp 19) (.seq (.reg p3_r2 [4]) .ret) .skip)) (.seq (.reg p3_r3 [1, 2, 5]) (.seq (.reg p3_r4 [1, 2, 5, 6, 7]) (.seq (.reg p3_r5 [1, 2, 5, 6, 7, 8, 9]) (.seq (.reg p3_r6 [1, 2, 5, 6, 7, 8, 9, 10, 11]) (.seq (.reg p3_r7 [1, 2, 5, 6, 7, 8, 9, 10, 11, 12, 13]) (.seq (.reg p3_r8 [1, 5, 6, 7, 8, 9, 10, 11, 12, 13, 14, 15]) (.seq (.reg p3_r9 [6, 7, 8, 9, 10, 11, 12, 13, 14, 15, 16, 17]) (.seq (.reg p3_r10 [4]) .ret))))))))))
def c3_r0 : List SIns := [
  { dst := some 2, op := SOp.box (Operand.tmp 0), guard := none },
  { dst := some 4, op := SOp.mv (Operand.const (Value.bool false)), guard := none }]
def c3_r1 : List SIns := [
  { dst := some 18, op := SOp.loadN 1 (Operand.tmp 2), guard := none },
  { dst := some 19, op := SOp.call 15 [Operand.tmp 18], guard := none }]
def c3_r2 : List SIns := [
  { dst := some 20, op := SOp.call 16 [], guard := none },
  { dst := some 4, op := SOp.mv (Operand.tmp 20), guard := none }]
def c3_r3 : List SIns := [
  { dst := some 21, op := SOp.loadN 1 (Operand.tmp 2), guard := none },
  { dst := some 5, op := SOp.alloc [Value.slice none 0 0], guard := none },
  { dst := none, op := SOp.store 1 (Operand.tmp 5) (Operand.tmp 21), guard := none }]
def c3_r4 : List SIns := [
  { dst := some 23, op := SOp.loadN 1 (Operand.tmp 2), guard := none },
  { dst := some 24, op := SOp.call 17 [Operand.tmp 23], guard := none },
  { dst := some 22, op := SOp.mv (Operand.tmp 24), guard := none },
  { dst := some 25, op := SOp.ext (Operand.tmp 22) 0, guard := none },
  { dst := some 26, op := SOp.ext (Operand.tmp 22) 1, guard := none },
  { dst := some 6, op := SOp.alloc [Value.slice none 0 0], guard := none },
  { dst := none, op := SOp.store 1 (Operand.tmp 6) (Operand.tmp 25), guard := none },
  { dst := some 7, op := SOp.mv (Operand.tmp 26), guard := none }]
def c3_r5 : List SIns := [
  { dst := some 28, op := SOp.loadN 1 (Operand.tmp 5), guard := none },
  { dst := some 29, op := SOp.call 18 [Operand.tmp 28], guard := none },
  { dst := some 27, op := SOp.mv (Operand.tmp 29), guard := none },
  { dst := some 30, op := SOp.ext (Operand.tmp 27) 0, guard := none },
  { dst := some 31, op := SOp.ext (Operand.tmp 27) 1, guard := none },
  { dst := some 8, op := SOp.alloc [Value.slice none 0 0], guard := none },
  { dst := none, op := SOp.store 1 (Operand.tmp 8) (Operand.tmp 30), guard := none },
  { dst := some 9, op := SOp.mv (Operand.tmp 31), guard := none }]
def c3_r6 : List SIns := [
  { dst := some 33, op := SOp.loadN 1 (Operand.tmp 2), guard := none },
  { dst := some 34, op := SOp.call 19 [Operand.tmp 33], guard := none },
  { dst := some 32, op := SOp.mv (Operand.tmp 34), guard := none },
  { dst := some 35, op := SOp.ext (Operand.tmp 32) 0, guard := none },
  { dst := some 36, op := SOp.ext (Operand.tmp 32) 1, guard := none },
  { dst := some 10, op := SOp.alloc [Value.slice none 0 0], guard := none },
  { dst := none, op := SOp.store 1 (Operand.tmp 10) (Operand.tmp 35), guard := none },
  { dst := some 11, op := SOp.mv (Operand.tmp 36), guard := none }]
def c3_r7 : List SIns := [
  { dst := some 38, op := SOp.loadN 1 (Operand.tmp 5), guard := none },
  { dst := some 39, op := SOp.call 20 [Operand.tmp 38], guard := none },
  { dst := some 37, op := SOp.mv (Operand.tmp 39), guard := none },
  { dst := some 40, op := SOp.ext (Operand.tmp 37) 0, guard := none },
  { dst := some 41, op := SOp.ext (Operand.tmp 37) 1, guard := none },
  { dst := some 12, op := SOp.alloc [Value.slice none 0 0], guard := none },
  { dst := none, op := SOp.store 1 (Operand.tmp 12) (Operand.tmp 40), guard := none },
  { dst := some 13, op := SOp.mv (Operand.tmp 41), guard := none }]
def c3_r8 : List SIns := [
  { dst := some 43, op := SOp.loadN 1 (Operand.tmp 2), guard := none },
  { dst := some 44, op := SOp.mv (Operand.tmp 1), guard := none },
  { dst := some 45, op := SOp.call 21 [Operand.tmp 43, Operand.tmp 44], guard := none },
  { dst := some 42, op := SOp.mv (Operand.tmp 45), guard := none },
  { dst := some 46, op := SOp.ext (Operand.tmp 42) 0, guard := none },
  { dst := some 47, op := SOp.ext (Operand.tmp 42) 1, guard := none },
  { dst := some 14, op := SOp.alloc [Value.slice none 0 0], guard := none },
  { dst := none, op := SOp.store 1 (Operand.tmp 14) (Operand.tmp 46), guard := none },
  { dst := some 15, op := SOp.mv (Operand.tmp 47), guard := none }]
def c3_r9 : List SIns := [
  { dst := some 49, op := SOp.loadN 1 (Operand.tmp 5), guard := none },
  { dst := some 50, op := SOp.mv (Operand.tmp 1), guard := none },
  { dst := some 51, op := SOp.call 22 [Operand.tmp 49, Operand.tmp 50], guard := none },
  { dst := some 48, op := SOp.mv (Operand.tmp 51), guard := none },
  { dst := some 52, op := SOp.ext (Operand.tmp 48) 0, guard := none },
  { dst := some 53, op := SOp.ext (Operand.tmp 48) 1, guard := none },
  { dst := some 16, op := SOp.alloc [Value.slice none 0 0], guard := none },
  { dst := none, op := SOp.store 1 (Operand.tmp 16) (Operand.tmp 52), guard := none },
  { dst := some 17, op := SOp.mv (Operand.tmp 53), guard := none }]
def c3_r10 : List SIns := [
  { dst := some 54, op := SOp.off 0 (Operand.tmp 6), guard := none },
  { dst := some 55, op := SOp.load1 (Operand.tmp 54), guard := none },
  { dst := some 56, op := SOp.off 0 (Operand.tmp 8), guard := none },
  { dst := some 57, op := SOp.load1 (Operand.tmp 56), guard := none },
  { dst := some 58, op := SOp.call 23 [Operand.tmp 55, Operand.tmp 57], guard := none },
  { dst := some 59, op := SOp.mv (Operand.tmp 58), guard := none },
  { dst := some 60, op := SOp.mv (Operand.tmp 7), guard := some (59, true) },
  { dst := some 61, op := SOp.mv (Operand.tmp 9), guard := some (59, true) },
  { dst := some 62, op := SOp.ib (BinOp.eql) (Operand.tmp 60) (Operand.tmp 61), guard := some (59, true) },
  { dst := some 63, op := SOp.pick (Operand.tmp 59) (Operand.tmp 62) (Operand.const (Value.bool false)), guard := none },
  { dst := some 64, op := SOp.mv (Operand.tmp 63), guard := none },
  { dst := some 65, op := SOp.off 0 (Operand.tmp 10), guard := some (64, true) },
  { dst := some 66, op := SOp.load1 (Operand.tmp 65), guard := some (64, true) },
  { dst := some 67, op := SOp.off 0 (Operand.tmp 12), guard := some (64, true) },
  { dst := some 68, op := SOp.load1 (Operand.tmp 67), guard := some (64, true) },
  { dst := some 69, op := SOp.call 23 [Operand.tmp 66, Operand.tmp 68], guard := some (64, true) },
  { dst := some 70, op := SOp.pick (Operand.tmp 64) (Operand.tmp 69) (Operand.const (Value.bool false)), guard := none },
  { dst := some 71, op := SOp.mv (Operand.tmp 70), guard := none },
  { dst := some 72, op := SOp.mv (Operand.tmp 11), guard := some (71, true) },
  { dst := some 73, op := SOp.mv (Operand.tmp 13), guard := some (71, true) },
  { dst := some 74, op := SOp.ib (BinOp.eql) (Operand.tmp 72) (Operand.tmp 73), guard := some (71, true) },
  { dst := some 75, op := SOp.pick (Operand.tmp 71) (Operand.tmp 74) (Operand.const (Value.bool false)), guard := none },
  { dst := some 76, op := SOp.mv (Operand.tmp 75), guard := none },
  { dst := some 77, op := SOp.off 0 (Operand.tmp 14), guard := some (76, true) },
  { dst := some 78, op := SOp.load1 (Operand.tmp 77), guard := some (76, true) },
  { dst := some 79, op := SOp.off 0 (Operand.tmp 16), guard := some (76, true) },
  { dst := some 80, op := SOp.load1 (Operand.tmp 79), guard := some (76, true) },
  { dst := some 81, op := SOp.call 23 [Operand.tmp 78, Operand.tmp 80], guard := some (76, true) },
  { dst := some 82, op := SOp.pick (Operand.tmp 76) (Operand.tmp 81) (Operand.const (Value.bool false)), guard := none },
  { dst := some 83, op := SOp.mv (Operand.tmp 82), guard := none },
  { dst := some 84, op := SOp.mv (Operand.tmp 15), guard := some (83, true) },
  { dst := some 85, op := SOp.mv (Operand.tmp 17), guard := some (83, true) },
  { dst := some 86, op := SOp.ib (BinOp.eql) (Operand.tmp 84) (Operand.tmp 85), guard := some (83, true) },
  { dst := some 87, op := SOp.pick (Operand.tmp 83) (Operand.tmp 86) (Operand.const (Value.bool false)), guard := none },
  { dst := some 88, op := SOp.mv (Operand.tmp 87), guard := none },
  { dst := some 89, op := SOp.call 16 [], guard := some (88, true) },
  { dst := some 90, op := SOp.pick (Operand.tmp 88) (Operand.tmp 89) (Operand.const (Value.bool false)), guard := none },
  { dst := some 4, op := SOp.mv (Operand.tmp 90), guard := none }]
def c3 : SCode := (.seq (.reg c3_r0 [1, 2]) (.seq (.seq (.reg c3_r1 [1, 2, 19]) (.cond (Operand.tmp 19) (.seq (.reg c3_r2 [4]) .ret) .skip)) (.seq (.reg c3_r3 [1, 2, 5]) (.seq (.reg c3_r4 [1, 2, 5, 6, 7]) (.seq (.reg c3_r5 [1, 2, 5, 6, 7, 8, 9]) (.seq (.reg c3_r6 [1, 2, 5, 6, 7, 8, 9, 10, 11]) (.seq (.reg c3_r7 [1, 2, 5, 6, 7, 8, 9, 10, 11, 12, 13]) (.seq (.reg c3_r8 [1, 5, 6, 7, 8, 9, 10, 11, 12, 13, 14, 15]) (.seq (.reg c3_r9 [6, 7, 8, 9, 10, 11, 12, 13, 14, 15, 16, 17]) (.seq (.reg c3_r10 [4]) .ret))))))))))
end Go.Sx.Ch
