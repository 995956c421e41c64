/- The codes of the functions, written by a program (Gen.lean), and that they are the functions'. No conditions. -/
import Derived.Test.YtfiebjbhiflfpaaDoorSxN
import Derived.KernelRfl
import Derived.Test.YtfiebjbhiflfpaaDoorProg
set_option linter.unusedVariables false
set_option maxRecDepth 100000
namespace Go.Sx.Ch
open Go Go.Sx Go.Proofs

def c91_r0 : List SIns := [
  { dst := some 4, op := SOp.mv (Operand.const (Value.int (IntKind.i64) 0)), guard := none }]
def c91_r1 : List SIns := [
  { dst := some 6, op := SOp.mv (Operand.tmp 0), guard := none },
  { dst := some 7, op := SOp.lenSl (Operand.tmp 6), guard := none },
  { dst := some 8, op := SOp.mv (Operand.const (Value.int (IntKind.i64) 0)), guard := none }]
def c91_r2 : List SIns := [
  { dst := some 9, op := SOp.ib (BinOp.lss) (Operand.tmp 8) (Operand.tmp 7), guard := none }]
def c91_r3 : List SIns := [
  { dst := some 10, op := SOp.mv (Operand.tmp 8), guard := none },
  { dst := some 5, op := SOp.mv (Operand.tmp 10), guard := none }]
def c91_r4 : List SIns := [
  { dst := some 11, op := SOp.mv (Operand.tmp 1), guard := none },
  { dst := some 12, op := SOp.mv (Operand.tmp 0), guard := none },
  { dst := some 13, op := SOp.mv (Operand.tmp 5), guard := none },
  { dst := some 14, op := SOp.idx 1 (Operand.tmp 12) (Operand.tmp 13), guard := none },
  { dst := some 15, op := SOp.load1 (Operand.tmp 14), guard := none },
  { dst := some 16, op := SOp.ib (BinOp.eql) (Operand.tmp 11) (Operand.tmp 15), guard := none }]
def c91_r5 : List SIns := [
  { dst := some 17, op := SOp.mv (Operand.tmp 5), guard := none },
  { dst := some 4, op := SOp.mv (Operand.tmp 17), guard := none }]
def c91_r6 : List SIns := [
  { dst := some 18, op := SOp.ib (BinOp.add) (Operand.tmp 8) (Operand.const (Value.int (IntKind.i64) 1)), guard := none },
  { dst := some 8, op := SOp.mv (Operand.tmp 18), guard := none }]
def c91_l0 : SCode := (.seq (.reg c91_r2 [0, 1, 7, 8, 9]) (.seq (.cond (Operand.tmp 9) .skip (.exit 0)) (.seq (.block 1 (.seq (.reg c91_r3 [0, 1, 5, 7, 8]) (.seq (.reg c91_r4 [0, 1, 5, 7, 8, 16]) (.cond (Operand.tmp 16) (.seq (.reg c91_r5 [4]) .ret) .skip)))) (.reg c91_r6 [0, 1, 7, 8]))))
def c91_r7 : List SIns := [
  { dst := some 4, op := SOp.mv (Operand.const (Value.int (IntKind.i64) (-1))), guard := none }]
def c91 : SCode := (.seq (.reg c91_r0 [0, 1]) (.seq (.seq (.reg c91_r1 [0, 1, 7, 8]) (.block 0 (.loop c91_l0))) (.seq (.reg c91_r7 [4]) .ret)))
theorem F91 : Fn Tryd.prog 91 c91 [SRes.tmp 4] 19 := ⟨Tryd.f91, Tryd.f91.body.getD .skip, [[0, 1], [0, 1, 7, 8], [0, 1, 7, 8, 9], [0, 1, 5, 7, 8], [0, 1, 5, 7, 8, 16], [4], [0, 1, 7, 8], [4]], Tryd.func91, by kernel_rfl, by kernel_rfl, by kernel_rfl, by kernel_rfl, by decide⟩

end Go.Sx.Ch
