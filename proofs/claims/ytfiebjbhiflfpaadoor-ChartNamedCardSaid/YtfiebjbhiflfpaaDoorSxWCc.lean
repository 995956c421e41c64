/- The codes of the functions, written by a program (Gen.lean), and that they are the functions'. No conditions. -/
import Derived.Test.YtfiebjbhiflfpaaDoorSxN
import Derived.KernelRfl
import Derived.Test.YtfiebjbhiflfpaaDoorProg
set_option linter.unusedVariables false
set_option maxRecDepth 100000
namespace Go.Sx.Ch
open Go Go.Sx Go.Proofs

def c42_r0 : List SIns := [
  { dst := some 1, op := SOp.box (Operand.tmp 0), guard := none },
  { dst := some 2, op := SOp.alloc [Value.slice none 0 0], guard := none },
  { dst := some 3, op := SOp.mv (Operand.const (Value.int (IntKind.i64) 0)), guard := none }]
def c42_r1 : List SIns := [
  { dst := some 7, op := SOp.loadN 1 (Operand.tmp 1), guard := none },
  { dst := some 8, op := SOp.call 67 [Operand.tmp 7], guard := none },
  { dst := some 6, op := SOp.mv (Operand.tmp 8), guard := none },
  { dst := some 9, op := SOp.ext (Operand.tmp 6) 0, guard := none },
  { dst := some 10, op := SOp.ext (Operand.tmp 6) 1, guard := none },
  { dst := some 4, op := SOp.alloc [Value.int (IntKind.i64) 0, Value.int (IntKind.i64) 0, Value.int (IntKind.i64) 0, Value.int (IntKind.i64) 0, Value.int (IntKind.i64) 0, Value.int (IntKind.i64) 0, Value.int (IntKind.i64) 0, Value.int (IntKind.i64) 0, Value.int (IntKind.i64) 0, Value.int (IntKind.i64) 0, Value.int (IntKind.i64) 0, Value.int (IntKind.i64) 0, Value.int (IntKind.i64) 0, Value.int (IntKind.i64) 0, Value.int (IntKind.i64) 0, Value.int (IntKind.i64) 0, Value.int (IntKind.i64) 0, Value.int (IntKind.i64) 0, Value.int (IntKind.i64) 0, Value.int (IntKind.i64) 0, Value.int (IntKind.i64) 0, Value.int (IntKind.i64) 0, Value.int (IntKind.i64) 0, Value.int (IntKind.i64) 0, Value.int (IntKind.i64) 0, Value.int (IntKind.i64) 0, Value.int (IntKind.i64) 0, Value.int (IntKind.i64) 0, Value.int (IntKind.i64) 0, Value.int (IntKind.i64) 0, Value.int (IntKind.i64) 0, Value.int (IntKind.i64) 0, Value.int (IntKind.i64) 0, Value.int (IntKind.i64) 0], guard := none },
  { dst := none, op := SOp.store 34 (Operand.tmp 4) (Operand.tmp 9), guard := none },
  { dst := some 5, op := SOp.mv (Operand.tmp 10), guard := none }]
def c42_r2 : List SIns := [
  { dst := some 11, op := SOp.mv (Operand.tmp 5), guard := none },
  { dst := some 12, op := SOp.ib (BinOp.neq) (Operand.tmp 11) (Operand.const (Value.int (IntKind.i64) 0)), guard := none }]
def c42_r3 : List SIns := [
  { dst := some 13, op := SOp.build [Value.slice none 0 0] [], guard := none },
  { dst := some 14, op := SOp.mv (Operand.tmp 5), guard := none },
  { dst := none, op := SOp.store 1 (Operand.tmp 2) (Operand.tmp 13), guard := none },
  { dst := some 3, op := SOp.mv (Operand.tmp 14), guard := none }]
def c42_r4 : List SIns := [
  { dst := some 15, op := SOp.loadN 34 (Operand.tmp 4), guard := none },
  { dst := some 16, op := SOp.loadN 34 (Operand.tmp 4), guard := none },
  { dst := some 17, op := SOp.mkfn (Fn.func 71) [Operand.tmp 16] [], guard := none },
  { dst := some 18, op := SOp.call 68 [Operand.tmp 15, Operand.tmp 17], guard := none },
  { dst := some 19, op := SOp.build [Value.slice none 0 0] [(0, 1, Operand.tmp 18)], guard := none },
  { dst := none, op := SOp.store 1 (Operand.tmp 2) (Operand.tmp 19), guard := none },
  { dst := some 3, op := SOp.mv (Operand.const (Value.int (IntKind.i64) 0)), guard := none }]
def c42 : SCode := (.seq (.reg c42_r0 [1, 2]) (.seq (.reg c42_r1 [2, 4, 5]) (.seq (.seq (.reg c42_r2 [2, 4, 5, 12]) (.cond (Operand.tmp 12) (.seq (.reg c42_r3 [2, 3]) .ret) .skip)) (.seq (.reg c42_r4 [2, 3]) .ret))))
theorem F42 : Fn Tryd.prog 42 c42 [SRes.cell 2 (some 1), SRes.tmp 3] 20 := ⟨Tryd.f42, Tryd.f42.body.getD .skip, [[1, 2], [2, 4, 5], [2, 4, 5, 12], [2, 3], [2, 3]], Tryd.func42, by kernel_rfl, by kernel_rfl, by kernel_rfl, by kernel_rfl, by decide⟩

end Go.Sx.Ch
