/- The codes of the functions, written by a program (Gen.lean), and that they are the functions'. No conditions. -/
import Derived.Test.YtmakepdccccmaaaSxN
import Derived.KernelRfl
import Derived.Test.YtmakepdccccmaaaProg
set_option linter.unusedVariables false
set_option maxRecDepth 100000
namespace Go.Sx.Wk
open Go Go.Sx Go.Proofs

-- 76 slices.Grow[[]int,int]
def c76_r0 : List SIns := [
  { dst := some 4, op := SOp.mv (Operand.const (Value.slice none 0 0)), guard := none }]
def c76_r1 : List SIns := [
  { dst := some 5, op := SOp.mv (Operand.tmp 1), guard := none },
  { dst := some 6, op := SOp.ib (BinOp.lss) (Operand.tmp 5) (Operand.const (Value.int (IntKind.i64) 0)), guard := none }]
def c76_r2 : List SIns := [
  { dst := some 7, op := SOp.mkifc 9 (Operand.const (Value.string (⟨#[99, 97, 110, 110, 111, 116, 32, 98, 101, 32, 110, 101, 103, 97, 116, 105, 118, 101]⟩ : ByteArray))), guard := none },
  { dst := none, op := SOp.fail, guard := none }]
def c76_r3 : List SIns := [
  { dst := some 8, op := SOp.mv (Operand.tmp 1), guard := none },
  { dst := some 9, op := SOp.mv (Operand.tmp 0), guard := none },
  { dst := some 10, op := SOp.cap (Operand.tmp 9), guard := none },
  { dst := some 11, op := SOp.mv (Operand.tmp 0), guard := none },
  { dst := some 12, op := SOp.lenSl (Operand.tmp 11), guard := none },
  { dst := some 13, op := SOp.ib (BinOp.sub) (Operand.tmp 10) (Operand.tmp 12), guard := none },
  { dst := some 14, op := SOp.ib (BinOp.sub) (Operand.tmp 8) (Operand.tmp 13), guard := none },
  { dst := some 1, op := SOp.mv (Operand.tmp 14), guard := none }]
def c76_r4 : List SIns := [
  { dst := some 15, op := SOp.mv (Operand.tmp 1), guard := none },
  { dst := some 16, op := SOp.ib (BinOp.gtr) (Operand.tmp 15) (Operand.const (Value.int (IntKind.i64) 0)), guard := none }]
def c76_r5 : List SIns := [
  { dst := some 17, op := SOp.mv (Operand.tmp 0), guard := none },
  { dst := some 18, op := SOp.mv (Operand.tmp 0), guard := none },
  { dst := some 19, op := SOp.cap (Operand.tmp 18), guard := none },
  { dst := some 20, op := SOp.slc 1 (Operand.tmp 17) none (some (Operand.tmp 19)) none, guard := none },
  { dst := some 21, op := SOp.mv (Operand.tmp 1), guard := none },
  { dst := some 22, op := SOp.appz 8 (Value.int (IntKind.i64) 0) (Operand.tmp 20) (Operand.tmp 21), guard := none },
  { dst := some 23, op := SOp.mv (Operand.tmp 0), guard := none },
  { dst := some 24, op := SOp.lenSl (Operand.tmp 23), guard := none },
  { dst := some 25, op := SOp.slc 1 (Operand.tmp 22) none (some (Operand.tmp 24)) none, guard := none },
  { dst := some 0, op := SOp.mv (Operand.tmp 25), guard := none }]
def c76_r6 : List SIns := [
  { dst := some 26, op := SOp.mv (Operand.tmp 0), guard := none },
  { dst := some 4, op := SOp.mv (Operand.tmp 26), guard := none }]
def c76 : SCode := (.seq (.reg c76_r0 [0, 1]) (.seq (.seq (.reg c76_r1 [0, 1, 6]) (.cond (Operand.tmp 6) (.reg c76_r2 [0, 1]) .skip)) (.seq (.seq (.reg c76_r3 [0, 1]) (.seq (.reg c76_r4 [0, 1, 16]) (.cond (Operand.tmp 16) (.reg c76_r5 [0]) .skip))) (.seq (.reg c76_r6 [4]) .ret))))
theorem F76 : Fn Try.prog 76 c76 [SRes.tmp 4] 27 := ⟨Try.f76, Try.f76.body.getD .skip, [[0, 1], [0, 1, 6], [0, 1], [0, 1], [0, 1, 16], [0], [4]], Try.func76, by kernel_rfl, by kernel_rfl, by kernel_rfl, by kernel_rfl, by decide⟩

end Go.Sx.Wk
