/- What functions of the chart layer's laws return: works. No conditions. -/
import Derived.Test.YtfiebjbhiflfpaaDoorSxJCAtoCC
import Derived.Test.YtfiebjbhiflfpaaDoorSxJPCttoCEw
set_option linter.unusedVariables false
set_option linter.unusedSimpArgs false
set_option maxRecDepth 4000
namespace Go.Sx.Ch
open Go Go.Sx Go.Proofs
def s16 : Sp := spT 16 [] (res true (vB true))
@[simp] theorem s16_g : s16.g = 16 := rfl
@[simp] theorem s16_f : s16.f = (spT 16 [] (res true (vB true))).f := rfl
theorem s16_ok : s16.ok Tryd.prog := by
  apply spT_ok
  simp only [OkT]
  intro r h' k' hh
  obtain ⟨_, rfl, rfl, rfl⟩ := res_inv hh
  exact k100_ok
end Go.Sx.Ch
