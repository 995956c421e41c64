/- What the laws of the lock layer have in common: works, an order made by numbers is checked. No conditions. -/
import Derived.Test.YteoiebmbgbgpgaaSxJMBtoLVe
import Derived.Test.YteoiebmbgbgpgaaSxJPLbtoLEw
set_option linter.unusedVariables false
set_option linter.unusedSimpArgs false
set_option maxRecDepth 4000
namespace Go.Sx.Lk
open Go Go.Sx Go.Proofs
def s15 : Sp := spT 15 [] (res true (vB true))
@[simp] theorem s15_g : s15.g = 15 := rfl
@[simp] theorem s15_f : s15.f = (spT 15 [] (res true (vB true))).f := rfl
theorem s15_ok : s15.ok Try.prog := by
  apply spT_ok
  simp only [OkT]
  intro r h' k' hh
  obtain ⟨_, rfl, rfl, rfl⟩ := res_inv hh
  exact k100_ok
end Go.Sx.Lk
