/- The examples of the chapter hold. No conditions. -/
import Derived.Test.YtfiebjbhiflfpaaDoorSxJCE1toCE3
import Derived.KernelRfl
import Derived.Test.YtfiebjbhiflfpaaDoorSxJCJtoCL
set_option linter.unusedVariables false
set_option maxRecDepth 1000000
namespace Go.Sx.Ch
open Go Go.Sx Go.Proofs

def k100 : Known := ⟨16, [], [], 0, .v (.bool true), [], 0⟩
theorem k100_ok : k100.ok Tryd.prog := runQ_ok (known_ok (ms := [k0, k1, k2, k3, k4, k5, k6, k7, k8, k9, k10, k11, k12]) ⟨k0_ok, k1_ok, k2_ok, k3_ok, k4_ok, k5_ok, k6_ok, k7_ok, k8_ok, k9_ok, k10_ok, k11_ok, k12_ok, trivial⟩) tab_ok 200 60 k100.g k100.args k100.h k100.k k100.r k100.h' k100.k' (by kernel_rfl)

end Go.Sx.Ch
set_option linter.unusedSimpArgs false
set_option maxRecDepth 4000
namespace Go.Sx.Ch
open Go Go.Sx Go.Proofs

def s16 : Sp := spT 16 [] (res true (vB true))
@[simp] theorem s16_g : s16.g = 16 := rfl
@[simp] theorem s16_f : s16.f = (spT 16 [] (res true (vB true))).f := rfl
theorem s16_ok : s16.ok Tryd.prog := by
  apply spT_ok
  simp only [OkT]
  intro r h' k' hh
  obtain ⟨_, rfl, rfl, rfl⟩ := res_inv hh
  exact k100_ok
end Go.Sx.Ch
