/- The examples of the chapter hold. No conditions. -/
import Derived.Test.YtmakepdccccmaaaSxE1
import Derived.Test.YtmakepdccccmaaaSxE2
import Derived.Test.YtmakepdccccmaaaSxE3
import Derived.Test.YtmakepdccccmaaaSxE4
import Derived.Test.YtmakepdccccmaaaSxE5
import Derived.KernelRfl
set_option linter.unusedVariables false
set_option maxRecDepth 1000000
namespace Go.Sx.Wk
open Go Go.Sx Go.Proofs

def k28 : Known := ⟨16, [], [], 0, .v (.bool true), [], 0⟩
theorem k28_ok : k28.ok Try.prog := runQ_ok (known_ok (ms := [k0, k1, k2, k3, k4, k5, k6, k7, k8, k9, k10, k11, k12, k13]) ⟨k0_ok, k1_ok, k2_ok, k3_ok, k4_ok, k5_ok, k6_ok, k7_ok, k8_ok, k9_ok, k10_ok, k11_ok, k12_ok, k13_ok, trivial⟩) tab_ok 200 60 k28.g k28.args k28.h k28.k k28.r k28.h' k28.k' (by kernel_rfl)

end Go.Sx.Wk
