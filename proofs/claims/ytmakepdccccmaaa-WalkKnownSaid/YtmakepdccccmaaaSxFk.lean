/- The statement about the examples returns true. No conditions. -/
import Derived.Test.YtmakepdccccmaaaSxEw
import Derived.Test.YtmakepdccccmaaaSxF1
import Derived.Test.YtmakepdccccmaaaSxF2
import Derived.Test.YtmakepdccccmaaaSxF3
import Derived.Test.YtmakepdccccmaaaSxF4
import Derived.KernelRfl
set_option linter.unusedVariables false
set_option maxRecDepth 1000000
namespace Go.Sx.Wk
open Go Go.Sx Go.Proofs

def k29 : Known := ⟨8, [], [], 0, .v (.bool true), [], 0⟩
theorem k29_ok : k29.ok Try.prog := runQ_ok (known_ok (ms := [k28, k14, k15, k16, k17, k18, k19, k20, k21, k22, k23, k24, k25, k26, k27]) ⟨k28_ok, k14_ok, k15_ok, k16_ok, k17_ok, k18_ok, k19_ok, k20_ok, k21_ok, k22_ok, k23_ok, k24_ok, k25_ok, k26_ok, k27_ok, trivial⟩) tab_ok 200 60 k29.g k29.args k29.h k29.k k29.r k29.h' k29.k' (by kernel_rfl)

end Go.Sx.Wk
