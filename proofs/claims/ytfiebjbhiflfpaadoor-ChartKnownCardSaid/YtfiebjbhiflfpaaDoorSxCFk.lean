/- The statement about the examples returns true. No conditions. -/
import Derived.Test.YtfiebjbhiflfpaaDoorSxCEw
import Derived.Test.YtfiebjbhiflfpaaDoorSxJCF1toCF3
import Derived.KernelRfl
set_option linter.unusedVariables false
set_option maxRecDepth 1000000
namespace Go.Sx.Ch
open Go Go.Sx Go.Proofs

def k101 : Known := ⟨6, [], [], 0, .v (.bool true), [], 0⟩
theorem k101_ok : k101.ok Tryd.prog := runQ_ok (known_ok (ms := [k100, k0, k1, k2, k3, k4, k5, k6, k7, k8, k9, k10, k11, k12, k13, k14, k15, k16, k17, k18, k19, k20, k21, k22, k23, k24, k25, k26, k27, k28, k29, k30]) ⟨k100_ok, k0_ok, k1_ok, k2_ok, k3_ok, k4_ok, k5_ok, k6_ok, k7_ok, k8_ok, k9_ok, k10_ok, k11_ok, k12_ok, k13_ok, k14_ok, k15_ok, k16_ok, k17_ok, k18_ok, k19_ok, k20_ok, k21_ok, k22_ok, k23_ok, k24_ok, k25_ok, k26_ok, k27_ok, k28_ok, k29_ok, k30_ok, trivial⟩) tab_ok 200 60 k101.g k101.args k101.h k101.k k101.r k101.h' k101.k' (by kernel_rfl)

end Go.Sx.Ch
