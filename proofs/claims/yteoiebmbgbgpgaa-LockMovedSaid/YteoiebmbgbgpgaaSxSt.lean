/- A part of the code, and the state behind it. No conditions. -/
import Derived.Test.YteoiebmbgbgpgaaSxU
set_option linter.unusedVariables false
set_option linter.unusedSimpArgs false
namespace Go.Sx
theorem XZ_step {R : Rsv} {k0 : Nat} {a b : PCode} {s : ST} {Q : Exit → ST → Prop} (s1 : ST) (h1 : ∀ (N : ST → Prop) (Q' : Exit → ST → Prop), N s1 → XZ R k0 a s (thenE N Q')) (h2 : XZ R k0 b s1 Q) : XZ R k0 (.seq a b) s Q := h1 _ _ h2
end Go.Sx
