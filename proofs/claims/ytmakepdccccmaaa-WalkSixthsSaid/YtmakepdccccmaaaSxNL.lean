/- What the loop of the specification is. No conditions. -/
import Derived.Test.YtmakepdccccmaaaSxJNPtoL1
set_option linter.unusedVariables false
set_option linter.unusedSimpArgs false
namespace Go.Sx.Wk
open Go Go.Sx Go.Proofs

def loopV (t : List Int) : AV := if chk t = 0 then (if canB t = true then (match lpB t 5000 [] [] t with
  | some (a, b) => .tup [.il (ints a) a.length false, .il (ints b) b.length false, vI 0]
  | none => .tup [.il [] 0 false, .il [] 0 false, vI 12]) else .tup [.il [] 0 false, .il [] 0 false, vI 12]) else .tup [.il [] 0 false, .il [] 0 false, vI (chk t)]
@[simp] theorem ints_take' (l : List Int) (n : Nat) : (ints l).take n = ints (l.take n) := by simp [ints, List.map_take]
@[simp] theorem ints_drop' (l : List Int) (n : Nat) : (ints l).drop n = ints (l.drop n) := by simp [ints, List.map_drop]
end Go.Sx.Wk
