/- What functions of the chart layer return: Clip; the search for a ring. No conditions. -/
import Derived.Test.YtfiebjbhiflfpaaDoorSxJKAtoDV0
import Derived.Test.YtfiebjbhiflfpaaDoorSxDT
import Derived.Test.YtfiebjbhiflfpaaDoorSxJSttoSd
set_option linter.unusedVariables false
set_option linter.unusedSimpArgs false
set_option maxRecDepth 4000
namespace Go.Sx.Ch
open Go Go.Sx Go.Proofs
section
set_option maxHeartbeats 4000000
theorem l6 : ∀ x, x < 6 → ([0, 1, 2, 3, 4, 5] : List Nat)[x]? = some x := by decide
end
section
attribute [simp] evCall reach idsB idsL ids inA Go.Sx.inL Go.Sx.inM inB allHp enumH gl renB
@[simp] theorem idsL_app : ∀ a b : List AV, idsL (a ++ b) = idsL a ++ idsL b
  | [], b => rfl
  | x :: a, b => by cases x <;> simp [idsL, idsL_app a b]
@[simp] theorem inL_app (p : Nat → Bool) : ∀ a b : List AV, Go.Sx.inL p (a ++ b) = (Go.Sx.inL p a && Go.Sx.inL p b)
  | [], b => by simp
  | x :: a, b => by rw [List.cons_append, Go.Sx.inL, Go.Sx.inL, inL_app p a b, Bool.and_assoc]
@[simp] theorem idsL_ints : ∀ l : List Int, idsL (ints l) = []
  | [] => rfl
  | x :: l => by rw [ints_cons, idsL, idsL_ints l]
@[simp] theorem inL_ints (p : Nat → Bool) : ∀ l : List Int, Go.Sx.inL p (ints l) = true
  | [] => rfl
  | x :: l => by rw [ints_cons, Go.Sx.inL, inL_ints p l]; rfl
set_option maxHeartbeats 1000000
end
section
theorem r5 : List.range 5 = [0, 1, 2, 3, 4] := rfl
set_option maxHeartbeats 1000000
end
section
def JR (L : List (List Int)) (p q : Nat) : Bool := joinR L p q
def loopR (L : List (List Int)) : Bool := (List.range L.length).any fun p => joinR L p p
set_option maxHeartbeats 2000000
end
end Go.Sx.Ch
