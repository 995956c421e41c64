/- What functions of the library return: slices.Clone of a list. No conditions. -/
import Derived.Test.YtfiebjbhiflfpaaDoorSxJJAtoJC
set_option linter.unusedVariables false
set_option linter.unusedSimpArgs false
set_option maxRecDepth 4000
namespace Go.Sx.Ch
open Go Go.Sx Go.Proofs

/-- A copy of a list that isn't empty: a new block. -/
def f50 : List AV → HL → Nat → Option (AV × HL × Nat) := fun args h k => match args, h, k with
  | [.il (x :: cs) n u], [], 0 => match unints (x :: cs) with
    | some l => if n = l.length ∧ small l = true then some (.ref 0 0 l.length 1 none, [(0, .cells (ints l))], 1) else none
    | none => none
  | _, _, _ => none
def s50 : Sp := ⟨50, f50⟩
@[simp] theorem s50_g : s50.g = 50 := rfl
@[simp] theorem s50_f : s50.f = f50 := rfl
theorem f50_at {l : List Int} {u : Bool} (h0 : l ≠ []) (hs : small l = true) : f50 [.il (ints l) l.length u] [] 0 = some (.ref 0 0 l.length 1 none, [(0, .cells (ints l))], 1) := by
  rcases l with _ | ⟨a, l⟩
  · exact absurd rfl h0
  · have hu : unints (vI a :: ints l) = some (a :: l) := by rw [← ints_cons]; simp
    simp only [ints_cons, f50, hu]
    rw [if_pos ⟨by simp, hs⟩]
set_option maxHeartbeats 2000000 in
theorem s50_ok : s50.ok Tryd.prog := by
  intro args h k r h' k' hh
  simp only [s50_f, f50] at hh
  split at hh
  · rename_i x cs n u
    split at hh
    · rename_i l hl
      split at hh
      · rename_i hc
        obtain ⟨hn, hsl⟩ := hc
        cases hh
        have e := unints_inv hl
        rw [e, hn]
        simp only [hp_eq]
        rcases l with _ | ⟨l0, lr⟩
        · simp at e
        have hlr : lr.length + 1 ≤ 1000000 := by simpa [small] using hsl
        refine P50.rz (ss := []) trivial (by simp) fun Q hQ => ?_
        delta p50 p50_r0 p50_r1 p50_r2 p50_r3
        simp (disch := omega) [oLt, oLe, oLtN, oLeN, nLt, nLe, nLtN, nLeN, effEqn, Go.Sx.nilA, fits, nilOf]
        exact hQ _ _ (EndsP_at [5] (.inl rfl) (by simp) rfl (by simp) rfl (by simp))
      · cases hh
    · cases hh
  · cases hh
end Go.Sx.Ch
