/- What functions of the library return: slices.Index, slices.Contains of a number in a list. No conditions. -/
import Derived.Test.YtfiebjbhiflfpaaDoorSxJJAtoKI
import Derived.Test.YtfiebjbhiflfpaaDoorSxJHPtoDZ
import Derived.Test.YtfiebjbhiflfpaaDoorSxDT
import Derived.Test.YtfiebjbhiflfpaaDoorSxDF0
import Derived.Test.YtfiebjbhiflfpaaDoorSxPCe
set_option linter.unusedVariables false
set_option linter.unusedSimpArgs false
set_option maxRecDepth 4000
namespace Go.Sx.Ch
open Go Go.Sx Go.Proofs
set_option maxHeartbeats 2000000
def s91 : Sp := spT 91 [.l, .i] fun (l : List Int) (x : Int) => res (small l) (vI (idxL l x))
@[simp] theorem s91_g : s91.g = 91 := rfl
@[simp] theorem s91_f : s91.f = (spT 91 [.l, .i] fun (l : List Int) (x : Int) => res (small l) (vI (idxL l x))).f := rfl
theorem s91_ok : s91.ok Tryd.prog := by
  apply spT_ok
  simp only [OkT, Ty.all, List.nil_append, List.cons_append]
  intro (l : List Int) u (x : Int)
  apply okT_res; intro hg
  refine P91.rz (ss := []) trivial (by simp) fun Q hQ => ?_
  delta p91 p91_r0 p91_r1
  simp only [small, decide_eq_true_eq] at hg
  simp (disch := omega) [oLt, oLe, oLtN, oLeN, nLt, nLe, nLtN, nLeN]
  refine XZ_for (fun i : Nat => ⟨[(0, .il (ints l) l.length u), (1, vI x), (7, vI l.length), (8, vI i)], [], 0⟩) (fun i => l.length - i) (fun i => i ≤ l.length ∧ idxR x (l.drop i) i = idxL l x) 0 ⟨by simp, by simp [idxL]⟩ (.to [] (by simp)) ?_
  rintro i ⟨hi, hinv⟩ N Q' hN hE
  rcases Nat.lt_or_ge i l.length with h | h
  · have hic : (i : Int) < l.length := by omega
    obtain ⟨y, r, e1, e2, e3, e4, e5⟩ := drop_split h
    rw [e1] at hinv
    simp only [idxR] at hinv
    by_cases hy : y = x
    · rw [if_pos hy] at hinv
      rw [← hinv] at hQ
      subst hy
      delta p91_l0 p91_r2 p91_r3 p91_r4 p91_r5 p91_r6
      simp (disch := omega) [oLt, oLe, oLtN, oLeN, nLt, nLe, nLtN, nLeN, hic, h, e2, e3]
      exact hE _ _ _ .refl (hQ _ _ (.p (.inl rfl) (by simp) rfl))
    · rw [if_neg hy] at hinv
      have hy' : ¬ x = y := fun h => hy h.symm
      delta p91_l0 p91_r2 p91_r3 p91_r4 p91_r5 p91_r6
      simp (disch := omega) [oLt, oLe, oLtN, oLeN, nLt, nLe, nLtN, nLeN, hic, h, e2, e3, hy, hy']
      exact hN _ (i + 1) (by omega) ⟨h, by rw [e4]; simpa using hinv⟩ (.to [] (by simp))
  · obtain rfl : i = l.length := by omega
    have hic : ¬ (l.length : Int) < l.length := by omega
    rw [List.drop_eq_nil_of_le (Nat.le_refl _)] at hinv
    simp only [idxR] at hinv
    rw [← hinv] at hQ
    delta p91_l0 p91_r2 p91_r3 p91_r4 p91_r5 p91_r6
    simp (disch := omega) [oLt, oLe, oLtN, oLeN, nLt, nLe, nLtN, nLeN, hic]
    refine hE _ _ _ .refl ?_
    delta p91_r7
    simp (disch := omega) [oLt, oLe, oLtN, oLeN, nLt, nLe, nLtN, nLeN]
    exact hQ _ _ (.p (.inl rfl) (by simp) rfl)
end Go.Sx.Ch
