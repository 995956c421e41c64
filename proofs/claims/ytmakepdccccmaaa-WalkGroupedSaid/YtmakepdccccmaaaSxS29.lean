/- What functions of the walk layer return: same. No conditions. -/
import Derived.Test.YtmakepdccccmaaaSxJQBtoQD
set_option linter.unusedVariables false
set_option linter.unusedSimpArgs false
namespace Go.Sx.Wk
open Go Go.Sx Go.Proofs

def s29 : Sp := spT 29 [.l, .l] fun (a b : List Int) => res (small a && small b) (vB (decide (a = b)))
@[simp] theorem s29_g : s29.g = 29 := rfl
@[simp] theorem s29_f : s29.f = (spT 29 [.l, .l] fun (a b : List Int) => res (small a && small b) (vB (decide (a = b)))).f := rfl
theorem s29_ok : s29.ok Try.prog := by
  apply spT_ok
  simp only [OkT, Ty.all, List.nil_append, List.cons_append]
  intro (a : List Int) ua (b : List Int) ub
  apply okT_res; intro hs
  refine P29.rz (ss := []) trivial (by simp) fun Q hQ => ?_
  delta p29 p29_r0 p29_r1 p29_r2 p29_r3
  simp only [Bool.and_eq_true] at hs
  obtain ⟨hsa, hsb⟩ := hs
  have hla : a.length ≤ 1000000 := by simpa [small] using hsa
  have hlb : b.length ≤ 1000000 := by simpa [small] using hsb
  by_cases hl : a.length = b.length
  case neg =>
    have hne : ¬ a = b := fun e => hl (by rw [e])
    have hlc : ¬ (a.length : Int) = b.length := by omega
    simp (disch := omega) [oLt, oLe, oLtN, oLeN, nLt, nLe, nLtN, nLeN, hlc]
    exact hQ _ _ (.p (.inl rfl) (by simp [hne]) rfl)
  simp (disch := omega) [oLt, oLe, oLtN, oLeN, nLt, nLe, nLtN, nLeN, hl]
  refine XZ_for (fun i : Nat => ⟨[(0, .il (ints a) a.length ua), (1, .il (ints b) b.length ub), (5, vI i)], [], 0⟩) (fun i => a.length - i) (fun i => i ≤ a.length ∧ (a.drop i = b.drop i ↔ a = b)) 0 (by simp) (.to [] (by simp [hl])) ?_
  rintro i ⟨hi, hb⟩ N Q' hN hE
  rcases Nat.lt_or_ge i a.length with h | h
  · obtain ⟨x, r, d1, d2, d3, d4, d5⟩ := drop_split h
    have h' : i < b.length := by omega
    obtain ⟨y, r', e1, e2, e3, e4, e5⟩ := drop_split h'
    rw [d1, e1] at hb
    by_cases hx : x = y
    · subst hx
      delta p29_l0 p29_r4 p29_r5 p29_r6 p29_r7
      simp (disch := omega) [oLt, oLe, oLtN, oLeN, nLt, nLe, nLtN, nLeN, h, h', d2, d3, e2, e3]
      refine hN _ (i + 1) (by omega) ⟨h, ?_⟩ (.to [] (by simp))
      rw [d4, e4, ← hb]; simp
    · have hne : ¬ a = b := fun e => by
        have := hb.2 e
        simp only [List.cons.injEq] at this
        exact hx this.1
      delta p29_l0 p29_r4 p29_r5 p29_r6 p29_r7
      simp (disch := omega) [oLt, oLe, oLtN, oLeN, nLt, nLe, nLtN, nLeN, h, h', d2, d3, e2, e3, hx]
      exact hE _ _ _ .refl (hQ _ _ (.p (.inl rfl) (by simp [hne]) rfl))
  · have h' : ¬ i < a.length := by omega
    have heq : a = b := hb.1 (by rw [List.drop_eq_nil_of_le h, List.drop_eq_nil_of_le (by omega)])
    delta p29_l0 p29_r4 p29_r5 p29_r6 p29_r7
    simp (disch := omega) [oLt, oLe, oLtN, oLeN, nLt, nLe, nLtN, nLeN, h']
    refine hE _ _ _ .refl ?_
    delta p29_r8
    simp (disch := omega) [oLt, oLe, oLtN, oLeN, nLt, nLe, nLtN, nLeN]
    exact hQ _ _ (.p (.inl rfl) (by simp [heq]) rfl)
end Go.Sx.Wk
