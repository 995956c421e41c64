/- WalkForever's walk. No conditions. -/
import Derived.Test.YtmakepdccccmaaaSxL7
import Derived.Test.YtmakepdccccmaaaSxJR0toN0
import Derived.Test.YtmakepdccccmaaaSxJPd10toPd75
set_option linter.unusedVariables false
set_option linter.unusedSimpArgs false
namespace Go.Sx.Wk
open Go Go.Sx Go.Proofs

theorem walkForever_runs (s b0 b1 b2 b3 : Int) (hs : 0 ≤ s ∧ s ≤ 255) (hb : ∀ x ∈ [b0, b1, b2, b3], 0 ≤ x ∧ x ≤ 255) : Runs Try.prog 10 0 [.agg [vU s, vU b0, vU b1, vU b2, vU b3]] (hpF []) (vB true) 0 (hpF []) := by
  have hg : g42 s b0 b1 b2 b3 3 6 = true := by
    simp only [g42, Bool.and_eq_true, List.all_eq_true, within_iff]
    exact ⟨⟨fun x hx => by rw [List.mem_cons] at hx; rcases hx with rfl | hx; exact hs; exact hb x hx, by omega⟩, by omega⟩
  obtain ⟨hne, h4, h8⟩ := made_facts hg
  generalize hT : madeL s 3 6 [b0, b1, b2, b3] = T at *
  have h4 : T.length ≤ 4 := by omega
  have hpos := List.length_pos_iff.2 hne
  have h8' : ∀ y ∈ T, 1 ≤ y ∧ y ≤ 8 := fun y hy => by have := h8 y hy; omega
  have hT8 : ok8 T = true := ok8_iff.2 h8'
  have hc0 : chk T = 0 := by
    have h0 : ¬ T.length = 0 := by omega
    have h1 : T.all (within 1 · 8) = true := List.all_eq_true.2 fun y hy => by simpa using h8' y hy
    unfold chk
    rw [if_neg h0, if_neg (by omega), if_pos h1]
  have hst : small T = true := by simp [small]; omega
  have hg78 : g78 T = true := chk_g78 hc0
  have hcb : canB T = decide ((aliveF T).2 < 0) := rfl
  have hcf : canF T = .tup [vB (canB T), vI 0] := by simp [canF, hc0]
  refine P10.rz (ss := [s16, s19, s21, s42, s46]) ⟨s16_ok, s19_ok, s21_ok, s42_ok, s46_ok, trivial⟩ (by simp) fun Q hQ => ?_
  cases hc : canB T with
  | true =>
    have hlf : longF T = .tup [vI 0, vI 13] := by simp [longF, hc0, hc]
    rw [hc] at hcf hcb
    have hlt : (aliveF T).2 < 0 := by simpa using hcb.symm
    delta p10 p10_r0 p10_r1 p10_r2 p10_r3 p10_r4 p10_r5 p10_r6 p10_r7 p10_r8 p10_r9
    simp (disch := omega) [oLt, oLe, oLtN, oLeN, nLt, nLe, nLtN, nLeN, f42, hg, hT, hst, hg78, hpos, hne, hcf, hlf, hlt]
    exact hQ _ _ (.p (.inl rfl) (by simp) rfl)
  | false =>
    have hlf : longF T = .tup [vI (aliveF T).2, vI 0] := by simp [longF, hc0, hc]
    rw [hc] at hcf hcb
    have hlt : ¬ (aliveF T).2 < 0 := by simpa using hcb.symm
    delta p10 p10_r0 p10_r1 p10_r2 p10_r3 p10_r4 p10_r5 p10_r6 p10_r7 p10_r8 p10_r9
    simp (disch := omega) [oLt, oLe, oLtN, oLeN, nLt, nLe, nLtN, nLeN, f42, hg, hT, hst, hg78, hpos, hne, hcf, hlf, hlt]
    exact hQ _ _ (.p (.inl rfl) (by simp) rfl)
end Go.Sx.Wk
