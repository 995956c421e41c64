/- What functions of the walk layer return: whether walks go on for ever. No conditions. -/
import Derived.Test.YtmakepdccccmaaaSxQ7
set_option linter.unusedVariables false
set_option linter.unusedSimpArgs false
namespace Go.Sx.Wk
open Go Go.Sx Go.Proofs

def canB (t : List Int) : Bool := decide ((aliveF t).2 < 0)
def s56 : Sp := spT 56 [.l] fun (t : List Int) => res (g78 t) (vB (canB t))
@[simp] theorem s56_g : s56.g = 56 := rfl
@[simp] theorem s56_f : s56.f = (spT 56 [.l] fun (t : List Int) => res (g78 t) (vB (canB t))).f := rfl
theorem s56_ok : s56.ok Try.prog := by
  apply spT_ok
  simp only [OkT, Ty.all, List.nil_append, List.cons_append]
  intro (t : List Int) ut
  apply okT_res; intro hg
  refine P56.rz (ss := [s57]) ⟨s57_ok, trivial⟩ (by simp) fun Q hQ => ?_
  delta p56 p56_r0 p56_r1 p56_r2
  simp (disch := omega) [oLt, oLe, oLtN, oLeN, nLt, nLe, nLtN, nLeN, hg, avAlive]
  exact hQ _ _ (.p (.inl rfl) (by simp [canB]) rfl)

def canF (t : List Int) : AV := if chk t = 0 then .tup [vB (canB t), vI 0] else .tup [vB false, vI (chk t)]
theorem chk_g78 {t : List Int} (h : chk t = 0) : g78 t = true := by
  obtain ⟨_, h4, h8⟩ := chk_ok h
  simp only [g78, Bool.and_eq_true, decide_eq_true_eq]
  exact ⟨ok8_iff.2 h8, h4⟩
def s20 : Sp := spT 20 [.l] fun (t : List Int) => res (small t) (canF t)
@[simp] theorem s20_g : s20.g = 20 := rfl
@[simp] theorem s20_f : s20.f = (spT 20 [.l] fun (t : List Int) => res (small t) (canF t)).f := rfl
theorem s20_ok : s20.ok Try.prog := by
  apply spT_ok
  simp only [OkT, Ty.all, List.nil_append, List.cons_append]
  intro (t : List Int) ut
  apply okT_res; intro hg
  refine P20.rz (ss := [s24, s56]) ⟨s24_ok, s56_ok, trivial⟩ (by simp) fun Q hQ => ?_
  delta p20 p20_r0 p20_r1 p20_r2 p20_r3 p20_r4
  by_cases h0 : chk t = 0
  · have h1 := chk_g78 h0
    simp (disch := omega) [oLt, oLe, oLtN, oLeN, nLt, nLe, nLtN, nLeN, hg, h0, h1]
    exact hQ _ _ (.p (.inl rfl) (by simp [canF, h0]) (by simp [canF, h0]))
  · simp (disch := omega) [oLt, oLe, oLtN, oLeN, nLt, nLe, nLtN, nLeN, hg, h0]
    exact hQ _ _ (.p (.inl rfl) (by simp [canF, h0]) (by simp [canF, h0]))

def longF (t : List Int) : AV := if chk t = 0 then (if canB t = true then .tup [vI 0, vI 13] else .tup [vI (aliveF t).2, vI 0]) else .tup [vI 0, vI (chk t)]
def s22 : Sp := spT 22 [.l] fun (t : List Int) => res (small t) (longF t)
@[simp] theorem s22_g : s22.g = 22 := rfl
@[simp] theorem s22_f : s22.f = (spT 22 [.l] fun (t : List Int) => res (small t) (longF t)).f := rfl
theorem s22_ok : s22.ok Try.prog := by
  apply spT_ok
  simp only [OkT, Ty.all, List.nil_append, List.cons_append]
  intro (t : List Int) ut
  apply okT_res; intro hg
  refine P22.rz (ss := [s24, s57]) ⟨s24_ok, s57_ok, trivial⟩ (by simp) fun Q hQ => ?_
  delta p22 p22_r0 p22_r1 p22_r2 p22_r3 p22_r4 p22_r5 p22_r6 p22_r7
  by_cases h0 : chk t = 0
  · have h1 := chk_g78 h0
    by_cases h2 : (aliveF t).2 < 0
    · simp (disch := omega) [oLt, oLe, oLtN, oLeN, nLt, nLe, nLtN, nLeN, hg, h0, h1, h2, avAlive]
      exact hQ _ _ (.p (.inl rfl) (by simp [longF, h0, canB, h2]) (by simp [longF, h0, canB, h2]))
    · simp (disch := omega) [oLt, oLe, oLtN, oLeN, nLt, nLe, nLtN, nLeN, hg, h0, h1, h2, avAlive]
      exact hQ _ _ (.p (.inl rfl) (by simp [longF, h0, canB, h2]) (by simp [longF, h0, canB, h2]))
  · simp (disch := omega) [oLt, oLe, oLtN, oLeN, nLt, nLe, nLtN, nLeN, hg, h0]
    exact hQ _ _ (.p (.inl rfl) (by simp [longF, h0]) (by simp [longF, h0]))
end Go.Sx.Wk
