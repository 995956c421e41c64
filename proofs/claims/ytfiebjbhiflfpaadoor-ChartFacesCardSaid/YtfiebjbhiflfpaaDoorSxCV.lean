/- What functions of the chart layer's document return: faces. No conditions. -/
import Derived.Test.YtfiebjbhiflfpaaDoorSxCU
set_option linter.unusedVariables false
set_option linter.unusedSimpArgs false
set_option maxRecDepth 4000
namespace Go.Sx.Ch
open Go Go.Sx Go.Proofs

def st65 (L : List (List Int)) (u : Bool) (k : Nat) (met : List Int) (out : List (List Int)) : ST :=
  ⟨[(1, .ptr 0 0), (3, fA 1 out), (4, gA (1 + fN out) met), (5, vI k)], (0, .cells [.il (lls L) L.length u]) :: (fH 1 out ++ gH (1 + fN out) met), 1 + fN out + gN met⟩
def faceR (L : List (List Int)) : List (List Int) := (facN (facR L) (total L)).2
set_option maxHeartbeats 1000000
def s65 : Sp := spT 65 [.mp] fun (L : List (List Int)) => res (g65 L) (.il (lls (faceR L)) (faceR L).length false)
@[simp] theorem s65_g : s65.g = 65 := rfl
@[simp] theorem s65_f : s65.f = (spT 65 [.mp] fun (L : List (List Int)) => res (g65 L) (.il (lls (faceR L)) (faceR L).length false)).f := rfl
theorem s65_ok : s65.ok Tryd.prog := by
  apply spT_ok
  simp only [OkT, Ty.all, List.nil_append, List.cons_append]
  intro (L : List (List Int)) u
  apply okT_res; intro hg
  refine P65.rz (ss := [s66, s86, s97, s98]) ⟨s66_ok, s86_ok, s97_ok, s98_ok, trivial⟩ (by simp) fun Q hQ => ?_
  delta p65 p65_r0 p65_r1 p65_r2 p65_r3
  simp only [g65, Bool.and_eq_true, List.all_eq_true, List.mem_range, decide_eq_true_eq] at hg
  obtain ⟨hs, hok, hp⟩ := hg
  obtain ⟨h16, hσ⟩ := okS_iff.1 hok
  have hout : faceR L = (facN (facR L) (total L)).2 := rfl
  rw [hout] at hQ
  generalize hn : total L = n at *
  simp (disch := omega) [oLt, oLe, oLtN, oLeN, nLt, nLe, nLtN, nLeN]
  refine XZ_for (fun k : Nat => st65 L u k (facN (facR L) k).1 (facN (facR L) k).2) (fun k => n - k) (fun k => k ≤ n) 0 (by simp) (.tot [1] (by simp [st65, facN, fA, fH, fN, gA, gH, gN])) ?_
  intro k hk N Q' hN hE
  obtain ⟨hml, hol, hmo⟩ : (facN (facR L) k).1.length ≤ 16 * k ∧ (facN (facR L) k).2.length ≤ k ∧ ((facN (facR L) k).1 = [] ↔ (facN (facR L) k).2 = []) := by
    rcases facN_len (facR L) k with h | ⟨j, hj, h⟩
    · exact h
    · obtain ⟨-, l, hl⟩ := hσ j (by omega)
      rw [h] at hl; cases hl
  rcases Nat.lt_or_ge k n with h | h
  · have hkc : (k : Int) < n := by omega
    obtain ⟨hb, F, hF⟩ := hσ k h
    obtain ⟨p1, p2⟩ := hp k h
    have hw : within 0 (k : Int) 1000 = true := within_iff.2 ⟨by omega, by omega⟩
    have hnext := facN_succ (facR L) k
    unfold facS at hnext
    rw [hF, Option.getD_some] at hnext
    generalize hM : (facN (facR L) k).1 = met at *
    generalize hO : (facN (facR L) k).2 = out at *
    have hsm : small met = true := by simp only [small, decide_eq_true_eq]; omega
    have him : 0 ≤ idxL met k ↔ (k : Int) ∈ met := idxL_mem
    obtain ⟨v, hve⟩ : ∃ v, facR L k = v := ⟨_, rfl⟩
    have hve2 : afterR L (otherI k) = v := hve
    by_cases hmem : (k : Int) ∈ met
    · rw [if_pos hmem] at hnext
      have hi := him.2 hmem
      have fin : ∀ s', ChgT 0 s' (st65 L u ((k + 1 : Nat)) met out) → N s' := fun s' hh => hN s' (k + 1) (by omega) h (by rw [hnext, hM, hO]; exact hh)
      rcases out with _ | ⟨o, orr⟩
      · obtain rfl : met = [] := hmo.2 rfl
        cases hmem
      · rcases met with _ | ⟨m0, mr⟩
        · cases hmem
        · simp only [st65, fA, fH, fN, gA, gH, gN] at fin ⊢
          delta p65_l1 p65_r4 p65_r5 p65_r6 p65_r7
          simp (disch := omega) [oLt, oLe, oLtN, oLeN, nLt, nLe, nLtN, nLeN, hkc, hn, hs, hsm, hi]
          delta p65_r11 p65_r12 p65_r13
          simp (disch := omega) [oLt, oLe, oLtN, oLeN, nLt, nLe, nLtN, nLeN]
          exact fin _ (.tot [1, 3, 4] (by simp))
    · rw [if_neg hmem] at hnext
      have hi : ¬ 0 ≤ idxL met k := fun h => hmem (him.1 h)
      have fin : ∀ s', ChgT 0 s' (st65 L u ((k + 1 : Nat)) (met ++ F) (out ++ [F])) → N s' := fun s' hh => hN s' (k + 1) (by omega) h (by rw [hnext]; exact hh)
      obtain ⟨f0, fr, rfl⟩ := List.exists_cons_of_ne_nil (orb_len hF).2
      have hFl := (orb_len hF).1
      simp only [List.length_cons] at hFl
      rcases out with _ | ⟨o, orr⟩
      · obtain rfl : met = [] := hmo.2 rfl
        simp only [st65, fA, fH, fN, gA, gH, gN] at fin ⊢
        delta p65_l1 p65_r4 p65_r5 p65_r6 p65_r7
        simp (disch := omega) [oLt, oLe, oLtN, oLeN, nLt, nLe, nLtN, nLeN, hkc, hn, hs, hsm, hi, hw, p1, p2, hve2]
        refine in65_ok (u := u) (out := []) (met := []) hs h16 (fun k hk => (hσ k hk).1) hp h hmo hF (.tot [1, 6] (by simp [in65, fA, fH, fN, gA, gH, gN, hve])) ?_
        simp only [inBE, thenE, if_true, ex65, fA, fH, fN, gA, gH, gN]
        delta p65_r11 p65_r12 p65_r13
        simp (disch := omega) [oLt, oLe, oLtN, oLeN, nLt, nLe, nLtN, nLeN]
        exact fin _ (.tot [1, 3, 4] (by simp))
      · rcases met with _ | ⟨m0, mr⟩
        · exact absurd (hmo.1 rfl) (by simp)
        · simp only [st65, fA, fH, fN, gA, gH, gN] at fin ⊢
          delta p65_l1 p65_r4 p65_r5 p65_r6 p65_r7
          simp (disch := omega) [oLt, oLe, oLtN, oLeN, nLt, nLe, nLtN, nLeN, hkc, hn, hs, hsm, hi, hw, p1, p2, hve2]
          refine in65_ok (u := u) (out := o :: orr) (met := m0 :: mr) hs h16 (fun k hk => (hσ k hk).1) hp h hmo hF (.tot [1, 3, 4, 6] (by simp [in65, fA, fH, fN, gA, gH, gN, hve])) ?_
          simp only [inBE, thenE, if_true, ex65, fA, fH, fN, gA, gH, gN]
          simp only [List.length_cons] at hml hol
          delta p65_r11 p65_r12 p65_r13
          simp (disch := omega) [oLt, oLe, oLtN, oLeN, nLt, nLe, nLtN, nLeN]
          exact fin _ (.tot [1, 3, 4] (by simp; omega))
  · obtain rfl : k = n := by omega
    have hkc : ¬ (k : Int) < k := by omega
    generalize (facN (facR L) k).1 = met at *
    generalize (facN (facR L) k).2 = out at *
    rcases out with _ | ⟨o, orr⟩
    · obtain rfl : met = [] := hmo.2 rfl
      simp only [st65, fA, fH, fN, gA, gH, gN]
      delta p65_l1 p65_r4 p65_r5 p65_r6 p65_r7
      simp (disch := omega) [oLt, oLe, oLtN, oLeN, nLt, nLe, nLtN, nLeN, hs, hn, hkc]
      refine hE _ _ _ .refl ?_
      delta p65_r14
      simp (disch := omega) [oLt, oLe, oLtN, oLeN, nLt, nLe, nLtN, nLeN]
      exact hQ _ _ (.fz [2] _ (.inl rfl) (by simp; rfl) (by simp) (by simp))
    · rcases met with _ | ⟨m0, mr⟩
      · exact absurd (hmo.1 rfl) (by simp)
      · simp only [st65, fA, fH, fN, gA, gH, gN]
        delta p65_l1 p65_r4 p65_r5 p65_r6 p65_r7
        simp (disch := omega) [oLt, oLe, oLtN, oLeN, nLt, nLe, nLtN, nLeN, hs, hn, hkc]
        refine hE _ _ _ .refl ?_
        delta p65_r14
        simp (disch := omega) [oLt, oLe, oLtN, oLeN, nLt, nLe, nLtN, nLeN]
        exact hQ _ _ (.fz [2] _ (.inl rfl) (by simp; rfl) (by simp) (by simp))
end Go.Sx.Ch
