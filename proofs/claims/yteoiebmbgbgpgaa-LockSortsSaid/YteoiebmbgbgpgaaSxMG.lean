/- LockSorts's walk. No conditions. -/
import Derived.Test.YteoiebmbgbgpgaaSxJMFbtoMEx
import Derived.Test.YteoiebmbgbgpgaaSxLW
import Derived.Test.YteoiebmbgbgpgaaSxPLl
set_option linter.unusedVariables false
set_option linter.unusedSimpArgs false
set_option maxRecDepth 4000
namespace Go.Sx.Lk
open Go Go.Sx Go.Proofs
set_option maxHeartbeats 20000000 in
theorem lockSorts_runs (l : List Int) (u : Bool) (i j k : Int) : Runs Try.prog 4 0 [.il (ints l) l.length u, vI i, vI j, vI k] (hpF []) (vB true) 0 (hpF []) := by
  refine P4.rz (ss := [s15, s25, s26, s27, s28, s29, s30, s31, s32]) ⟨s15_ok, s25_ok, s26_ok, s27_ok, s28_ok, s29_ok, s30_ok, s31_ok, s32_ok, trivial⟩ (by simp) fun Q hQ => ?_
  by_cases h60 : 60 < l.length
  · have h60c : (60 : Int) < l.length := by omega
    delta p4 p4_r0 p4_r1 p4_r2 p4_r3 p4_r4 p4_r5 p4_r6 p4_r7 p4_r8 p4_r9
    simp (disch := omega) [oLt, oLe, oLtN, oLeN, nLt, nLe, nLtN, nLeN, h60c]
    exact hQ _ _ (.p (.inl rfl) (by simp) rfl)
  have h60c : ¬ (60 : Int) < l.length := by omega
  have hsm : small l = true := by simp [small]; omega
  by_cases hc : chkF l = 0
  · have hc2 : chk2F l = 0 := (chk2_eq l).trans hc
    obtain ⟨b1, b2, b3⟩ := sorts_facts hc
    obtain ⟨x, hx, -, -⟩ := pss_facts hc
    have hx2 := b3 x hx
    obtain ⟨A, hA⟩ : ∃ A, srtB (psd l) = A := ⟨_, rfl⟩
    have hB : (brF l).isNone = A := by rw [← b1, hA]
    obtain ⟨a, b, c, g, hw⟩ : ∃ a b c g : Int, whyA 0 (brF l) = .tup [vI a, vI b, vI c, vI g] := by
      cases brF l with
      | none => exact ⟨0, 0, 0, 13, rfl⟩
      | some q => obtain ⟨a, b, c⟩ := q; exact ⟨a, b, c, 0, rfl⟩
    have hw1 : whyA 0 (wyF l) = .tup [vI a, vI b, vI c, vI g] := by rw [b2, hw]
    obtain ⟨p, hp⟩ : ∃ p, prF 0 l i j k = p := ⟨_, rfl⟩
    delta p4
    refine XZ_step ?_ (fun N Q_ hN => ?_) ?_
    rotate_left
    · delta p4_r0; simp (disch := omega) [oLt, oLe, oLtN, oLeN, nLt, nLe, nLtN, nLeN]
      exact hN
    refine XZ_step ?_ (fun N Q_ hN => ?_) ?_
    rotate_left
    · delta p4_r1
      simp (disch := omega) [oLt, oLe, oLtN, oLeN, nLt, nLe, nLtN, nLeN, h60c]
      exact hN
    refine XZ_step ?_ (fun N Q_ hN => ?_) ?_
    rotate_left
    · delta p4_r3; simp (disch := omega) [oLt, oLe, oLtN, oLeN, nLt, nLe, nLtN, nLeN, hsm, hc, hA]
      exact hN
    refine XZ_step ?_ (fun N Q_ hN => ?_) ?_
    rotate_left
    · delta p4_r4; simp (disch := omega) [oLt, oLe, oLtN, oLeN, nLt, nLe, nLtN, nLeN, hsm, hc2, hB]
      exact hN
    refine XZ_step ?_ (fun N Q_ hN => ?_) ?_
    rotate_left
    · delta p4_r5; simp (disch := omega) [oLt, oLe, oLtN, oLeN, nLt, nLe, nLtN, nLeN, hsm, hc, hw1]
      exact hN
    refine XZ_step ?_ (fun N Q_ hN => ?_) ?_
    rotate_left
    · delta p4_r6; simp (disch := omega) [oLt, oLe, oLtN, oLeN, nLt, nLe, nLtN, nLeN, hsm, hc2, hw]
      exact hN
    refine XZ_step ?_ (fun N Q_ hN => ?_) ?_
    rotate_left
    · delta p4_r7; simp (disch := omega) [oLt, oLe, oLtN, oLeN, nLt, nLe, nLtN, nLeN, hsm, hc, hx]
      exact hN
    refine XZ_step ?_ (fun N Q_ hN => ?_) ?_
    rotate_left
    · delta p4_r8; simp (disch := omega) [oLt, oLe, oLtN, oLeN, nLt, nLe, nLtN, nLeN, hsm, hc2, hx2]
      exact hN
    refine XZ_regG ?_
    delta p4_r9
    refine zOps_cut 8 ?_ (fun K_ hK => ?_) ?_
    rotate_left
    · simp only [List.take_succ_cons, List.take_zero]
      simp (disch := omega) [oLt, oLe, oLtN, oLeN, nLt, nLe, nLtN, nLeN]
      exact hK
    simp only [List.drop_succ_cons, List.drop_zero]
    refine zOps_cut 7 ?_ (fun K_ hK => ?_) ?_
    rotate_left
    · simp only [List.take_succ_cons, List.take_zero]
      simp (disch := omega) [oLt, oLe, oLtN, oLeN, nLt, nLe, nLtN, nLeN]
      exact hK
    simp only [List.drop_succ_cons, List.drop_zero]
    refine zOps_cut 10 ?_ (fun K_ hK => ?_) ?_
    rotate_left
    · simp only [List.take_succ_cons, List.take_zero]
      simp (disch := omega) [oLt, oLe, oLtN, oLeN, nLt, nLe, nLtN, nLeN]
      exact hK
    simp only [List.drop_succ_cons, List.drop_zero]
    refine zOps_cut 10 ?_ (fun K_ hK => ?_) ?_
    rotate_left
    · simp only [List.take_succ_cons, List.take_zero]
      simp (disch := omega) [oLt, oLe, oLtN, oLeN, nLt, nLe, nLtN, nLeN]
      exact hK
    simp only [List.drop_succ_cons, List.drop_zero]
    refine zOps_cut 5 ?_ (fun K_ hK => ?_) ?_
    rotate_left
    · simp only [List.take_succ_cons, List.take_zero]
      simp (disch := omega) [oLt, oLe, oLtN, oLeN, nLt, nLe, nLtN, nLeN]
      exact hK
    simp only [List.drop_succ_cons, List.drop_zero]
    refine zOps_cut 7 ?_ (fun K_ hK => ?_) ?_
    rotate_left
    · simp only [List.take_succ_cons, List.take_zero]
      simp (disch := omega) [oLt, oLe, oLtN, oLeN, nLt, nLe, nLtN, nLeN, hsm, hc, hp]
      exact hK
    simp only [List.drop_succ_cons, List.drop_zero]
    refine zOps_cut 5 ?_ (fun K_ hK => ?_) ?_
    rotate_left
    · simp only [List.take_succ_cons, List.take_zero]
      simp (disch := omega) [oLt, oLe, oLtN, oLeN, nLt, nLe, nLtN, nLeN, hsm, hc2, hp]
      exact hK
    simp only [List.drop_succ_cons, List.drop_zero]
    simp (disch := omega) [oLt, oLe, oLtN, oLeN, nLt, nLe, nLtN, nLeN]
    exact hQ _ _ (.p (.inl rfl) (by simp) rfl)
  · obtain ⟨e, he⟩ : ∃ e, chkF l = e := ⟨_, rfl⟩
    have he2 : chk2F l = e := (chk2_eq l).trans he
    have hne : ¬ e = 0 := fun h => hc (he.trans h)
    have hw1 : whyA e (wyF l) = .tup [vI 0, vI 0, vI 0, vI e] := by
      cases wyF l with
      | none => simp [whyA, hne]
      | some q => obtain ⟨a, b, c⟩ := q; simp [whyA, hne]
    have hw : whyA e (brF l) = .tup [vI 0, vI 0, vI 0, vI e] := by
      cases brF l with
      | none => simp [whyA, hne]
      | some q => obtain ⟨a, b, c⟩ := q; simp [whyA, hne]
    have hp : prF e l i j k = e := by unfold prF; rw [if_pos hne]
    delta p4
    refine XZ_step ?_ (fun N Q_ hN => ?_) ?_
    rotate_left
    · delta p4_r0; simp (disch := omega) [oLt, oLe, oLtN, oLeN, nLt, nLe, nLtN, nLeN]
      exact hN
    refine XZ_step ?_ (fun N Q_ hN => ?_) ?_
    rotate_left
    · delta p4_r1
      simp (disch := omega) [oLt, oLe, oLtN, oLeN, nLt, nLe, nLtN, nLeN, h60c]
      exact hN
    refine XZ_step ?_ (fun N Q_ hN => ?_) ?_
    rotate_left
    · delta p4_r3; simp (disch := omega) [oLt, oLe, oLtN, oLeN, nLt, nLe, nLtN, nLeN, hsm, he, hne]
      exact hN
    refine XZ_step ?_ (fun N Q_ hN => ?_) ?_
    rotate_left
    · delta p4_r4; simp (disch := omega) [oLt, oLe, oLtN, oLeN, nLt, nLe, nLtN, nLeN, hsm, he2, hne]
      exact hN
    refine XZ_step ?_ (fun N Q_ hN => ?_) ?_
    rotate_left
    · delta p4_r5; simp (disch := omega) [oLt, oLe, oLtN, oLeN, nLt, nLe, nLtN, nLeN, hsm, he, hw1]
      exact hN
    refine XZ_step ?_ (fun N Q_ hN => ?_) ?_
    rotate_left
    · delta p4_r6; simp (disch := omega) [oLt, oLe, oLtN, oLeN, nLt, nLe, nLtN, nLeN, hsm, he2, hw]
      exact hN
    refine XZ_step ?_ (fun N Q_ hN => ?_) ?_
    rotate_left
    · delta p4_r7; simp (disch := omega) [oLt, oLe, oLtN, oLeN, nLt, nLe, nLtN, nLeN, hsm, he, hne]
      exact hN
    refine XZ_step ?_ (fun N Q_ hN => ?_) ?_
    rotate_left
    · delta p4_r8; simp (disch := omega) [oLt, oLe, oLtN, oLeN, nLt, nLe, nLtN, nLeN, hsm, he2, hne]
      exact hN
    refine XZ_regG ?_
    delta p4_r9
    refine zOps_cut 8 ?_ (fun K_ hK => ?_) ?_
    rotate_left
    · simp only [List.take_succ_cons, List.take_zero]
      simp (disch := omega) [oLt, oLe, oLtN, oLeN, nLt, nLe, nLtN, nLeN]
      exact hK
    simp only [List.drop_succ_cons, List.drop_zero]
    refine zOps_cut 7 ?_ (fun K_ hK => ?_) ?_
    rotate_left
    · simp only [List.take_succ_cons, List.take_zero]
      simp (disch := omega) [oLt, oLe, oLtN, oLeN, nLt, nLe, nLtN, nLeN]
      exact hK
    simp only [List.drop_succ_cons, List.drop_zero]
    refine zOps_cut 10 ?_ (fun K_ hK => ?_) ?_
    rotate_left
    · simp only [List.take_succ_cons, List.take_zero]
      simp (disch := omega) [oLt, oLe, oLtN, oLeN, nLt, nLe, nLtN, nLeN]
      exact hK
    simp only [List.drop_succ_cons, List.drop_zero]
    refine zOps_cut 10 ?_ (fun K_ hK => ?_) ?_
    rotate_left
    · simp only [List.take_succ_cons, List.take_zero]
      simp (disch := omega) [oLt, oLe, oLtN, oLeN, nLt, nLe, nLtN, nLeN]
      exact hK
    simp only [List.drop_succ_cons, List.drop_zero]
    refine zOps_cut 5 ?_ (fun K_ hK => ?_) ?_
    rotate_left
    · simp only [List.take_succ_cons, List.take_zero]
      simp (disch := omega) [oLt, oLe, oLtN, oLeN, nLt, nLe, nLtN, nLeN]
      exact hK
    simp only [List.drop_succ_cons, List.drop_zero]
    refine zOps_cut 7 ?_ (fun K_ hK => ?_) ?_
    rotate_left
    · simp only [List.take_succ_cons, List.take_zero]
      simp (disch := omega) [oLt, oLe, oLtN, oLeN, nLt, nLe, nLtN, nLeN, hsm, he, hp]
      exact hK
    simp only [List.drop_succ_cons, List.drop_zero]
    refine zOps_cut 5 ?_ (fun K_ hK => ?_) ?_
    rotate_left
    · simp only [List.take_succ_cons, List.take_zero]
      simp (disch := omega) [oLt, oLe, oLtN, oLeN, nLt, nLe, nLtN, nLeN, hsm, he2, hp]
      exact hK
    simp only [List.drop_succ_cons, List.drop_zero]
    simp (disch := omega) [oLt, oLe, oLtN, oLeN, nLt, nLe, nLtN, nLeN]
    exact hQ _ _ (.p (.inl rfl) (by simp) rfl)
end Go.Sx.Lk
