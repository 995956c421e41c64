/- ChartFaces: the law returns true. No conditions. -/
import Derived.Test.YtfiebjbhiflfpaaDoorSxJHLtoHM
import Derived.Test.YtfiebjbhiflfpaaDoorSxJSttoSd
set_option linter.unusedVariables false
set_option linter.unusedSimpArgs false
set_option maxRecDepth 4000
namespace Go.Sx.Ch
open Go Go.Sx Go.Proofs

set_option maxHeartbeats 4000000
theorem faces_runs (L : List (List Int)) (u : Bool) :
    Runs Tryd.prog 7 0 [.agg [.il (lls L) L.length u]] (hpF []) (vB true) 0 (hpF []) := by
  refine P7.rz (ss := [s15, s16, s23, s33, s37, s40, s42, s43, s44, s45, s46, s47, s48]) ⟨s15_ok, s16_ok, s23_ok, s33_ok, s37_ok, s40_ok, s42_ok, s43_ok, s44_ok, s45_ok, s46_ok, s47_ok, s48_ok, trivial⟩ (by simp) fun Q hQ => ?_
  delta p7
  by_cases hl : largeF L = true
  · skip
    refine XZ_step ?_ (fun N Q_ hN => ?_) ?_
    rotate_left
    · delta p7_r0; simp (disch := omega) [oLt, oLe, oLtN, oLeN, nLt, nLe, nLtN, nLeN]
      exact hN
    delta p7_r1 p7_r2
    simp (disch := omega) [oLt, oLe, oLtN, oLeN, nLt, nLe, nLtN, nLeN, hl]
    exact hQ _ _ (.p (.inl rfl) (by simp) rfl)
  have hl0 : largeF L = false := by simpa using hl
  have hs := large_sm hl0
  have h33 := g33_ok hs
  by_cases hc : chk L = 0
  · have hcv := chk_cov hc
    have hT : tidyF L (total L) = tidL L := by unfold tidL cyc; rw [if_pos hc]; exact (tidy_cyc hcv _ (Nat.le_refl _)).1
    have s1 : (decide ((tidL L).length ≤ 10000) && (tidL L).all small) = true := by unfold tidL; rw [if_pos hc]; exact (cyc_small hcv.prm hcv.le).2
    have s2 := face_small (L := L)
    have d1 : tidV L = .tup [.agg [.il (lls (tidL L)) (tidL L).length false], vI 0] := by unfold tidV mpB; rw [hc, if_pos rfl]
    have d2 : tidR L = .tup [.agg [.il (lls (tidL L)) (tidL L).length false], vI 0] := by unfold tidR mpB; rw [hc, if_pos rfl, hT]
    have f1 : facV L = .tup [.il (lls (faceL L)) (faceL L).length false, vI 0] := by unfold facV; rw [hc]
    have f2 : facW L = .tup [.il (lls (faceL L)) (faceL L).length false, vI 0] := by unfold facW; rw [hc, if_pos rfl]
    generalize tidL L = T at *
    generalize faceL L = F at *
    generalize partV L = pv at *
    generalize genV L = gv at *
    refine XZ_step ?_ (fun N Q_ hN => ?_) ?_
    rotate_left
    · delta p7_r0; simp (disch := omega) [oLt, oLe, oLtN, oLeN, nLt, nLe, nLtN, nLeN]
      exact hN
    refine XZ_step ?_ (fun N Q_ hN => ?_) ?_
    rotate_left
    · delta p7_r1 p7_r2; simp (disch := omega) [oLt, oLe, oLtN, oLeN, nLt, nLe, nLtN, nLeN, hl0]
      exact hN
    refine XZ_step ?_ (fun N Q_ hN => ?_) ?_
    rotate_left
    · delta p7_r3; simp (disch := omega) [oLt, oLe, oLtN, oLeN, nLt, nLe, nLtN, nLeN]
      exact hN
    refine XZ_step ?_ (fun N Q_ hN => ?_) ?_
    rotate_left
    · delta p7_r4; simp (disch := omega) [oLt, oLe, oLtN, oLeN, nLt, nLe, nLtN, nLeN, hs, d1]
      exact hN
    refine XZ_step ?_ (fun N Q_ hN => ?_) ?_
    rotate_left
    · delta p7_r5; simp (disch := omega) [oLt, oLe, oLtN, oLeN, nLt, nLe, nLtN, nLeN, hs, d2]
      exact hN
    refine XZ_step ?_ (fun N Q_ hN => ?_) ?_
    rotate_left
    · delta p7_r6; simp (disch := omega) [oLt, oLe, oLtN, oLeN, nLt, nLe, nLtN, nLeN, h33, f1]
      exact hN
    refine XZ_step ?_ (fun N Q_ hN => ?_) ?_
    rotate_left
    · delta p7_r7; simp (disch := omega) [oLt, oLe, oLtN, oLeN, nLt, nLe, nLtN, nLeN, hs, f2]
      exact hN
    refine XZ_step ?_ (fun N Q_ hN => ?_) ?_
    rotate_left
    · refine XZ_seqG (XZ_drawG ?_)
      delta p7_r8
      refine zD_cut 5 ?_ ?_ (fun K_ hK => ?_) ?_
      rotate_left 2
      · simp only [List.take_succ_cons, List.take_zero]
        simp (disch := omega) [oLt, oLe, oLtN, oLeN, nLt, nLe, nLtN, nLeN, hs, s1, s2, hc]
        exact hK
      simp only [List.drop_succ_cons, List.drop_zero]
      refine zD_cut 6 ?_ ?_ (fun K_ hK => ?_) ?_
      rotate_left 2
      · simp only [List.take_succ_cons, List.take_zero]
        simp (disch := omega) [oLt, oLe, oLtN, oLeN, nLt, nLe, nLtN, nLeN, hs, s1, s2, hc]
        exact hK
      simp only [List.drop_succ_cons, List.drop_zero]
      refine zD_cut 6 ?_ ?_ (fun K_ hK => ?_) ?_
      rotate_left 2
      · simp only [List.take_succ_cons, List.take_zero]
        simp (disch := omega) [oLt, oLe, oLtN, oLeN, nLt, nLe, nLtN, nLeN, hs, s1, s2, hc]
        exact hK
      simp only [List.drop_succ_cons, List.drop_zero]
      refine zD_cut 5 ?_ ?_ (fun K_ hK => ?_) ?_
      rotate_left 2
      · simp only [List.take_succ_cons, List.take_zero]
        simp (disch := omega) [oLt, oLe, oLtN, oLeN, nLt, nLe, nLtN, nLeN, hs, s1, s2, hc]
        exact hK
      simp only [List.drop_succ_cons, List.drop_zero]
      refine zD_cut 7 ?_ ?_ (fun K_ hK => ?_) ?_
      rotate_left 2
      · simp only [List.take_succ_cons, List.take_zero]
        simp (disch := omega) [oLt, oLe, oLtN, oLeN, nLt, nLe, nLtN, nLeN, hs, s1, s2, hc]
        exact hK
      simp only [List.drop_succ_cons, List.drop_zero]
      refine goD_ok (by decide) ?_
      delta p7_r9
      simp (disch := omega) [oLt, oLe, oLtN, oLeN, nLt, nLe, nLtN, nLeN]
      exact hN
    refine XZ_step ?_ (fun N Q_ hN => ?_) ?_
    rotate_left
    · delta p7_r10; simp (disch := omega) [oLt, oLe, oLtN, oLeN, nLt, nLe, nLtN, nLeN, hs, hc]
      exact hN
    refine XZ_step ?_ (fun N Q_ hN => ?_) ?_
    rotate_left
    · delta p7_r11; simp (disch := omega) [oLt, oLe, oLtN, oLeN, nLt, nLe, nLtN, nLeN, hs, hc]
      exact hN
    refine XZ_step ?_ (fun N Q_ hN => ?_) ?_
    rotate_left
    · delta p7_r12; simp (disch := omega) [oLt, oLe, oLtN, oLeN, nLt, nLe, nLtN, nLeN, hs, hc]
      exact hN
    refine XZ_step ?_ (fun N Q_ hN => ?_) ?_
    rotate_left
    · delta p7_r13; simp (disch := omega) [oLt, oLe, oLtN, oLeN, nLt, nLe, nLtN, nLeN, hs, hc]
      exact hN
    refine XZ_regG ?_
    delta p7_r14
    refine zOps_cut 8 ?_ (fun K_ hK => ?_) ?_
    rotate_left
    · simp only [List.take_succ_cons, List.take_zero]
      simp (disch := omega) [oLt, oLe, oLtN, oLeN, nLt, nLe, nLtN, nLeN]
      exact hK
    simp only [List.drop_succ_cons, List.drop_zero]
    refine zOps_cut 7 ?_ (fun K_ hK => ?_) ?_
    rotate_left
    · simp only [List.take_succ_cons, List.take_zero]
      simp (disch := omega) [oLt, oLe, oLtN, oLeN, nLt, nLe, nLtN, nLeN]
      exact hK
    simp only [List.drop_succ_cons, List.drop_zero]
    simp (disch := omega) [oLt, oLe, oLtN, oLeN, nLt, nLe, nLtN, nLeN]
    exact hQ _ _ (.p (.inl rfl) (by simp) rfl)
  · have d1 : tidV L = .tup [.agg [.v (.slice none 0 0)], vI (chk L)] := by unfold tidV; rw [if_neg hc]; rfl
    have d2 : tidR L = .tup [.agg [.v (.slice none 0 0)], vI (chk L)] := by unfold tidR; rw [if_neg hc]; rfl
    have hF : faceL L = [] := by unfold faceL; rw [if_neg hc]
    have f1 : facV L = .tup [.il (lls []) 0 false, vI (chk L)] := by unfold facV; rw [hF]; rfl
    have f2 : facW L = .tup [.v (.slice none 0 0), vI (chk L)] := by unfold facW; rw [if_neg hc]
    have s3 : (decide (([] : List (List Int)).length ≤ 10000) && ([] : List (List Int)).all small) = true := by decide
    generalize partV L = pv at *
    generalize genV L = gv at *
    generalize hce : chk L = c at *
    refine XZ_step ?_ (fun N Q_ hN => ?_) ?_
    rotate_left
    · delta p7_r0; simp (disch := omega) [oLt, oLe, oLtN, oLeN, nLt, nLe, nLtN, nLeN]
      exact hN
    refine XZ_step ?_ (fun N Q_ hN => ?_) ?_
    rotate_left
    · delta p7_r1 p7_r2; simp (disch := omega) [oLt, oLe, oLtN, oLeN, nLt, nLe, nLtN, nLeN, hl0]
      exact hN
    refine XZ_step ?_ (fun N Q_ hN => ?_) ?_
    rotate_left
    · delta p7_r3; simp (disch := omega) [oLt, oLe, oLtN, oLeN, nLt, nLe, nLtN, nLeN]
      exact hN
    refine XZ_step ?_ (fun N Q_ hN => ?_) ?_
    rotate_left
    · delta p7_r4; simp (disch := omega) [oLt, oLe, oLtN, oLeN, nLt, nLe, nLtN, nLeN, hs, d1]
      exact hN
    refine XZ_step ?_ (fun N Q_ hN => ?_) ?_
    rotate_left
    · delta p7_r5; simp (disch := omega) [oLt, oLe, oLtN, oLeN, nLt, nLe, nLtN, nLeN, hs, d2]
      exact hN
    refine XZ_step ?_ (fun N Q_ hN => ?_) ?_
    rotate_left
    · delta p7_r6; simp (disch := omega) [oLt, oLe, oLtN, oLeN, nLt, nLe, nLtN, nLeN, h33, f1]
      exact hN
    refine XZ_step ?_ (fun N Q_ hN => ?_) ?_
    rotate_left
    · delta p7_r7; simp (disch := omega) [oLt, oLe, oLtN, oLeN, nLt, nLe, nLtN, nLeN, hs, f2]
      exact hN
    refine XZ_step ?_ (fun N Q_ hN => ?_) ?_
    rotate_left
    · refine XZ_seqG (XZ_drawG ?_)
      delta p7_r8
      refine zD_cut 5 ?_ ?_ (fun K_ hK => ?_) ?_
      rotate_left 2
      · simp only [List.take_succ_cons, List.take_zero]
        simp (disch := omega) [oLt, oLe, oLtN, oLeN, nLt, nLe, nLtN, nLeN, hs, s3, hce]
        exact hK
      simp only [List.drop_succ_cons, List.drop_zero]
      refine zD_cut 6 ?_ ?_ (fun K_ hK => ?_) ?_
      rotate_left 2
      · simp only [List.take_succ_cons, List.take_zero]
        simp (disch := omega) [oLt, oLe, oLtN, oLeN, nLt, nLe, nLtN, nLeN, hs, s3, hce]
        exact hK
      simp only [List.drop_succ_cons, List.drop_zero]
      refine zD_cut 6 ?_ ?_ (fun K_ hK => ?_) ?_
      rotate_left 2
      · simp only [List.take_succ_cons, List.take_zero]
        simp (disch := omega) [oLt, oLe, oLtN, oLeN, nLt, nLe, nLtN, nLeN, hs, s3, hce]
        exact hK
      simp only [List.drop_succ_cons, List.drop_zero]
      refine zD_cut 5 ?_ ?_ (fun K_ hK => ?_) ?_
      rotate_left 2
      · simp only [List.take_succ_cons, List.take_zero]
        simp (disch := omega) [oLt, oLe, oLtN, oLeN, nLt, nLe, nLtN, nLeN, hs, s3, hce]
        exact hK
      simp only [List.drop_succ_cons, List.drop_zero]
      refine zD_cut 7 ?_ ?_ (fun K_ hK => ?_) ?_
      rotate_left 2
      · simp only [List.take_succ_cons, List.take_zero]
        simp (disch := omega) [oLt, oLe, oLtN, oLeN, nLt, nLe, nLtN, nLeN, hs, s3, hce]
        exact hK
      simp only [List.drop_succ_cons, List.drop_zero]
      refine goD_ok (by decide) ?_
      delta p7_r9
      simp (disch := omega) [oLt, oLe, oLtN, oLeN, nLt, nLe, nLtN, nLeN]
      exact hN
    refine XZ_step ?_ (fun N Q_ hN => ?_) ?_
    rotate_left
    · delta p7_r10; simp (disch := omega) [oLt, oLe, oLtN, oLeN, nLt, nLe, nLtN, nLeN, hs, hce]
      exact hN
    refine XZ_step ?_ (fun N Q_ hN => ?_) ?_
    rotate_left
    · delta p7_r11; simp (disch := omega) [oLt, oLe, oLtN, oLeN, nLt, nLe, nLtN, nLeN, hs, hce]
      exact hN
    refine XZ_step ?_ (fun N Q_ hN => ?_) ?_
    rotate_left
    · delta p7_r12; simp (disch := omega) [oLt, oLe, oLtN, oLeN, nLt, nLe, nLtN, nLeN, hs, hce]
      exact hN
    refine XZ_step ?_ (fun N Q_ hN => ?_) ?_
    rotate_left
    · delta p7_r13; simp (disch := omega) [oLt, oLe, oLtN, oLeN, nLt, nLe, nLtN, nLeN, hs, hce]
      exact hN
    refine XZ_regG ?_
    delta p7_r14
    refine zOps_cut 8 ?_ (fun K_ hK => ?_) ?_
    rotate_left
    · simp only [List.take_succ_cons, List.take_zero]
      simp (disch := omega) [oLt, oLe, oLtN, oLeN, nLt, nLe, nLtN, nLeN]
      exact hK
    simp only [List.drop_succ_cons, List.drop_zero]
    refine zOps_cut 7 ?_ (fun K_ hK => ?_) ?_
    rotate_left
    · simp only [List.take_succ_cons, List.take_zero]
      simp (disch := omega) [oLt, oLe, oLtN, oLeN, nLt, nLe, nLtN, nLeN]
      exact hK
    simp only [List.drop_succ_cons, List.drop_zero]
    simp (disch := omega) [oLt, oLe, oLtN, oLeN, nLt, nLe, nLtN, nLeN]
    exact hQ _ _ (.p (.inl rfl) (by simp) rfl)
end Go.Sx.Ch
