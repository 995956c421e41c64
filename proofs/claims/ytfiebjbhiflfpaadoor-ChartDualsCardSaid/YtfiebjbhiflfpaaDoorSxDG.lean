/- ChartDuals's walk, from facts about plain lists (printed by mkDuals.py). No conditions. -/
import Derived.Test.YtfiebjbhiflfpaaDoorSxJDDtoDE
import Derived.Test.YtfiebjbhiflfpaaDoorSxDF
set_option linter.unusedVariables false
set_option linter.unusedSimpArgs false
set_option maxRecDepth 4000
namespace Go.Sx.Ch
open Go Go.Sx Go.Proofs

/-- What the law asks of plain lists. -/
structure PD (n : Int) (L : List (List Int)) : Prop where
  g33 : g33 L = true
  g18 : g18 L = true
  g19 : g19 L = true
  g20 : g20 L = true
  g21 : g21 n L = true
  g22 : g22 n L = true
  e1 : chk L = 0 → tidyF (faceR L) (total L) = faceL L
  e2 : chk L = 0 → tidyF (revL L) (total L) = backL L
  e3 : witE n L = 0 → tidyF (witL n L) (total L - 2) = witC n L
  s1 : (decide ((faceL L).length ≤ 10000) && (faceL L).all small) = true
  s2 : chk L = 0 → (decide ((backL L).length ≤ 10000) && (backL L).all small) = true
  s3 : witE n L = 0 → (decide ((witC n L).length ≤ 10000) && (witC n L).all small) = true
theorem nil_sm : (decide (([] : List (List Int)).length ≤ 10000) && ([] : List (List Int)).all small) = true := by decide
set_option maxHeartbeats 2000000
theorem duals_walk {L : List (List Int)} {u : Bool} {n : Int} (hp : largeF L = false → PD n L) :
    Runs Tryd.prog 3 0 [.agg [.il (lls L) L.length u], vI n] (hpF []) (vB true) 0 (hpF []) := by
  refine P3.rz (ss := [s15, s16, s17, s18, s19, s20, s21, s22, s23]) ⟨s15_ok, s16_ok, s17_ok, s18_ok, s19_ok, s20_ok, s21_ok, s22_ok, s23_ok, trivial⟩ (by simp) fun Q hQ => ?_
  delta p3
  by_cases hl : largeF L = true
  · skip
    refine XZ_step ?_ (fun N Q_ hN => ?_) ?_
    rotate_left
    · delta p3_r0; simp (disch := omega) [oLt, oLe, oLtN, oLeN, nLt, nLe, nLtN, nLeN]
      exact hN
    delta p3_r1 p3_r2
    simp (disch := omega) [oLt, oLe, oLtN, oLeN, nLt, nLe, nLtN, nLeN, hl]
    exact hQ _ _ (.p (.inl rfl) (by simp) rfl)
  have hl0 : largeF L = false := by simpa using hl
  have P := hp hl0
  obtain ⟨q33, q18, q19, q20, q21, q22, e1, e2, e3, s1, s2, s3⟩ := P
  by_cases hc : chk L = 0
  · by_cases hw : witE n L = 0
    · have d1 : dualV L = .tup [.agg [.il (lls (faceL L)) (faceL L).length false], vI 0] := by unfold dualV; rw [hc]
      have d2 : dualR L = .tup [.agg [.il (lls (faceL L)) (faceL L).length false], vI 0] := by unfold dualR mpA; rw [hc, if_pos rfl, e1 hc]
      have b1 : backV L = .tup [.agg [.il (lls (backL L)) (backL L).length false], vI 0] := by unfold backV; rw [hc, if_pos rfl]
      have b2 : backR L = .tup [.agg [.il (lls (backL L)) (backL L).length false], vI 0] := by unfold backR mpA; rw [hc, if_pos rfl, e2 hc]
      have w1 : witV n L = .tup [.agg [.il (lls (witC n L)) (witC n L).length false], vI 0] := by unfold witV; rw [hw, if_pos rfl]
      have w2 : witR n L = .tup [.agg [.il (lls (witC n L)) (witC n L).length false], vI 0] := by unfold witR mpA; rw [hw, if_pos rfl, e3 hw]
      replace s2 := s2 hc
      replace s3 := s3 hw
      clear e1 e2 e3
      refine XZ_step ?_ (fun N Q_ hN => ?_) ?_
      rotate_left
      · delta p3_r0; simp (disch := omega) [oLt, oLe, oLtN, oLeN, nLt, nLe, nLtN, nLeN]
        exact hN
      refine XZ_step ?_ (fun N Q_ hN => ?_) ?_
      rotate_left
      · delta p3_r1 p3_r2
        simp (disch := omega) [oLt, oLe, oLtN, oLeN, nLt, nLe, nLtN, nLeN, hl0]
        exact hN
      refine XZ_step ?_ (fun N Q_ hN => ?_) ?_
      rotate_left
      · delta p3_r3; simp (disch := omega) [oLt, oLe, oLtN, oLeN, nLt, nLe, nLtN, nLeN]
        exact hN
      refine XZ_step ?_ (fun N Q_ hN => ?_) ?_
      rotate_left
      · delta p3_r4; simp (disch := omega) [oLt, oLe, oLtN, oLeN, nLt, nLe, nLtN, nLeN, q33, d1]
        exact hN
      refine XZ_step ?_ (fun N Q_ hN => ?_) ?_
      rotate_left
      · delta p3_r5; simp (disch := omega) [oLt, oLe, oLtN, oLeN, nLt, nLe, nLtN, nLeN, q18, d2]
        exact hN
      refine XZ_step ?_ (fun N Q_ hN => ?_) ?_
      rotate_left
      · delta p3_r6; simp (disch := omega) [oLt, oLe, oLtN, oLeN, nLt, nLe, nLtN, nLeN, q19, b1]
        exact hN
      refine XZ_step ?_ (fun N Q_ hN => ?_) ?_
      rotate_left
      · delta p3_r7; simp (disch := omega) [oLt, oLe, oLtN, oLeN, nLt, nLe, nLtN, nLeN, q20, b2]
        exact hN
      refine XZ_step ?_ (fun N Q_ hN => ?_) ?_
      rotate_left
      · delta p3_r8; simp (disch := omega) [oLt, oLe, oLtN, oLeN, nLt, nLe, nLtN, nLeN, q21, w1]
        exact hN
      refine XZ_step ?_ (fun N Q_ hN => ?_) ?_
      rotate_left
      · delta p3_r9; simp (disch := omega) [oLt, oLe, oLtN, oLeN, nLt, nLe, nLtN, nLeN, q22, w2]
        exact hN
      refine XZ_regG ?_
      delta p3_r10
      refine zOps_cut 10 ?_ (fun K_ hK => ?_) ?_
      rotate_left
      · simp only [List.take_succ_cons, List.take_zero]
        simp (disch := omega) [oLt, oLe, oLtN, oLeN, nLt, nLe, nLtN, nLeN, s1, nil_sm]
        exact hK
      simp only [List.drop_succ_cons, List.drop_zero]
      refine zOps_cut 12 ?_ (fun K_ hK => ?_) ?_
      rotate_left
      · simp only [List.take_succ_cons, List.take_zero]
        simp (disch := omega) [oLt, oLe, oLtN, oLeN, nLt, nLe, nLtN, nLeN, s2, nil_sm]
        exact hK
      simp only [List.drop_succ_cons, List.drop_zero]
      refine zOps_cut 10 ?_ (fun K_ hK => ?_) ?_
      rotate_left
      · simp only [List.take_succ_cons, List.take_zero]
        simp (disch := omega) [oLt, oLe, oLtN, oLeN, nLt, nLe, nLtN, nLeN, s3, nil_sm]
        exact hK
      simp only [List.drop_succ_cons, List.drop_zero]
      simp (disch := omega) [oLt, oLe, oLtN, oLeN, nLt, nLe, nLtN, nLeN]
      exact hQ _ _ (.p (.inl rfl) (by simp) rfl)
    · have d1 : dualV L = .tup [.agg [.il (lls (faceL L)) (faceL L).length false], vI 0] := by unfold dualV; rw [hc]
      have d2 : dualR L = .tup [.agg [.il (lls (faceL L)) (faceL L).length false], vI 0] := by unfold dualR mpA; rw [hc, if_pos rfl, e1 hc]
      have b1 : backV L = .tup [.agg [.il (lls (backL L)) (backL L).length false], vI 0] := by unfold backV; rw [hc, if_pos rfl]
      have b2 : backR L = .tup [.agg [.il (lls (backL L)) (backL L).length false], vI 0] := by unfold backR mpA; rw [hc, if_pos rfl, e2 hc]
      have w1 : witV n L = .tup [.agg [.v (.slice none 0 0)], vI (witE n L)] := by unfold witV; rw [if_neg hw]; rfl
      have w2 : witR n L = .tup [.agg [.v (.slice none 0 0)], vI (witE n L)] := by unfold witR; rw [if_neg hw]; rfl
      replace s2 := s2 hc
      have s3 := nil_sm
      clear e1 e2 e3
      refine XZ_step ?_ (fun N Q_ hN => ?_) ?_
      rotate_left
      · delta p3_r0; simp (disch := omega) [oLt, oLe, oLtN, oLeN, nLt, nLe, nLtN, nLeN]
        exact hN
      refine XZ_step ?_ (fun N Q_ hN => ?_) ?_
      rotate_left
      · delta p3_r1 p3_r2
        simp (disch := omega) [oLt, oLe, oLtN, oLeN, nLt, nLe, nLtN, nLeN, hl0]
        exact hN
      refine XZ_step ?_ (fun N Q_ hN => ?_) ?_
      rotate_left
      · delta p3_r3; simp (disch := omega) [oLt, oLe, oLtN, oLeN, nLt, nLe, nLtN, nLeN]
        exact hN
      refine XZ_step ?_ (fun N Q_ hN => ?_) ?_
      rotate_left
      · delta p3_r4; simp (disch := omega) [oLt, oLe, oLtN, oLeN, nLt, nLe, nLtN, nLeN, q33, d1]
        exact hN
      refine XZ_step ?_ (fun N Q_ hN => ?_) ?_
      rotate_left
      · delta p3_r5; simp (disch := omega) [oLt, oLe, oLtN, oLeN, nLt, nLe, nLtN, nLeN, q18, d2]
        exact hN
      refine XZ_step ?_ (fun N Q_ hN => ?_) ?_
      rotate_left
      · delta p3_r6; simp (disch := omega) [oLt, oLe, oLtN, oLeN, nLt, nLe, nLtN, nLeN, q19, b1]
        exact hN
      refine XZ_step ?_ (fun N Q_ hN => ?_) ?_
      rotate_left
      · delta p3_r7; simp (disch := omega) [oLt, oLe, oLtN, oLeN, nLt, nLe, nLtN, nLeN, q20, b2]
        exact hN
      refine XZ_step ?_ (fun N Q_ hN => ?_) ?_
      rotate_left
      · delta p3_r8; simp (disch := omega) [oLt, oLe, oLtN, oLeN, nLt, nLe, nLtN, nLeN, q21, w1]
        exact hN
      refine XZ_step ?_ (fun N Q_ hN => ?_) ?_
      rotate_left
      · delta p3_r9; simp (disch := omega) [oLt, oLe, oLtN, oLeN, nLt, nLe, nLtN, nLeN, q22, w2]
        exact hN
      refine XZ_regG ?_
      delta p3_r10
      refine zOps_cut 10 ?_ (fun K_ hK => ?_) ?_
      rotate_left
      · simp only [List.take_succ_cons, List.take_zero]
        simp (disch := omega) [oLt, oLe, oLtN, oLeN, nLt, nLe, nLtN, nLeN, s1, nil_sm]
        exact hK
      simp only [List.drop_succ_cons, List.drop_zero]
      refine zOps_cut 12 ?_ (fun K_ hK => ?_) ?_
      rotate_left
      · simp only [List.take_succ_cons, List.take_zero]
        simp (disch := omega) [oLt, oLe, oLtN, oLeN, nLt, nLe, nLtN, nLeN, s2, nil_sm]
        exact hK
      simp only [List.drop_succ_cons, List.drop_zero]
      refine zOps_cut 10 ?_ (fun K_ hK => ?_) ?_
      rotate_left
      · simp only [List.take_succ_cons, List.take_zero]
        simp (disch := omega) [oLt, oLe, oLtN, oLeN, nLt, nLe, nLtN, nLeN, s3, nil_sm]
        exact hK
      simp only [List.drop_succ_cons, List.drop_zero]
      simp (disch := omega) [oLt, oLe, oLtN, oLeN, nLt, nLe, nLtN, nLeN]
      exact hQ _ _ (.p (.inl rfl) (by simp) rfl)
  · have hE : witE n L = chk L := by unfold witE; rw [if_neg hc]
    have d1 : dualV L = .tup [.agg [.il [] 0 false], vI (chk L)] := by unfold dualV faceL; rw [if_neg hc]; rfl
    have d2 : dualR L = .tup [.agg [.v (.slice none 0 0)], vI (chk L)] := by unfold dualR; rw [if_neg hc]; rfl
    have b1 : backV L = .tup [.agg [.v (.slice none 0 0)], vI (chk L)] := by unfold backV; rw [if_neg hc]; rfl
    have b2 : backR L = .tup [.agg [.v (.slice none 0 0)], vI (chk L)] := by unfold backR; rw [if_neg hc]; rfl
    have w1 : witV n L = .tup [.agg [.v (.slice none 0 0)], vI (chk L)] := by unfold witV; rw [hE, if_neg hc]; rfl
    have w2 : witR n L = .tup [.agg [.v (.slice none 0 0)], vI (chk L)] := by unfold witR; rw [hE, if_neg hc]; rfl
    have s2 := nil_sm
    have s3 := nil_sm
    clear e1 e2 e3
    refine XZ_step ?_ (fun N Q_ hN => ?_) ?_
    rotate_left
    · delta p3_r0; simp (disch := omega) [oLt, oLe, oLtN, oLeN, nLt, nLe, nLtN, nLeN]
      exact hN
    refine XZ_step ?_ (fun N Q_ hN => ?_) ?_
    rotate_left
    · delta p3_r1 p3_r2
      simp (disch := omega) [oLt, oLe, oLtN, oLeN, nLt, nLe, nLtN, nLeN, hl0]
      exact hN
    refine XZ_step ?_ (fun N Q_ hN => ?_) ?_
    rotate_left
    · delta p3_r3; simp (disch := omega) [oLt, oLe, oLtN, oLeN, nLt, nLe, nLtN, nLeN]
      exact hN
    refine XZ_step ?_ (fun N Q_ hN => ?_) ?_
    rotate_left
    · delta p3_r4; simp (disch := omega) [oLt, oLe, oLtN, oLeN, nLt, nLe, nLtN, nLeN, q33, d1]
      exact hN
    refine XZ_step ?_ (fun N Q_ hN => ?_) ?_
    rotate_left
    · delta p3_r5; simp (disch := omega) [oLt, oLe, oLtN, oLeN, nLt, nLe, nLtN, nLeN, q18, d2]
      exact hN
    refine XZ_step ?_ (fun N Q_ hN => ?_) ?_
    rotate_left
    · delta p3_r6; simp (disch := omega) [oLt, oLe, oLtN, oLeN, nLt, nLe, nLtN, nLeN, q19, b1]
      exact hN
    refine XZ_step ?_ (fun N Q_ hN => ?_) ?_
    rotate_left
    · delta p3_r7; simp (disch := omega) [oLt, oLe, oLtN, oLeN, nLt, nLe, nLtN, nLeN, q20, b2]
      exact hN
    refine XZ_step ?_ (fun N Q_ hN => ?_) ?_
    rotate_left
    · delta p3_r8; simp (disch := omega) [oLt, oLe, oLtN, oLeN, nLt, nLe, nLtN, nLeN, q21, w1]
      exact hN
    refine XZ_step ?_ (fun N Q_ hN => ?_) ?_
    rotate_left
    · delta p3_r9; simp (disch := omega) [oLt, oLe, oLtN, oLeN, nLt, nLe, nLtN, nLeN, q22, w2]
      exact hN
    refine XZ_regG ?_
    delta p3_r10
    refine zOps_cut 10 ?_ (fun K_ hK => ?_) ?_
    rotate_left
    · simp only [List.take_succ_cons, List.take_zero]
      simp (disch := omega) [oLt, oLe, oLtN, oLeN, nLt, nLe, nLtN, nLeN, s1, nil_sm]
      exact hK
    simp only [List.drop_succ_cons, List.drop_zero]
    refine zOps_cut 12 ?_ (fun K_ hK => ?_) ?_
    rotate_left
    · simp only [List.take_succ_cons, List.take_zero]
      simp (disch := omega) [oLt, oLe, oLtN, oLeN, nLt, nLe, nLtN, nLeN, s2, nil_sm]
      exact hK
    simp only [List.drop_succ_cons, List.drop_zero]
    refine zOps_cut 10 ?_ (fun K_ hK => ?_) ?_
    rotate_left
    · simp only [List.take_succ_cons, List.take_zero]
      simp (disch := omega) [oLt, oLe, oLtN, oLeN, nLt, nLe, nLtN, nLeN, s3, nil_sm]
      exact hK
    simp only [List.drop_succ_cons, List.drop_zero]
    simp (disch := omega) [oLt, oLe, oLtN, oLeN, nLt, nLe, nLtN, nLeN]
    exact hQ _ _ (.p (.inl rfl) (by simp) rfl)
end Go.Sx.Ch
