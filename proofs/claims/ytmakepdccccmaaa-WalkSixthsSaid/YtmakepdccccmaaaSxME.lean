/- WalkSixths's walk. No conditions. -/
import Derived.Test.YtmakepdccccmaaaSxMD
set_option linter.unusedVariables false
set_option linter.unusedSimpArgs false
set_option maxRecDepth 4000
namespace Go.Sx.Wk
open Go Go.Sx Go.Proofs

set_option maxHeartbeats 2000000 in
theorem walkSixths_runs (s b0 b1 b2 b3 : Int) (hs : 0 ≤ s ∧ s ≤ 255) (hb : ∀ x ∈ [b0, b1, b2, b3], 0 ≤ x ∧ x ≤ 255) :
    Runs Try.prog 14 0 [.agg [vU s, vU b0, vU b1, vU b2, vU b3]] (hpF []) (vB true) 0 (hpF []) := by
  have hg : g42 s b0 b1 b2 b3 4 8 = true := by
    simp only [g42, Bool.and_eq_true, List.all_eq_true, within_iff]
    exact ⟨⟨fun x hx => by rw [List.mem_cons] at hx; rcases hx with rfl | hx; exact hs; exact hb x hx, by omega⟩, by omega⟩
  obtain ⟨hne, h4', h8⟩ := made_facts hg
  generalize hT : madeL s 4 8 [b0, b1, b2, b3] = T at *
  have h4 : T.length ≤ 4 := by omega
  have hpos := List.length_pos_iff.2 hne
  have hT8 : ok8 T = true := ok8_iff.2 h8
  have hst : small T = true := by simp [small]; omega
  have hc0 : chk T = 0 := by
    have h0 : ¬ T.length = 0 := by omega
    have h1 : T.all (within 1 · 8) = true := List.all_eq_true.2 fun y hy => by simpa using h8 y hy
    unfold chk
    rw [if_neg h0, if_neg (by omega), if_pos h1]
  obtain ⟨wf, wa1, wb1, wa4, wb8, wdv, weq, wcop⟩ := weight_facts hc0
  have hz0 : wsgn (wgtB (wB T) T - 840 * wA T) = 0 := by rw [weq]; exact wsgn_zero
  have hz1 : 0 < wsgn (wgtB 1 T - 840) ↔ 840 < wgt T := by rw [wsgn_pos, wgtB_eq]; omega
  have hz2 : 0 < wsgn (wgtB 6 T - 4200) ↔ 700 < wgt T := by rw [wsgn_pos, wgtB_eq]; omega
  have hcT : canF T = .tup [vB (canB T), vI 0] := by simp only [canF, hc0, if_true]
  have hwi : within 0 (60 : Int) 60 = true := rfl
  have hw1 : within 0 (1 : Int) 4000 = true := rfl
  have hw5 : within 0 (6 : Int) 4000 = true := rfl
  have hw6 : within 0 (5 : Int) 4000 = true := rfl
  have hwa : within 0 (wA T) 4000 = true := within_iff.2 ⟨by omega, by omega⟩
  have hwb : within 0 (wB T) 4000 = true := within_iff.2 ⟨by omega, by omega⟩
  generalize wA T = A at *
  generalize wB T = B at *
  have ha1 : ¬ A < 1 := by omega
  have hb1 : ¬ B < 1 := by omega
  have ha4 : ¬ 4 * B < A := by omega
  have hb8 : ¬ 840 < B := by omega
  have hbn : ¬ B = 0 := by omega
  -- the two weights
  have hcan : canB T = true → ¬ 0 < wsgn (wgtB 1 T - 840) := fun hc => by
    rw [hz1]
    have := ever_wgt h8 ((canB_iff hT8 h4).1 hc)
    omega
  have hnot : canB T = false → 0 < wsgn (wgtB 6 T - 4200) := fun hc => by
    rw [hz2]
    apply Classical.byContradiction
    intro h
    have := six_can hne h4 h8 (by omega)
    rw [hc] at this; cases this
  generalize hze1 : wsgn (wgtB 1 T - 840) = z1 at hcan
  generalize hze2 : wsgn (wgtB 6 T - 4200) = z2 at hnot
  refine P14.rz (ss := [s16, s17, s19, s21, s30, s32, s34, s38, s42, s43, s51]) ⟨s16_ok, s17_ok, s19_ok, s21_ok, s30_ok, s32_ok, s34_ok, s38_ok, s42_ok, s43_ok, s51_ok, trivial⟩ (by simp) fun Q hQ => ?_
  cases hcb : canB T with
  | false =>
    have hz2' : ¬ z2 ≤ 0 := by have := hnot hcb; omega
    have hal : 0 ≤ (aliveF T).2 := by
      have := hcb
      unfold canB at this
      rw [decide_eq_false_iff_not] at this
      omega
    have hlf : longF T = .tup [vI (aliveF T).2, vI 0] := by unfold longF; rw [if_pos hc0, hcb]; rfl
    have hwv : walkV T 60 = .tup [.il [] 0 false, vI 12] := by unfold walkV; rw [if_pos hc0, if_pos hwi, hcb]; rfl
    have hlv : loopV T = .tup [.il [] 0 false, .il [] 0 false, vI 12] := by unfold loopV; rw [if_pos hc0, hcb]; rfl
    rw [hcb] at hcT
    delta p14
    refine XZ_step ?_ (fun N Q_ hN => ?_) ?_
    rotate_left
    · delta p14_r0; simp (disch := omega) [oLt, oLe, oLtN, oLeN, nLt, nLe, nLtN, nLeN]
      exact hN
    refine XZ_step ?_ (fun N Q_ hN => ?_) ?_
    rotate_left
    · delta p14_r1; simp (disch := omega) [oLt, oLe, oLtN, oLeN, nLt, nLe, nLtN, nLeN, f42, hg, hT]
      exact hN
    refine XZ_step ?_ (fun N Q_ hN => ?_) ?_
    rotate_left
    · delta p14_r2; simp (disch := omega) [oLt, oLe, oLtN, oLeN, nLt, nLe, nLtN, nLeN, wf, hst]
      exact hN
    refine XZ_step ?_ (fun N Q_ hN => ?_) ?_
    rotate_left
    · delta p14_r3; simp (disch := omega) [oLt, oLe, oLtN, oLeN, nLt, nLe, nLtN, nLeN, hcT, hst]
      exact hN
    refine XZ_step ?_ (fun N Q_ hN => ?_) ?_
    rotate_left
    · delta p14_r4; simp (disch := omega) [oLt, oLe, oLtN, oLeN, nLt, nLe, nLtN, nLeN, hlf, hst]
      exact hN
    refine XZ_step ?_ (fun N Q_ hN => ?_) ?_
    rotate_left
    · refine XZ_regG ?_
      delta p14_r5
      refine zOps_cut 11 ?_ (fun K_ hK => ?_) ?_
      rotate_left
      · simp only [List.take_succ_cons, List.take_zero]
        simp (disch := omega) [oLt, oLe, oLtN, oLeN, nLt, nLe, nLtN, nLeN, ha1]
        exact hK
      simp only [List.drop_succ_cons, List.drop_zero]
      refine zOps_cut 9 ?_ (fun K_ hK => ?_) ?_
      rotate_left
      · simp only [List.take_succ_cons, List.take_zero]
        simp (disch := omega) [oLt, oLe, oLtN, oLeN, nLt, nLe, nLtN, nLeN, hb1, ha4]
        exact hK
      simp only [List.drop_succ_cons, List.drop_zero]
      refine zOps_cut 9 ?_ (fun K_ hK => ?_) ?_
      rotate_left
      · simp only [List.take_succ_cons, List.take_zero]
        simp (disch := omega) [oLt, oLe, oLtN, oLeN, nLt, nLe, nLtN, nLeN, hb8, hbn, wdv]
        exact hK
      simp only [List.drop_succ_cons, List.drop_zero]
      delta p14_r6
      simp (disch := omega) [oLt, oLe, oLtN, oLeN, nLt, nLe, nLtN, nLeN, hT8, h4, hwa, hwb, hz0]
      exact hN
    obtain ⟨S1, hS1⟩ : ∃ S : ST, S = ⟨[(3, .il (ints T) T.length false), (7, vB false), (9, vI (aliveF T).2), (10, vI 0)], [], 0⟩ := ⟨_, rfl⟩
    refine XZ_step S1 (fun N Q_ hN => ?_) ?_
    · rw [hS1] at hN
      delta p14_r7
      simp (disch := omega) [oLt, oLe, oLtN, oLeN, nLt, nLe, nLtN, nLeN]
      refine XZ_for (fun d : Nat => ⟨[(3, .il (ints T) T.length false), (4, vI A), (5, vI B), (7, vB false), (9, vI (aliveF T).2), (10, vI 0), (11, vI d)], [], 0⟩) (fun d => B.toNat + 1 - d) (fun d => 2 ≤ d ∧ (d : Int) ≤ B + 1) 2 ⟨by omega, by omega⟩ (.to [] (by simp)) ?_
      rintro d ⟨hd2, hdB⟩ N1 Q1 hN1 hE1
      by_cases h : (d : Int) ≤ B
      · have hd0 : ¬ (d : Int) = 0 := by omega
        have hdn : ¬ d = 0 := by omega
        by_cases hA0 : A % (d : Int) = 0
        · have hB0 : ¬ B % (d : Int) = 0 := fun e => wcop d (by omega) h hA0 e
          delta p14_l0 p14_r8 p14_r9 p14_r10 p14_r11
          simp (disch := omega) [oLt, oLe, oLtN, oLeN, nLt, nLe, nLtN, nLeN, h, hd0, hdn, hA0, hB0]
          exact hN1 _ (d + 1) (by omega) ⟨by omega, by omega⟩ (.to [] (by simp))
        · delta p14_l0 p14_r8 p14_r9 p14_r10 p14_r11
          simp (disch := omega) [oLt, oLe, oLtN, oLeN, nLt, nLe, nLtN, nLeN, h, hd0, hdn, hA0]
          exact hN1 _ (d + 1) (by omega) ⟨by omega, by omega⟩ (.to [] (by simp))
      · delta p14_l0 p14_r8 p14_r9 p14_r10 p14_r11
        simp (disch := omega) [oLt, oLe, oLtN, oLeN, nLt, nLe, nLtN, nLeN, h]
        refine hE1 _ _ ⟨[(3, .il (ints T) T.length false), (7, vB false), (9, vI (aliveF T).2), (10, vI 0)], [], 0⟩ (.to [] (by simp)) ?_
        simp only [inBE, thenE, if_true]; exact hN
    rw [hS1]
    by_cases hzz : 0 < z1
    · skip
      refine XZ_step ?_ (fun N Q_ hN => ?_) ?_
      rotate_left
      · delta p14_r12 p14_r13; simp (disch := omega) [oLt, oLe, oLtN, oLeN, nLt, nLe, nLtN, nLeN, hT8, h4, hw1, hw5, hw6, hze1, hze2, hzz, hz2']
        exact hN
      exact six_false hst hwv hlv hal fun s hh => hQ _ s hh
    · skip
      refine XZ_step ?_ (fun N Q_ hN => ?_) ?_
      rotate_left
      · delta p14_r12 p14_r13; simp (disch := omega) [oLt, oLe, oLtN, oLeN, nLt, nLe, nLtN, nLeN, hT8, h4, hw1, hw5, hw6, hze1, hze2, hzz, hz2']
        exact hN
      exact six_false hst hwv hlv hal fun s hh => hQ _ s hh
  | true =>
    have hz1' : ¬ 0 < z1 := hcan hcb
    have hlf : longF T = .tup [vI 0, vI 13] := by unfold longF; rw [if_pos hc0, hcb]; rfl
    obtain ⟨a, b, hlp⟩ := lp_top hT8 h4 hcb
    obtain ⟨l1, l2, l3, l4, l5, l6, l7⟩ := loop_facts hT8 h4 hcb hlp
    have hwv : walkV T 60 = .tup [.il (ints (walkB T 60 T)) (walkB T 60 T).length false, vI 0] := by unfold walkV; rw [if_pos hc0, if_pos hwi, hcb]; rfl
    have hlv : loopV T = .tup [.il (ints a) a.length false, .il (ints b) b.length false, vI 0] := by unfold loopV; rw [if_pos hc0, hcb, hlp]; rfl
    rw [hcb] at hcT
    delta p14
    refine XZ_step ?_ (fun N Q_ hN => ?_) ?_
    rotate_left
    · delta p14_r0; simp (disch := omega) [oLt, oLe, oLtN, oLeN, nLt, nLe, nLtN, nLeN]
      exact hN
    refine XZ_step ?_ (fun N Q_ hN => ?_) ?_
    rotate_left
    · delta p14_r1; simp (disch := omega) [oLt, oLe, oLtN, oLeN, nLt, nLe, nLtN, nLeN, f42, hg, hT]
      exact hN
    refine XZ_step ?_ (fun N Q_ hN => ?_) ?_
    rotate_left
    · delta p14_r2; simp (disch := omega) [oLt, oLe, oLtN, oLeN, nLt, nLe, nLtN, nLeN, wf, hst]
      exact hN
    refine XZ_step ?_ (fun N Q_ hN => ?_) ?_
    rotate_left
    · delta p14_r3; simp (disch := omega) [oLt, oLe, oLtN, oLeN, nLt, nLe, nLtN, nLeN, hcT, hst]
      exact hN
    refine XZ_step ?_ (fun N Q_ hN => ?_) ?_
    rotate_left
    · delta p14_r4; simp (disch := omega) [oLt, oLe, oLtN, oLeN, nLt, nLe, nLtN, nLeN, hlf, hst]
      exact hN
    refine XZ_step ?_ (fun N Q_ hN => ?_) ?_
    rotate_left
    · refine XZ_regG ?_
      delta p14_r5
      refine zOps_cut 11 ?_ (fun K_ hK => ?_) ?_
      rotate_left
      · simp only [List.take_succ_cons, List.take_zero]
        simp (disch := omega) [oLt, oLe, oLtN, oLeN, nLt, nLe, nLtN, nLeN, ha1]
        exact hK
      simp only [List.drop_succ_cons, List.drop_zero]
      refine zOps_cut 9 ?_ (fun K_ hK => ?_) ?_
      rotate_left
      · simp only [List.take_succ_cons, List.take_zero]
        simp (disch := omega) [oLt, oLe, oLtN, oLeN, nLt, nLe, nLtN, nLeN, hb1, ha4]
        exact hK
      simp only [List.drop_succ_cons, List.drop_zero]
      refine zOps_cut 9 ?_ (fun K_ hK => ?_) ?_
      rotate_left
      · simp only [List.take_succ_cons, List.take_zero]
        simp (disch := omega) [oLt, oLe, oLtN, oLeN, nLt, nLe, nLtN, nLeN, hb8, hbn, wdv]
        exact hK
      simp only [List.drop_succ_cons, List.drop_zero]
      delta p14_r6
      simp (disch := omega) [oLt, oLe, oLtN, oLeN, nLt, nLe, nLtN, nLeN, hT8, h4, hwa, hwb, hz0]
      exact hN
    obtain ⟨S1, hS1⟩ : ∃ S : ST, S = ⟨[(3, .il (ints T) T.length false), (7, vB true), (9, vI 0), (10, vI 13)], [], 0⟩ := ⟨_, rfl⟩
    refine XZ_step S1 (fun N Q_ hN => ?_) ?_
    · rw [hS1] at hN
      delta p14_r7
      simp (disch := omega) [oLt, oLe, oLtN, oLeN, nLt, nLe, nLtN, nLeN]
      refine XZ_for (fun d : Nat => ⟨[(3, .il (ints T) T.length false), (4, vI A), (5, vI B), (7, vB true), (9, vI 0), (10, vI 13), (11, vI d)], [], 0⟩) (fun d => B.toNat + 1 - d) (fun d => 2 ≤ d ∧ (d : Int) ≤ B + 1) 2 ⟨by omega, by omega⟩ (.to [] (by simp)) ?_
      rintro d ⟨hd2, hdB⟩ N1 Q1 hN1 hE1
      by_cases h : (d : Int) ≤ B
      · have hd0 : ¬ (d : Int) = 0 := by omega
        have hdn : ¬ d = 0 := by omega
        by_cases hA0 : A % (d : Int) = 0
        · have hB0 : ¬ B % (d : Int) = 0 := fun e => wcop d (by omega) h hA0 e
          delta p14_l0 p14_r8 p14_r9 p14_r10 p14_r11
          simp (disch := omega) [oLt, oLe, oLtN, oLeN, nLt, nLe, nLtN, nLeN, h, hd0, hdn, hA0, hB0]
          exact hN1 _ (d + 1) (by omega) ⟨by omega, by omega⟩ (.to [] (by simp))
        · delta p14_l0 p14_r8 p14_r9 p14_r10 p14_r11
          simp (disch := omega) [oLt, oLe, oLtN, oLeN, nLt, nLe, nLtN, nLeN, h, hd0, hdn, hA0]
          exact hN1 _ (d + 1) (by omega) ⟨by omega, by omega⟩ (.to [] (by simp))
      · delta p14_l0 p14_r8 p14_r9 p14_r10 p14_r11
        simp (disch := omega) [oLt, oLe, oLtN, oLeN, nLt, nLe, nLtN, nLeN, h]
        refine hE1 _ _ ⟨[(3, .il (ints T) T.length false), (7, vB true), (9, vI 0), (10, vI 13)], [], 0⟩ (.to [] (by simp)) ?_
        simp only [inBE, thenE, if_true]; exact hN
    rw [hS1]
    by_cases hzz : z2 ≤ 0
    · skip
      refine XZ_step ?_ (fun N Q_ hN => ?_) ?_
      rotate_left
      · delta p14_r12 p14_r13; simp (disch := omega) [oLt, oLe, oLtN, oLeN, nLt, nLe, nLtN, nLeN, hT8, h4, hw1, hw5, hw6, hze1, hze2, hzz, hz1']
        exact hN
      exact six_true (W := walkB T 60 T) h4 hne h8 hc0 hwv hlv l1 l2 l3 l4 l5 l6 l7 fun s hh => hQ _ s hh
    · skip
      refine XZ_step ?_ (fun N Q_ hN => ?_) ?_
      rotate_left
      · delta p14_r12 p14_r13; simp (disch := omega) [oLt, oLe, oLtN, oLeN, nLt, nLe, nLtN, nLeN, hT8, h4, hw1, hw5, hw6, hze1, hze2, hzz, hz1']
        exact hN
      exact six_true (W := walkB T 60 T) h4 hne h8 hc0 hwv hlv l1 l2 l3 l4 l5 l6 l7 fun s hh => hQ _ s hh
end Go.Sx.Wk
