/- ChartEuler returns true. No conditions. -/
import Derived.Test.YtfiebjbhiflfpaaDoorSxJHKtoHM
import Derived.Test.YtfiebjbhiflfpaaDoorSxPCn
import Derived.Test.YtfiebjbhiflfpaaDoorSxJJAtoKI
section
set_option linter.unusedVariables false
set_option linter.unusedSimpArgs false
set_option maxRecDepth 4000
namespace Go.Sx.Ch
open Go Go.Sx Go.Proofs
noncomputable def q14 : PCode := (.seq (.reg p14_r2 [3, 4, 5]) (.seq (.reg p14_r3 [3, 4, 5, 6, 7]) (.seq (.reg p14_r4 [3, 4, 5, 6, 7, 8, 9]) (.seq (.reg p14_r5 [3, 4, 5, 6, 7, 8, 9, 10, 11]) (.seq (.seq (.draw p14_r6 [[], [0], [1, 0], [2, 1, 0], [3, 2, 1, 0], [4, 3, 2, 1, 0], [5, 4, 3, 2, 1, 0], [6, 5, 4, 3, 2, 1, 0], [7, 6, 5, 4, 3, 2, 1, 0], [8, 7, 6, 5, 4, 3, 2, 1, 0], [9, 8, 7, 6, 5, 4, 3, 2, 1, 0], [10, 9, 8, 7, 6, 5, 4, 3, 2, 1, 0], [11, 10, 9, 8, 7, 6, 5, 4, 3, 2, 1, 0], [12, 11, 10, 9, 8, 7, 6, 5, 4, 3, 2, 1, 0], [13, 12, 11, 10, 9, 8, 7, 6, 5, 4, 3, 2, 1, 0], [14, 13, 12, 11, 10, 9, 8, 7, 6, 5, 4, 3, 2, 1, 0], [14, 13, 12, 11, 10, 9, 8, 7, 6, 5, 4, 3, 2, 1, 0], [16, 14, 13, 12, 11, 10, 9, 8, 7, 6, 5, 4, 3, 2, 1, 0], [15, 17, 16, 14, 13, 12, 11, 10, 9, 8, 7, 6, 5, 4, 3, 2, 1, 0], [18, 15, 17, 16, 14, 13, 12, 11, 10, 9, 8, 7, 6, 5, 4, 3, 2, 1, 0], [19, 18, 15, 17, 16, 14, 13, 12, 11, 10, 9, 8, 7, 6, 5, 4, 3, 2, 1, 0], [20, 19, 18, 15, 17, 16, 14, 13, 12, 11, 10, 9, 8, 7, 6, 5, 4, 3, 2, 1, 0], [21, 20, 19, 18, 15, 17, 16, 14, 13, 12, 11, 10, 9, 8, 7, 6, 5, 4, 3, 2, 1, 0], [21, 20, 19, 18, 15, 17, 16, 14, 13, 12, 11, 10, 9, 8, 7, 6, 5, 4, 3, 2, 1, 0], [23, 21, 20, 19, 18, 15, 17, 16, 14, 13, 12, 11, 10, 9, 8, 7, 6, 5, 4, 3, 2, 1, 0], [22, 24, 23, 21, 20, 19, 18, 15, 17, 16, 14, 13, 12, 11, 10, 9, 8, 7, 6, 5, 4, 3, 2, 1, 0], [25, 22, 24, 23, 21, 20, 19, 18, 15, 17, 16, 14, 13, 12, 11, 10, 9, 8, 7, 6, 5, 4, 3, 2, 1, 0], [26, 25, 22, 24, 23, 21, 20, 19, 18, 15, 17, 16, 14, 13, 12, 11, 10, 9, 8, 7, 6, 5, 4, 3, 2, 1, 0], [27, 26, 25, 22, 24, 23, 21, 20, 19, 18, 15, 17, 16, 14, 13, 12, 11, 10, 9, 8, 7, 6, 5, 4, 3, 2, 1, 0], [28, 27, 26, 25, 22, 24, 23, 21, 20, 19, 18, 15, 17, 16, 14, 13, 12, 11, 10, 9, 8, 7, 6, 5, 4, 3, 2, 1, 0], [27, 26, 25, 22, 24, 23, 21, 20, 19, 18, 15, 17, 16, 14, 13, 12, 11, 10, 9, 8, 7, 6, 5, 4, 3, 2, 1, 0], [30, 27, 26, 25, 22, 24, 23, 21, 20, 19, 18, 15, 17, 16, 14, 13, 12, 11, 10, 9, 8, 7, 6, 5, 4, 3, 2, 1, 0], [29, 31, 28, 30, 27, 26, 25, 22, 24, 23, 21, 20, 19, 18, 15, 17, 16, 14, 13, 12, 11, 10, 9, 8, 7, 6, 5, 4, 3, 2, 1, 0], [32, 29, 31, 28, 30, 27, 26, 25, 22, 24, 23, 21, 20, 19, 18, 15, 17, 16, 14, 13, 12, 11, 10, 9, 8, 7, 6, 5, 4, 3, 2, 1, 0], [33, 32, 29, 31, 28, 30, 27, 26, 25, 22, 24, 23, 21, 20, 19, 18, 15, 17, 16, 14, 13, 12, 11, 10, 9, 8, 7, 6, 5, 4, 3, 2, 1, 0], [34, 33, 32, 29, 31, 28, 30, 27, 26, 25, 22, 24, 23, 21, 20, 19, 18, 15, 17, 16, 14, 13, 12, 11, 10, 9, 8, 7, 6, 5, 4, 3, 2, 1, 0], [35, 34, 33, 32, 29, 31, 28, 30, 27, 26, 25, 22, 24, 23, 21, 20, 19, 18, 15, 17, 16, 14, 13, 12, 11, 10, 9, 8, 7, 6, 5, 4, 3, 2, 1, 0], [36, 35, 34, 33, 32, 29, 31, 28, 30, 27, 26, 25, 22, 24, 23, 21, 20, 19, 18, 15, 17, 16, 14, 13, 12, 11, 10, 9, 8, 7, 6, 5, 4, 3, 2, 1, 0], [37, 36, 35, 34, 33, 32, 29, 31, 28, 30, 27, 26, 25, 22, 24, 23, 21, 20, 19, 18, 15, 17, 16, 14, 13, 12, 11, 10, 9, 8, 7, 6, 5, 4, 3, 2, 1, 0], [38, 37, 36, 35, 34, 33, 32, 29, 31, 28, 30, 27, 26, 25, 22, 24, 23, 21, 20, 19, 18, 15, 17, 16, 14, 13, 12, 11, 10, 9, 8, 7, 6, 5, 4, 3, 2, 1, 0]] [3, 4, 6, 8, 76]) (.cond (Operand.tmp 76) (.seq (.reg p14_r7 [2]) .ret) .skip)) (.seq (.reg p14_r8 [3, 4, 6, 8, 12]) (.seq (.seq (.reg p14_r9 [3, 4, 6, 8, 12, 77, 78, 79]) (.block 0 (.loop p14_l0))) (.seq (.draw p14_r14 [[], [0], [1, 0], [2, 1, 0], [3, 2, 1, 0], [4, 3, 2, 1, 0], [2, 1, 0], [6, 2, 1, 0], [7, 6, 2, 1, 0], [5, 8, 4, 3, 7, 6, 2, 1, 0], [2, 1, 0], [10, 2, 1, 0], [9, 11, 5, 8, 4, 3, 7, 6, 10, 2, 1, 0], [2, 1, 0], [13, 2, 1, 0], [2, 1, 0], [15, 2, 1, 0], [14, 16, 13, 15, 2, 1, 0], [12, 17, 9, 11, 5, 8, 4, 3, 7, 6, 10, 14, 16, 13, 15, 2, 1, 0], [18, 12, 17, 9, 11, 5, 8, 4, 3, 7, 6, 10, 14, 16, 13, 15, 2, 1, 0], [19, 18, 12, 17, 9, 11, 5, 8, 4, 3, 7, 10, 14, 16, 13, 15, 6, 2, 1, 0], [20, 19, 18, 12, 17, 9, 11, 5, 8, 4, 3, 7, 10, 14, 16, 13, 15, 6, 2, 1, 0], [20, 19, 18, 12, 17, 9, 11, 5, 8, 4, 3, 7, 10, 14, 16, 13, 15, 6, 2, 1, 0], [22, 20, 19, 18, 12, 17, 9, 11, 5, 8, 4, 3, 7, 10, 14, 16, 13, 15, 6, 2, 1, 0], [21, 23, 22, 20, 19, 18, 12, 17, 9, 11, 5, 8, 4, 3, 7, 10, 14, 16, 13, 15, 6, 2, 1, 0], [24, 21, 23, 22, 20, 19, 18, 12, 17, 9, 11, 5, 8, 4, 3, 7, 10, 14, 16, 13, 15, 6, 2, 1, 0], [25, 24, 21, 23, 22, 20, 19, 18, 12, 17, 9, 11, 5, 8, 4, 3, 7, 10, 14, 16, 13, 15, 6, 2, 1, 0], [26, 25, 24, 21, 23, 22, 20, 19, 18, 12, 17, 9, 11, 5, 8, 4, 3, 7, 10, 14, 16, 13, 15, 6, 2, 1, 0], [27, 26, 25, 24, 21, 23, 22, 20, 19, 18, 12, 17, 9, 11, 5, 8, 4, 3, 7, 10, 14, 16, 13, 15, 6, 2, 1, 0], [28, 27, 26, 25, 24, 21, 23, 22, 20, 19, 18, 12, 17, 9, 11, 5, 8, 4, 3, 7, 10, 14, 16, 13, 15, 6, 2, 1, 0]] [2]) .ret))))))))
noncomputable def p1014 : PCode := .seq (.reg p14_r0 [1]) (.seqC (.reg p14_r1 [3]) q14)
theorem P1014s : strip p1014 = p14 := by kernel_rfl
noncomputable abbrev ss14 : List Sp := [s16, s23, s33, s37, s40, s42, s46, s49, s53, s56, s57, s58, s59]
set_option maxHeartbeats 8000000
theorem euler_rest {L : List (List Int)} (hc : chk L = 0) {s0 : ST} {Q : Exit → ST → Prop} (hs0 : s0 = ⟨[(3, .ptr 0 0)], [(0, .cells [.il (lls L) L.length false])], 1⟩) (hret : ∀ h nx, Q .ret ⟨[(2, vB true)], h, nx⟩) : XZ (rZ (spc ss14)) 0 q14 s0 Q := by
  subst hs0
  obtain ⟨hs, hg⟩ := gd_of hc
  have g1 := g33_ok hs
  have v1 := facV_of hc
  have v2 := partV_of hc
  have v3 := genV_of hc
  have v4 := tidV_of hc
  have sF := face_small (L := L)
  have sT := tid_small hc
  have hTl := tid_len hc
  have hFt := face_total hc
  have hFl := face_len hc
  obtain ⟨-, h16, hev, hP, -⟩ := tab_pts hc
  obtain ⟨g, hgen, hg1, hg2⟩ := gen_nat hc
  have hpl := partR_le3 L
  rw [hgen] at v3
  obtain ⟨T, hT⟩ : ∃ T, tidL L = T := ⟨_, rfl⟩
  obtain ⟨F, hF⟩ : ∃ F, faceL L = F := ⟨_, rfl⟩
  obtain ⟨p, hp⟩ : ∃ p, partR L = p := ⟨_, rfl⟩
  obtain ⟨n, hn⟩ : ∃ n, total L = n := ⟨_, rfl⟩
  rw [hT] at v4 sT hTl
  rw [hF] at v1 sF hFt hFl hg1
  rw [hp] at v2 hg1 hpl
  rw [hn] at hFt hg1 h16 hev
  have sT2 : T.all small = true := by rw [Bool.and_eq_true] at sT; exact sT.2
  have sF2 : F.all small = true := by rw [Bool.and_eq_true] at sF; exact sF.2
  delta q14
  refine XZ_step ?_ (fun N Q_ hN => ?_) ?_
  rotate_left
  · delta p14_r2; simp (disch := omega) [oLt, oLe, oLtN, oLeN, nLt, nLe, nLtN, nLeN, g1, v1, hc]
    exact hN
  refine XZ_step ?_ (fun N Q_ hN => ?_) ?_
  rotate_left
  · delta p14_r3; simp (disch := omega) [oLt, oLe, oLtN, oLeN, nLt, nLe, nLtN, nLeN, hs, v2, hc]
    exact hN
  refine XZ_step ?_ (fun N Q_ hN => ?_) ?_
  rotate_left
  · delta p14_r4; simp (disch := omega) [oLt, oLe, oLtN, oLeN, nLt, nLe, nLtN, nLeN, hs, v3, hc]
    exact hN
  refine XZ_step ?_ (fun N Q_ hN => ?_) ?_
  rotate_left
  · delta p14_r5; simp (disch := omega) [oLt, oLe, oLtN, oLeN, nLt, nLe, nLtN, nLeN, hs, v4, hc]
    exact hN
  refine XZ_step ?_ (fun N Q_ hN => ?_) ?_
  rotate_left
  · refine XZ_seqG (XZ_drawG ?_)
    delta p14_r6
    refine zD_cut 8 ?_ ?_ (fun K_ hK => ?_) ?_
    rotate_left 2
    · simp only [List.take_succ_cons, List.take_zero]
      simp (disch := omega) [oLt, oLe, oLtN, oLeN, nLt, nLe, nLtN, nLeN]
      exact hK
    simp only [List.drop_succ_cons, List.drop_zero]
    refine zD_cut 7 ?_ ?_ (fun K_ hK => ?_) ?_
    rotate_left 2
    · simp only [List.take_succ_cons, List.take_zero]
      simp (disch := omega) [oLt, oLe, oLtN, oLeN, nLt, nLe, nLtN, nLeN]
      exact hK
    simp only [List.drop_succ_cons, List.drop_zero]
    refine zD_cut 3 ?_ ?_ (fun K_ hK => ?_) ?_
    rotate_left 2
    · simp only [List.take_succ_cons, List.take_zero]
      simp (disch := omega) [oLt, oLe, oLtN, oLeN, nLt, nLe, nLtN, nLeN, hg, hF]
      exact hK
    simp only [List.drop_succ_cons, List.drop_zero]
    refine zD_cut 4 ?_ ?_ (fun K_ hK => ?_) ?_
    rotate_left 2
    · simp only [List.take_succ_cons, List.take_zero]
      simp (disch := omega) [oLt, oLe, oLtN, oLeN, nLt, nLe, nLtN, nLeN, sF, sF2]
      exact hK
    simp only [List.drop_succ_cons, List.drop_zero]
    refine zD_cut 5 ?_ ?_ (fun K_ hK => ?_) ?_
    rotate_left 2
    · simp only [List.take_succ_cons, List.take_zero]
      simp (disch := omega) [oLt, oLe, oLtN, oLeN, nLt, nLe, nLtN, nLeN, hg, hp]
      exact hK
    simp only [List.drop_succ_cons, List.drop_zero]
    refine zD_cut 5 ?_ ?_ (fun K_ hK => ?_) ?_
    rotate_left 2
    · simp only [List.take_succ_cons, List.take_zero]
      simp (disch := omega) [oLt, oLe, oLtN, oLeN, nLt, nLe, nLtN, nLeN, hg, hT]
      exact hK
    simp only [List.drop_succ_cons, List.drop_zero]
    refine zD_cut 4 ?_ ?_ (fun K_ hK => ?_) ?_
    rotate_left 2
    · simp only [List.take_succ_cons, List.take_zero]
      simp (disch := omega) [oLt, oLe, oLtN, oLeN, nLt, nLe, nLtN, nLeN, sT, sT2, hTl]
      exact hK
    simp only [List.drop_succ_cons, List.drop_zero]
    refine zD_cut 4 ?_ ?_ (fun K_ hK => ?_) ?_
    rotate_left 2
    · simp only [List.take_succ_cons, List.take_zero]
      simp (disch := omega) [oLt, oLe, oLtN, oLeN, nLt, nLe, nLtN, nLeN, hs, hc]
      exact hK
    simp only [List.drop_succ_cons, List.drop_zero]
    refine goD_ok (by decide) ?_
    simp (disch := omega) [oLt, oLe, oLtN, oLeN, nLt, nLe, nLtN, nLeN]
    exact hN
  refine XZ_step ?_ (fun N Q_ hN => ?_) ?_
  rotate_left
  · delta p14_r8; simp (disch := omega) [oLt, oLe, oLtN, oLeN, nLt, nLe, nLtN, nLeN]
    exact hN
  refine XZ_seqG (XZ_seqG ?_)
  delta p14_r9
  simp (disch := omega) [oLt, oLe, oLtN, oLeN, nLt, nLe, nLtN, nLeN]
  have hFt2 : total F ≤ 16 := by omega
  refine XZ_for (fun i : Nat => ⟨[(3, .ptr 0 0), (4, .il (lls F) F.length false), (6, vI p), (8, vI g), (12, vI (total (F.take i))), (77, .il (lls F) F.length false), (78, vI F.length), (79, vI i)], [(0, .cells [.il (lls L) L.length false])], 1⟩) (fun i => F.length - i) (fun i => i ≤ F.length) 0 (Nat.zero_le _) (.tot [3] (by simp [total])) ?_
  intro i hi N Q' hN hE
  rcases Nat.lt_or_ge i F.length with h | h
  · have hic : (i : Int) < F.length := by omega
    obtain ⟨l, r, -, e2, e3, -, e5⟩ := drop_split h
    have htl : total (F.take (i + 1)) ≤ 16 := Nat.le_trans (total_take F _) hFt2
    have hnext : total (F.take (i + 1)) = total (F.take i) + l.length := by rw [List.take_succ_eq_append_getElem h, e3, total_snoc]
    rw [hnext] at htl
    have fin : ∀ s', ChgT 0 s' ⟨[(3, .ptr 0 0), (4, .il (lls F) F.length false), (6, vI p), (8, vI g), (12, vI ((total (F.take i) + l.length : Nat) : Int)), (77, .il (lls F) F.length false), (78, vI F.length), (79, vI ((i + 1 : Nat) : Int))], [(0, .cells [.il (lls L) L.length false])], 1⟩ → N s' := fun s' hh => hN s' (i + 1) (by omega) h (by rw [hnext]; exact hh)
    obtain ⟨z, hz⟩ : ∃ z : Int, ((total (F.take i) : Nat) : Int) = z := ⟨_, rfl⟩
    have hz1 : 0 ≤ z := by omega
    have hz2 : z + l.length ≤ 16 := by omega
    rw [hz]
    clear hN hE
    delta p14_l0 p14_r10 p14_r11 p14_r12 p14_r13
    simp (disch := omega) [oLt, oLe, oLtN, oLeN, nLt, nLe, nLtN, nLeN, hic, h, e2, e3]
    exact fin _ (.tot [3] (by simp [← hz]))
  · obtain rfl : i = F.length := by omega
    have hic : ¬ (F.length : Int) < F.length := by omega
    rw [List.take_length, hFt]
    clear hN
    delta p14_l0 p14_r10 p14_r11 p14_r12 p14_r13
    simp (disch := omega) [oLt, oLe, oLtN, oLeN, nLt, nLe, nLtN, nLeN, hic]
    refine hE _ _ _ .refl ?_
    simp only [inBE, thenE, if_true]
    obtain ⟨h, hh⟩ : ∃ h, n / 2 = h := ⟨_, rfl⟩
    have hn2 : n = 2 * h := by omega
    subst hn2
    rw [show 2 * h / 2 = h by omega] at hg1
    have htd : ((2 * h : Nat) : Int).tdiv 2 = h := by
      rw [show ((2 * h : Nat) : Int) = 2 * (h : Int) by omega, Int.mul_tdiv_cancel_left _ (by decide)]
    have htd2 : (2 * (h : Int)).tdiv 2 = h := Int.mul_tdiv_cancel_left _ (by decide)
    have htd3 : (2 * (h : Int)) / 2 = h := by omega
    have heq : (L.length : Int) - h + F.length = 2 * p - 2 * g := by omega
    refine XZ_seqG (XZ_drawG ?_)
    delta p14_r14
    refine zD_cut 7 ?_ ?_ (fun K_ hK => ?_) ?_
    rotate_left 2
    · simp only [List.take_succ_cons, List.take_zero]
      simp (disch := omega) [oLt, oLe, oLtN, oLeN, nLt, nLe, nLtN, nLeN]
      exact hK
    simp only [List.drop_succ_cons, List.drop_zero]
    refine zD_cut 4 ?_ ?_ (fun K_ hK => ?_) ?_
    rotate_left 2
    · simp only [List.take_succ_cons, List.take_zero]
      simp (disch := omega) [oLt, oLe, oLtN, oLeN, nLt, nLe, nLtN, nLeN, hs, hn, htd, htd2, htd3]
      exact hK
    simp only [List.drop_succ_cons, List.drop_zero]
    refine zD_cut 9 ?_ ?_ (fun K_ hK => ?_) ?_
    rotate_left 2
    · simp only [List.take_succ_cons, List.take_zero]
      simp (disch := omega) [oLt, oLe, oLtN, oLeN, nLt, nLe, nLtN, nLeN, heq]
      exact hK
    simp only [List.drop_succ_cons, List.drop_zero]
    refine zD_cut 4 ?_ ?_ (fun K_ hK => ?_) ?_
    rotate_left 2
    · simp only [List.take_succ_cons, List.take_zero]
      simp (disch := omega) [oLt, oLe, oLtN, oLeN, nLt, nLe, nLtN, nLeN, hs, hn]
      exact hK
    simp only [List.drop_succ_cons, List.drop_zero]
    refine zD_cut 6 ?_ ?_ (fun K_ hK => ?_) ?_
    rotate_left 2
    · simp only [List.take_succ_cons, List.take_zero]
      simp (disch := omega) [oLt, oLe, oLtN, oLeN, nLt, nLe, nLtN, nLeN]
      exact hK
    simp only [List.drop_succ_cons, List.drop_zero]
    refine goD_ok (by decide) ?_
    simp (disch := omega) [oLt, oLe, oLtN, oLeN, nLt, nLe, nLtN, nLeN]
    exact hret _ _
theorem euler_runs {s : Int} {O : List Int} {g : Int} (h : gSk s O g 8 = true) : Runs Tryd.prog 14 0 [.agg (skA s O g)] (hpF []) (vB true) 0 (hpF []) := by
  have hf49 := f49_at h
  have hOl : O.length = 16 := by
    simp only [gSk, Bool.and_eq_true, decide_eq_true_eq] at h
    exact h.1.1.1.2
  have hc0 := mdL_chk s.toNat O g.toNat 8 (by omega)
  have e6 : (8 : Int).toNat = 8 := rfl
  rw [e6] at hf49
  generalize mdL s.toNat O g.toNat 8 = L at *
  have hKl := sk_len (s := s) (g := g) hOl
  have hKr : ∀ f, renL f (skA s O g) = skA s O g := fun f => by simp [skA, renL_app]
  have hKc : cloL (skA s O g) = true := by simp [skA]
  have hKt : (skA s O g).take 18 = skA s O g := List.take_of_length_le (by omega)
  generalize skA s O g = K at *
  refine P14.rzC p1014 P1014s (ss := ss14) ⟨s16_ok, s23_ok, s33_ok, s37_ok, s40_ok, s42_ok, s46_ok, s49_ok, s53_ok, s56_ok, s57_ok, s58_ok, s59_ok, trivial⟩ (by simp) fun Q hQ => ?_
  have hret : ∀ h nx, Q .ret ⟨[(2, vB true)], h, nx⟩ := fun h nx => hQ _ _ (.p (.inl rfl) (by simp) rfl)
  have rest := euler_rest hc0 (s0 := _) (Q := Q) rfl hret
  delta p1014
  refine XZ_step ?_ (fun N Q_ hN => ?_) ?_
  rotate_left
  · delta p14_r0; simp (disch := omega) [oLt, oLe, oLtN, oLeN, nLt, nLe, nLtN, nLeN, hKt]
    exact hN
  rcases mdV_or L with hm0 | ⟨hm0, rfl⟩
  · rw [hm0] at hf49
    refine XZ_stepC' ?_ ⟨[(3, .ptr 0 0)], [(0, .cells [.il (lls L) L.length false])], 1⟩ (fun N Q_ hN => ?_) ?_ rest
    rotate_left
    · delta p14_r1
      simp (disch := omega) [oLt, oLe, oLtN, oLeN, nLt, nLe, nLtN, nLeN, hf49, hKl, hKt, hKc]
      exact hN
    · exact .tot [3] (by simp)
  · rw [hm0] at hf49
    refine XZ_stepC' ?_ ⟨[(3, .ptr 0 0)], [(0, .cells [.il (lls []) 0 false])], 1⟩ (fun N Q_ hN => ?_) ?_ rest
    rotate_left
    · delta p14_r1
      simp (disch := omega) [oLt, oLe, oLtN, oLeN, nLt, nLe, nLtN, nLeN, hf49, hKl, hKt, hKc]
      exact hN
    · exact .trans (b := ⟨[(3, .ptr 0 0)], [(0, .cells [.v (.slice none 0 0)])], 1⟩) (.tot [3] (by simp)) md_weak
end Go.Sx.Ch
end
section
namespace Go.Sx.Ch
open Go Go.Sx Go.Proofs
theorem gSk_ok {s g most : Int} {O : List Int} (hl : O.length = 16) (hs : 0 ≤ s ∧ s ≤ 255) (hb : ∀ x ∈ O, 0 ≤ x ∧ x ≤ 255) (hg : 0 ≤ g ∧ g ≤ 65535) (hm : 0 ≤ most ∧ most ≤ 8) : gSk s O g most = true := by
  simp only [gSk, Bool.and_eq_true, decide_eq_true_eq, within_iff, List.all_eq_true]
  exact ⟨⟨⟨⟨hs, hl⟩, hb⟩, hg⟩, hm⟩
end Go.Sx.Ch
end
