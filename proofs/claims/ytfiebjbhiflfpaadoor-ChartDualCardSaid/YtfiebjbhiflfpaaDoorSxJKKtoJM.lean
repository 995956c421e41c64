/- ChartDual returns true. No conditions. -/
import Derived.Test.YtfiebjbhiflfpaaDoorSxJHKtoKJ
import Derived.Test.YtfiebjbhiflfpaaDoorSxPCk
import Derived.Test.YtfiebjbhiflfpaaDoorSxJJAtoKI
section
set_option linter.unusedVariables false
set_option linter.unusedSimpArgs false
set_option maxRecDepth 4000
namespace Go.Sx.Ch
open Go Go.Sx Go.Proofs
noncomputable def q11 : PCode := (.seq (.reg p11_r2 [3, 4, 5]) (.seq (.seq (.draw p11_r3 [[], [0], [1, 0], [2, 1, 0], [3, 2, 1, 0], [2, 1, 0], [5, 2, 1, 0], [4, 6, 3, 5, 2, 1, 0], [7, 4, 6, 3, 5, 2, 1, 0], [8, 7, 4, 6, 3, 5, 2, 1, 0]] [3, 4, 29]) (.cond (Operand.tmp 29) (.seq (.reg p11_r4 [2]) .ret) .skip)) (.seq (.reg p11_r5 [3, 4, 5, 6]) (.seq (.reg p11_r6 [3, 4, 5, 6, 7, 8]) (.seq (.reg p11_r7 [3, 4, 5, 6, 7, 8, 9, 10]) (.seq (.reg p11_r8 [3, 5, 6, 7, 8, 9, 10, 11, 12]) (.seq (.draw p11_r9 [[], [0], [1, 0], [2, 1, 0], [3, 2, 1, 0], [4, 3, 2, 1, 0], [5, 4, 3, 2, 1, 0], [6, 5, 4, 3, 2, 1, 0], [7, 6, 5, 4, 3, 2, 1, 0], [8, 7, 6, 5, 4, 3, 2, 1, 0], [9, 8, 7, 6, 5, 4, 3, 2, 1, 0], [10, 9, 8, 7, 6, 5, 4, 3, 2, 1, 0], [11, 10, 9, 8, 7, 6, 5, 4, 3, 2, 1, 0], [12, 11, 10, 9, 8, 7, 6, 5, 4, 3, 2, 1, 0], [13, 12, 11, 10, 9, 8, 7, 6, 5, 4, 3, 2, 1, 0], [14, 13, 12, 11, 10, 9, 8, 7, 6, 5, 4, 3, 2, 1, 0], [15, 14, 13, 12, 11, 10, 9, 8, 7, 6, 5, 4, 3, 2, 1, 0], [14, 13, 12, 11, 10, 9, 8, 7, 6, 5, 4, 3, 2, 1, 0], [17, 14, 13, 12, 11, 10, 9, 8, 7, 6, 5, 4, 3, 2, 1, 0], [16, 18, 15, 17, 14, 13, 12, 11, 10, 9, 8, 7, 6, 5, 4, 3, 2, 1, 0], [19, 16, 18, 15, 17, 14, 13, 12, 11, 10, 9, 8, 7, 6, 5, 4, 3, 2, 1, 0], [20, 19, 16, 18, 15, 17, 14, 13, 12, 11, 10, 9, 8, 7, 6, 5, 4, 3, 2, 1, 0], [21, 20, 19, 16, 18, 15, 17, 14, 13, 12, 11, 10, 9, 8, 7, 6, 5, 4, 3, 2, 1, 0], [22, 21, 20, 19, 16, 18, 15, 17, 14, 13, 12, 11, 10, 9, 8, 7, 6, 5, 4, 3, 2, 1, 0], [21, 20, 19, 16, 18, 15, 17, 14, 13, 12, 11, 10, 9, 8, 7, 6, 5, 4, 3, 2, 1, 0], [24, 21, 20, 19, 16, 18, 15, 17, 14, 13, 12, 11, 10, 9, 8, 7, 6, 5, 4, 3, 2, 1, 0], [25, 24, 21, 20, 19, 16, 18, 15, 17, 14, 13, 12, 11, 10, 9, 8, 7, 6, 5, 4, 3, 2, 1, 0], [23, 26, 22, 25, 24, 21, 20, 19, 16, 18, 15, 17, 14, 13, 12, 11, 10, 9, 8, 7, 6, 5, 4, 3, 2, 1, 0], [27, 23, 26, 22, 25, 24, 21, 20, 19, 16, 18, 15, 17, 14, 13, 12, 11, 10, 9, 8, 7, 6, 5, 4, 3, 2, 1, 0], [28, 27, 23, 26, 22, 25, 24, 21, 20, 19, 16, 18, 15, 17, 14, 13, 12, 11, 10, 9, 8, 7, 6, 5, 4, 3, 2, 1, 0], [29, 28, 27, 23, 26, 22, 25, 24, 21, 20, 19, 16, 18, 15, 17, 14, 13, 12, 11, 10, 9, 8, 7, 6, 5, 4, 3, 2, 1, 0], [29, 28, 27, 23, 26, 22, 25, 24, 21, 20, 19, 16, 18, 15, 17, 14, 13, 12, 11, 10, 9, 8, 7, 6, 5, 4, 3, 2, 1, 0], [31, 29, 28, 27, 23, 26, 22, 25, 24, 21, 20, 19, 16, 18, 15, 17, 14, 13, 12, 11, 10, 9, 8, 7, 6, 5, 4, 3, 2, 1, 0], [30, 32, 31, 29, 28, 27, 23, 26, 22, 25, 24, 21, 20, 19, 16, 18, 15, 17, 14, 13, 12, 11, 10, 9, 8, 7, 6, 5, 4, 3, 2, 1, 0], [33, 30, 32, 31, 29, 28, 27, 23, 26, 22, 25, 24, 21, 20, 19, 16, 18, 15, 17, 14, 13, 12, 11, 10, 9, 8, 7, 6, 5, 4, 3, 2, 1, 0], [34, 33, 30, 32, 31, 29, 28, 27, 23, 26, 22, 25, 24, 21, 20, 19, 16, 18, 15, 17, 14, 13, 12, 11, 10, 9, 8, 7, 6, 5, 4, 3, 2, 1, 0], [35, 34, 33, 30, 32, 31, 29, 28, 27, 23, 26, 22, 25, 24, 21, 20, 19, 16, 18, 15, 17, 14, 13, 12, 11, 10, 9, 8, 7, 6, 5, 4, 3, 2, 1, 0], [35, 34, 33, 30, 32, 31, 29, 28, 27, 23, 26, 22, 25, 24, 21, 20, 19, 16, 18, 15, 17, 14, 13, 12, 11, 10, 9, 8, 7, 6, 5, 4, 3, 2, 1, 0], [37, 35, 34, 33, 30, 32, 31, 29, 28, 27, 23, 26, 22, 25, 24, 21, 20, 19, 16, 18, 15, 17, 14, 13, 12, 11, 10, 9, 8, 7, 6, 5, 4, 3, 2, 1, 0], [36, 38, 37, 35, 34, 33, 30, 32, 31, 29, 28, 27, 23, 26, 22, 25, 24, 21, 20, 19, 16, 18, 15, 17, 14, 13, 12, 11, 10, 9, 8, 7, 6, 5, 4, 3, 2, 1, 0], [39, 36, 38, 37, 35, 34, 33, 30, 32, 31, 29, 28, 27, 23, 26, 22, 25, 24, 21, 20, 19, 16, 18, 15, 17, 14, 13, 12, 11, 10, 9, 8, 7, 6, 5, 4, 3, 2, 1, 0], [40, 39, 36, 38, 37, 35, 34, 33, 30, 32, 31, 29, 28, 27, 23, 26, 22, 25, 24, 21, 20, 19, 16, 18, 15, 17, 14, 13, 12, 11, 10, 9, 8, 7, 6, 5, 4, 3, 2, 1, 0], [41, 40, 39, 36, 38, 37, 35, 34, 33, 30, 32, 31, 29, 28, 27, 23, 26, 22, 25, 24, 21, 20, 19, 16, 18, 15, 17, 14, 13, 12, 11, 10, 9, 8, 7, 6, 5, 4, 3, 2, 1, 0], [42, 41, 40, 39, 36, 38, 37, 35, 34, 33, 30, 32, 31, 29, 28, 27, 23, 26, 22, 25, 24, 21, 20, 19, 16, 18, 15, 17, 14, 13, 12, 11, 10, 9, 8, 7, 6, 5, 4, 3, 2, 1, 0], [43, 42, 41, 40, 39, 36, 38, 37, 35, 34, 33, 30, 32, 31, 29, 28, 27, 23, 26, 22, 25, 24, 21, 20, 19, 16, 18, 15, 17, 14, 13, 12, 11, 10, 9, 8, 7, 6, 5, 4, 3, 2, 1, 0]] [2]) .ret)))))))
noncomputable def p1011 : PCode := .seq (.reg p11_r0 [1]) (.seqC (.reg p11_r1 [3]) q11)
theorem P1011s : strip p1011 = p11 := by kernel_rfl
noncomputable abbrev ss11 : List Sp := [s16, s17, s23, s33, s37, s46, s49, s53, s56, s57, s58]
set_option maxHeartbeats 8000000
theorem dual_rest {L : List (List Int)} (hc : chk L = 0) {s0 : ST} {Q : Exit → ST → Prop} (hs0 : s0 = ⟨[(3, .ptr 0 0)], [(0, .cells [.il (lls L) L.length false])], 1⟩) (hret : ∀ h nx, Q .ret ⟨[(2, vB true)], h, nx⟩) : XZ (rZ (spc ss11)) 0 q11 s0 Q := by
  subst hs0
  obtain ⟨hs, hg⟩ := gd_of hc
  obtain ⟨hcD, -, -⟩ := face_map hc
  obtain ⟨hsD, hgD⟩ := gd_of hcD
  have g1 := g33_ok hs
  have g2 := g33_ok hsD
  have v1 := dualV_of hc
  have v2 := dualV_of hcD
  have v3 := facV_of hcD
  have v4 := partV_of hcD
  have v5 := genV_of hcD
  rw [face_face hc] at v2 v3
  rw [part_face hc] at v4
  rw [gen_face hc] at v5
  have sF := face_small (L := L)
  have sT := tid_small hc
  have hTl := tid_len hc
  obtain ⟨-, -, -, hP, -⟩ := tab_pts hc
  obtain ⟨T, hT⟩ : ∃ T, tidL L = T := ⟨_, rfl⟩
  obtain ⟨D, hD⟩ : ∃ D, faceL L = D := ⟨_, rfl⟩
  rw [hT] at v2 v3 sT hTl
  rw [hD] at v1 v2 v3 v4 v5 sF hcD hsD hgD g2
  obtain ⟨p, hp⟩ : ∃ p, partR L = p := ⟨_, rfl⟩
  obtain ⟨g, hgn⟩ : ∃ g, genN L = g := ⟨_, rfl⟩
  rw [hp] at v4
  rw [hgn] at v5
  have sT2 : T.all small = true := by rw [Bool.and_eq_true] at sT; exact sT.2
  delta q11
  refine XZ_step ?_ (fun N Q_ hN => ?_) ?_
  rotate_left
  · delta p11_r2; simp (disch := omega) [oLt, oLe, oLtN, oLeN, nLt, nLe, nLtN, nLeN, g1, v1]
    exact hN
  refine XZ_step ?_ (fun N Q_ hN => ?_) ?_
  rotate_left
  · refine XZ_seqG (XZ_drawG ?_)
    delta p11_r3
    refine zD_cut 3 ?_ ?_ (fun K_ hK => ?_) ?_
    rotate_left 2
    · simp only [List.take_succ_cons, List.take_zero]
      simp (disch := omega) [oLt, oLe, oLtN, oLeN, nLt, nLe, nLtN, nLeN]
      exact hK
    simp only [List.drop_succ_cons, List.drop_zero]
    refine zD_cut 3 ?_ ?_ (fun K_ hK => ?_) ?_
    rotate_left 2
    · simp only [List.take_succ_cons, List.take_zero]
      simp (disch := omega) [oLt, oLe, oLtN, oLeN, nLt, nLe, nLtN, nLeN]
      exact hK
    simp only [List.drop_succ_cons, List.drop_zero]
    refine zD_cut 1 ?_ ?_ (fun K_ hK => ?_) ?_
    rotate_left 2
    · simp only [List.take_succ_cons, List.take_zero]
      simp (disch := omega) [oLt, oLe, oLtN, oLeN, nLt, nLe, nLtN, nLeN, hg, hD]
      exact hK
    simp only [List.drop_succ_cons, List.drop_zero]
    refine zD_cut 1 ?_ ?_ (fun K_ hK => ?_) ?_
    rotate_left 2
    · simp only [List.take_succ_cons, List.take_zero]
      simp (disch := omega) [oLt, oLe, oLtN, oLeN, nLt, nLe, nLtN, nLeN, sF, hD]
      exact hK
    simp only [List.drop_succ_cons, List.drop_zero]
    refine zD_cut 2 ?_ ?_ (fun K_ hK => ?_) ?_
    rotate_left 2
    · simp only [List.take_succ_cons, List.take_zero]
      simp (disch := omega) [oLt, oLe, oLtN, oLeN, nLt, nLe, nLtN, nLeN]
      exact hK
    simp only [List.drop_succ_cons, List.drop_zero]
    refine goD_ok (by decide) ?_
    simp (disch := omega) [oLt, oLe, oLtN, oLeN, nLt, nLe, nLtN, nLeN]
    exact hN
  refine XZ_step ?_ (fun N Q_ hN => ?_) ?_
  rotate_left
  · delta p11_r5; simp (disch := omega) [oLt, oLe, oLtN, oLeN, nLt, nLe, nLtN, nLeN, g2, v2]
    exact hN
  refine XZ_step ?_ (fun N Q_ hN => ?_) ?_
  rotate_left
  · delta p11_r6; simp (disch := omega) [oLt, oLe, oLtN, oLeN, nLt, nLe, nLtN, nLeN, g2, v3]
    exact hN
  refine XZ_step ?_ (fun N Q_ hN => ?_) ?_
  rotate_left
  · delta p11_r7; simp (disch := omega) [oLt, oLe, oLtN, oLeN, nLt, nLe, nLtN, nLeN, hsD, v4, hcD]
    exact hN
  refine XZ_step ?_ (fun N Q_ hN => ?_) ?_
  rotate_left
  · delta p11_r8; simp (disch := omega) [oLt, oLe, oLtN, oLeN, nLt, nLe, nLtN, nLeN, hsD, v5, hcD]
    exact hN
  refine XZ_seqG (XZ_drawG ?_)
  delta p11_r9
  refine zD_cut 8 ?_ ?_ (fun K_ hK => ?_) ?_
  rotate_left 2
  · simp only [List.take_succ_cons, List.take_zero]
    simp (disch := omega) [oLt, oLe, oLtN, oLeN, nLt, nLe, nLtN, nLeN]
    exact hK
  simp only [List.drop_succ_cons, List.drop_zero]
  refine zD_cut 8 ?_ ?_ (fun K_ hK => ?_) ?_
  rotate_left 2
  · simp only [List.take_succ_cons, List.take_zero]
    simp (disch := omega) [oLt, oLe, oLtN, oLeN, nLt, nLe, nLtN, nLeN]
    exact hK
  simp only [List.drop_succ_cons, List.drop_zero]
  refine zD_cut 3 ?_ ?_ (fun K_ hK => ?_) ?_
  rotate_left 2
  · simp only [List.take_succ_cons, List.take_zero]
    simp (disch := omega) [oLt, oLe, oLtN, oLeN, nLt, nLe, nLtN, nLeN, hg, hT]
    exact hK
  simp only [List.drop_succ_cons, List.drop_zero]
  refine zD_cut 2 ?_ ?_ (fun K_ hK => ?_) ?_
  rotate_left 2
  · simp only [List.take_succ_cons, List.take_zero]
    simp (disch := omega) [oLt, oLe, oLtN, oLeN, nLt, nLe, nLtN, nLeN, sT, sT2, hTl, hT]
    exact hK
  simp only [List.drop_succ_cons, List.drop_zero]
  refine zD_cut 8 ?_ ?_ (fun K_ hK => ?_) ?_
  rotate_left 2
  · simp only [List.take_succ_cons, List.take_zero]
    simp (disch := omega) [oLt, oLe, oLtN, oLeN, nLt, nLe, nLtN, nLeN, hTl]
    exact hK
  simp only [List.drop_succ_cons, List.drop_zero]
  refine zD_cut 3 ?_ ?_ (fun K_ hK => ?_) ?_
  rotate_left 2
  · simp only [List.take_succ_cons, List.take_zero]
    simp (disch := omega) [oLt, oLe, oLtN, oLeN, nLt, nLe, nLtN, nLeN]
    exact hK
  simp only [List.drop_succ_cons, List.drop_zero]
  refine zD_cut 5 ?_ ?_ (fun K_ hK => ?_) ?_
  rotate_left 2
  · simp only [List.take_succ_cons, List.take_zero]
    simp (disch := omega) [oLt, oLe, oLtN, oLeN, nLt, nLe, nLtN, nLeN, hg, hp]
    exact hK
  simp only [List.drop_succ_cons, List.drop_zero]
  refine zD_cut 2 ?_ ?_ (fun K_ hK => ?_) ?_
  rotate_left 2
  · simp only [List.take_succ_cons, List.take_zero]
    simp (disch := omega) [oLt, oLe, oLtN, oLeN, nLt, nLe, nLtN, nLeN, hg, hgn]
    exact hK
  simp only [List.drop_succ_cons, List.drop_zero]
  refine zD_cut 5 ?_ ?_ (fun K_ hK => ?_) ?_
  rotate_left 2
  · simp only [List.take_succ_cons, List.take_zero]
    simp (disch := omega) [oLt, oLe, oLtN, oLeN, nLt, nLe, nLtN, nLeN]
    exact hK
  simp only [List.drop_succ_cons, List.drop_zero]
  refine zD_cut 1 ?_ ?_ (fun K_ hK => ?_) ?_
  rotate_left 2
  · simp only [List.take_succ_cons, List.take_zero]
    simp (disch := omega) [oLt, oLe, oLtN, oLeN, nLt, nLe, nLtN, nLeN]
    exact hK
  simp only [List.drop_succ_cons, List.drop_zero]
  refine goD_ok (by decide) ?_
  simp (disch := omega) [oLt, oLe, oLtN, oLeN, nLt, nLe, nLtN, nLeN]
  exact hret _ _
theorem dual_runs {s : Int} {O : List Int} {g : Int} (h : gSk s O g 8 = true) : Runs Tryd.prog 11 0 [.agg (skA s O g)] (hpF []) (vB true) 0 (hpF []) := by
  have hf49 := f49_at h
  have hOl : O.length = 16 := by
    simp only [gSk, Bool.and_eq_true, decide_eq_true_eq] at h
    exact h.1.1.1.2
  have hc0 := mdL_chk s.toNat O g.toNat 8 (by omega)
  have e6 : (8 : Int).toNat = 8 := rfl
  rw [e6] at hf49
  generalize mdL s.toNat O g.toNat 8 = L at *
  have hKl := sk_len (s := s) (g := g) hOl
  have hKr : ∀ f, renL f (skA s O g) = skA s O g := fun f => by simp [skA, renL_app]
  have hKc : cloL (skA s O g) = true := by simp [skA]
  have hKt : (skA s O g).take 18 = skA s O g := List.take_of_length_le (by omega)
  generalize skA s O g = K at *
  refine P11.rzC p1011 P1011s (ss := ss11) ⟨s16_ok, s17_ok, s23_ok, s33_ok, s37_ok, s46_ok, s49_ok, s53_ok, s56_ok, s57_ok, s58_ok, trivial⟩ (by simp) fun Q hQ => ?_
  have hret : ∀ h nx, Q .ret ⟨[(2, vB true)], h, nx⟩ := fun h nx => hQ _ _ (.p (.inl rfl) (by simp) rfl)
  have rest := dual_rest hc0 (s0 := _) (Q := Q) rfl hret
  delta p1011
  refine XZ_step ?_ (fun N Q_ hN => ?_) ?_
  rotate_left
  · delta p11_r0; simp (disch := omega) [oLt, oLe, oLtN, oLeN, nLt, nLe, nLtN, nLeN, hKt]
    exact hN
  rcases mdV_or L with hm0 | ⟨hm0, rfl⟩
  · rw [hm0] at hf49
    refine XZ_stepC' ?_ ⟨[(3, .ptr 0 0)], [(0, .cells [.il (lls L) L.length false])], 1⟩ (fun N Q_ hN => ?_) ?_ rest
    rotate_left
    · delta p11_r1
      simp (disch := omega) [oLt, oLe, oLtN, oLeN, nLt, nLe, nLtN, nLeN, hf49, hKl, hKt, hKc]
      exact hN
    · exact .tot [3] (by simp)
  · rw [hm0] at hf49
    refine XZ_stepC' ?_ ⟨[(3, .ptr 0 0)], [(0, .cells [.il (lls []) 0 false])], 1⟩ (fun N Q_ hN => ?_) ?_ rest
    rotate_left
    · delta p11_r1
      simp (disch := omega) [oLt, oLe, oLtN, oLeN, nLt, nLe, nLtN, nLeN, hf49, hKl, hKt, hKc]
      exact hN
    · exact .trans (b := ⟨[(3, .ptr 0 0)], [(0, .cells [.v (.slice none 0 0)])], 1⟩) (.tot [3] (by simp)) md_weak
end Go.Sx.Ch
end
section
namespace Go.Sx.Ch
open Go Go.Sx Go.Proofs
theorem gSk_ok {s g most : Int} {O : List Int} (hl : O.length = 16) (hs : 0 ≤ s ∧ s ≤ 255) (hb : ∀ x ∈ O, 0 ≤ x ∧ x ≤ 255) (hg : 0 ≤ g ∧ g ≤ 65535) (hm : 0 ≤ most ∧ most ≤ 8) : gSk s O g most = true := by
  simp only [gSk, Bool.and_eq_true, decide_eq_true_eq, within_iff, List.all_eq_true]
  exact ⟨⟨⟨⟨hs, hl⟩, hb⟩, hg⟩, hm⟩
end Go.Sx.Ch
end
