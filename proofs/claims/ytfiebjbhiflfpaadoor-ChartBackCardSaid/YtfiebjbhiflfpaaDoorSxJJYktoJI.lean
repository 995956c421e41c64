/- What functions of the library return: slices.pdqsortCmpFunc, from the parting on. No conditions. Printed by gen/mkPdq.py. -/
import Derived.Test.YtfiebjbhiflfpaaDoorSxJJYhtoJYj
import Derived.Test.YtfiebjbhiflfpaaDoorSxJJAtoKI
set_option linter.unusedVariables false
set_option linter.unusedSimpArgs false
set_option maxRecDepth 4000
namespace Go.Sx.Ch
open Go Go.Sx Go.Proofs
section
attribute [local simp] evCall reach idsB idsL ids inA Go.Sx.inL Go.Sx.inM inB allHp enumH gl renB
theorem rg1 : List.range 1 = [0] := rfl
set_option maxHeartbeats 8000000
def anc17 : List (List Nat) := [[], [0], [1, 0], [2, 1, 0], [2, 1, 0], [2, 1, 0], [5, 2, 1, 0], [4, 6, 5, 2, 1, 0], [7, 4, 6, 5, 2, 1, 0], [2, 1, 0], [2, 1, 0], [9, 10, 2, 1, 0], [11, 9, 10, 2, 1, 0], [3, 8, 12, 7, 4, 6, 5, 11, 9, 10, 2, 1, 0], [13, 3, 8, 12, 7, 4, 6, 5, 11, 9, 10, 2, 1, 0], [14, 13, 3, 8, 12, 7, 4, 6, 5, 11, 9, 10, 2, 1, 0], [15, 14, 13, 3, 8, 12, 7, 4, 6, 5, 11, 9, 10, 2, 1, 0]]
theorem XZ_condF {R : Rsv} {k0 : Nat} {c : Operand} {a : PCode} {e : List (Nat × AV)} {h : HL} {n : Nat} {Q : Exit → ST → Prop} (hc : evalA (enF e) c = .v (.bool false)) (hQ : Q .normal ⟨e, h, n⟩) : XZ R k0 (.cond c a .skip) ⟨e, h, n⟩ Q := by
  rw [XZ_cond, hc]; exact hQ
variable {cf : Nat} (hcm : cmpN cf = true)
include hcm
theorem d17_75 {n a b lim0 lim pv : Nat} {f : Nat} {wb wp : Bool} {M : List (List Int)} {nx0 : Nat} {Q : Exit → ST → Prop} (hP : Pd n a b lim0 M) (hp : a ≤ pv ∧ pv < b)
    (hK : ∀ nx, Q .normal ⟨[(0, .ref 0 0 n 1 none), (1, vI a), (2, vI b), (3, vI lim), (4, (fnC cf)), (10, vB wb), (11, vB wp), (12, vI (b - a : Nat)), (13, vI pv), (97, .v (.bool false))], [(0, .cells (lls M))], nx⟩) : zD (rZ (spc (ss94 f cf))) (goD anc17 [0, 1, 2, 3, 4, 10, 11, 12, 13, 97] Q) p94_r17 [] ⟨[(0, .ref 0 0 n 1 none), (1, vI a), (2, vI b), (3, vI lim), (4, (fnC cf)), (10, vB wb), (11, vB wp), (12, vI (b - a : Nat)), (13, vI pv), (75, .v (.bool false))], [(0, .cells (lls M))], nx0⟩ := by
  have h64 : n ≤ 64 := by have h := hP.g; have h2 := hP.nl; simp only [gM, Bool.and_eq_true, decide_eq_true_eq] at h; omega
  have hbn := hP.bn
  have hg := hP.g
  have hnl := hP.nl
  obtain ⟨ly, v, ly1, ly2, ly3, ly4, ly5, ly6, ly7, ly8⟩ := gM_at hg (i := pv) (by omega)
  have ly2' := (List.getElem?_eq_some_iff.1 ly2).2
  have y1 : (pv : Int) < n := by omega
  have y2 : pv < n := by omega
  have hll : (lls M).length = n := by simp [hnl]
  obtain ⟨l, hl⟩ : ∃ l, b - a = l := ⟨_, rfl⟩
  rw [hl] at hK ⊢
  delta p94_r17
  rcases a with _ | a
  · skip
    refine zD_cut 3 ?_ ?_ (fun K_ hK => ?_) ?_
    rotate_left 2
    · simp only [List.take_succ_cons, List.take_zero]
      simp (disch := omega) [oLt, oLe, oLtN, oLeN, nLt, nLe, nLtN, nLeN]
      exact hK
    simp only [List.drop_succ_cons, List.drop_zero]
    refine zD_cut 10 ?_ ?_ (fun K_ hK => ?_) ?_
    rotate_left 2
    · simp only [List.take_succ_cons, List.take_zero]
      simp (disch := omega) [oLt, oLe, oLtN, oLeN, nLt, nLe, nLtN, nLeN]
      exact hK
    simp only [List.drop_succ_cons, List.drop_zero]
    refine zD_cut 4 ?_ ?_ (fun K_ hK => ?_) ?_
    rotate_left 2
    · simp only [List.take_succ_cons, List.take_zero]
      simp (disch := omega) [oLt, oLe, oLtN, oLeN, nLt, nLe, nLtN, nLeN]
      exact hK
    simp only [List.drop_succ_cons, List.drop_zero]
    refine goD_ok (by decide) ?_
    simp (disch := omega) [oLt, oLe, oLtN, oLeN, nLt, nLe, nLtN, nLeN]
    exact hK _
  · obtain ⟨lx, u, lx1, lx2, lx3, lx4, lx5, lx6, lx7, lx8⟩ := gM_at hg (i := a) (by omega)
    have lx2' := (List.getElem?_eq_some_iff.1 lx2).2
    have x1 : (a : Int) < n := by omega
    have x2 : a < n := by omega
    have hlw := hP.lw (by omega) pv hp.1 hp.2
    rw [Nat.add_sub_cancel, lx4, ly4] at hlw
    have hdf : u - v < 0 := by omega
    have hac : (0 : Int) < (a : Int) + 1 := by omega
    refine zD_cut 3 ?_ ?_ (fun K_ hK => ?_) ?_
    rotate_left 2
    · simp only [List.take_succ_cons, List.take_zero]
      simp (disch := omega) [oLt, oLe, oLtN, oLeN, nLt, nLe, nLtN, nLeN, hac]
      exact hK
    simp only [List.drop_succ_cons, List.drop_zero]
    refine zD_cut 6 ?_ ?_ (fun K_ hK => ?_) ?_
    rotate_left 2
    · simp only [List.take_succ_cons, List.take_zero]
      simp (disch := omega) [oLt, oLe, oLtN, oLeN, nLt, nLe, nLtN, nLeN, x1, x2, lx2, lx2', hll]
      exact hK
    simp only [List.drop_succ_cons, List.drop_zero]
    refine zD_cut 4 ?_ ?_ (fun K_ hK => ?_) ?_
    rotate_left 2
    · simp only [List.take_succ_cons, List.take_zero]
      simp (disch := omega) [oLt, oLe, oLtN, oLeN, nLt, nLe, nLtN, nLeN, y1, y2, ly2, ly2', hll]
      exact hK
    simp only [List.drop_succ_cons, List.drop_zero]
    refine zD_cut 1 ?_ ?_ (fun K_ hK => ?_) ?_
    rotate_left 2
    · simp only [List.take_succ_cons, List.take_zero]
      simp (disch := omega) [oLt, oLe, oLtN, oLeN, nLt, nLe, nLtN, nLeN, lx3, ly3, lx6, ly6, cmp_94 hcm, cmp_104 hcm, cmp_106 hcm, cmp_107 hcm, cmp_109 hcm, cmp_111 hcm]
      exact hK
    simp only [List.drop_succ_cons, List.drop_zero]
    refine zD_cut 3 ?_ ?_ (fun K_ hK => ?_) ?_
    rotate_left 2
    · simp only [List.take_succ_cons, List.take_zero]
      simp (disch := omega) [oLt, oLe, oLtN, oLeN, nLt, nLe, nLtN, nLeN, hdf]
      exact hK
    simp only [List.drop_succ_cons, List.drop_zero]
    refine goD_ok (by decide) ?_
    simp (disch := omega) [oLt, oLe, oLtN, oLeN, nLt, nLe, nLtN, nLeN]
    exact hK _
theorem r17_75 {f n a b lim0 lim pv : Nat} {wb wp : Bool} {M T : List (List Int)} {nx0 : Nat} {Q : Exit → ST → Prop} (hP : Pd n a b lim0 M) (hp : a ≤ pv ∧ pv < b) (h12 : a + 12 < b) (hf : b ≤ a + f) (hT : srtOn a b M = T) (hli : b ≤ a + 13 + lim) (hlm : lim ≤ 60)
    (hN : ∀ (a' b' : Nat) (wb' wp' : Bool) (N : List (List Int)), b' - a' < b - a → Pd n a' b' lim N → b' ≤ a' + 15 → srtOn a' b' N = T → ∀ s', ChgT 1 s' ⟨[(0, .ref 0 0 n 1 none), (1, vI a'), (2, vI b'), (3, vI lim), (4, (fnC cf)), (10, vB wb'), (11, vB wp')], [(0, .cells (lls N))], 1⟩ → Q .normal s') :
    XZ (rZ (spc (ss94 f cf))) 1 (.seq (.seq (.draw p94_r17 [[], [0], [1, 0], [2, 1, 0], [2, 1, 0], [2, 1, 0], [5, 2, 1, 0], [4, 6, 5, 2, 1, 0], [7, 4, 6, 5, 2, 1, 0], [2, 1, 0], [2, 1, 0], [9, 10, 2, 1, 0], [11, 9, 10, 2, 1, 0], [3, 8, 12, 7, 4, 6, 5, 11, 9, 10, 2, 1, 0], [13, 3, 8, 12, 7, 4, 6, 5, 11, 9, 10, 2, 1, 0], [14, 13, 3, 8, 12, 7, 4, 6, 5, 11, 9, 10, 2, 1, 0], [15, 14, 13, 3, 8, 12, 7, 4, 6, 5, 11, 9, 10, 2, 1, 0]] [0, 1, 2, 3, 4, 10, 11, 12, 13, 97]) (.cond (Operand.tmp 97) (.seq (.reg p94_r18 [0, 2, 3, 4, 10, 11, 15]) (.seq (.reg p94_r19 [0, 1, 2, 3, 4, 10, 11]) (.exit 1))) .skip)) (.seq (.reg p94_r20 [0, 1, 2, 3, 4, 12, 16, 17]) (.seq (.reg p94_r21 [0, 1, 2, 3, 4, 11, 12, 16]) (.seq (.reg p94_r22 [0, 1, 2, 3, 4, 11, 12, 16, 18, 19]) (.seq (.reg p94_r23 [0, 1, 2, 3, 4, 11, 16, 18, 19, 20]) (.seq (.reg p94_r24 [0, 1, 2, 3, 4, 11, 16, 18, 19, 20, 125]) (.cond (Operand.tmp 125) (.seq (.reg p94_r25 [0, 1, 2, 3, 4, 10, 11, 16]) (.seq (.reg p94_r26 [0, 2, 3, 4, 10, 11, 16]) (.reg p94_r27 [0, 1, 2, 3, 4, 10, 11]))) (.seq (.reg p94_r28 [0, 1, 2, 3, 4, 10, 11, 16]) (.seq (.reg p94_r29 [0, 1, 3, 4, 10, 11, 16]) (.reg p94_r30 [0, 1, 2, 3, 4, 10, 11])))))))))) ⟨[(0, .ref 0 0 n 1 none), (1, vI a), (2, vI b), (3, vI lim), (4, (fnC cf)), (10, vB wb), (11, vB wp), (12, vI (b - a : Nat)), (13, vI pv), (75, .v (.bool false))], [(0, .cells (lls M))], nx0⟩ Q := by
  have h64 : n ≤ 64 := by have h := hP.g; have h2 := hP.nl; simp only [gM, Bool.and_eq_true, decide_eq_true_eq] at h; omega
  have hbn := hP.bn
  have hg := hP.g
  have hnl := hP.nl
  obtain ⟨q1, q2, pA, pB, pC, pD, e1, e2⟩ := hP.parts (lim' := lim) h12 hp hli hlm
  have hMt : M.take n = M := List.take_of_length_le (by omega)
  have k111 := f111_at hcm (n := n) (a := a) (b := b) (pv := pv) hnl.symm hg (by omega) hbn hp.1 hp.2
  refine XZ_seqG (XZ_seqG (XZ_drawG ?_))
  refine d17_75 hcm (f := f) hP hp fun nx => ?_
  simp only [thenE]
  refine XZ_condF (by simp) ?_
  simp only [thenE]
  generalize (parF a b pv M).2.1 = m at *
  generalize (parF a b pv M).2.2 = ap at *
  generalize (parF a b pv M).1 = K at *
  have hKn := pA.nl
  have hKt : K.take n = K := List.take_of_length_le (by omega)
  have hla : (b : Int) - a = ((b - a : Nat) : Int) := by omega
  have hlm1 : (m : Int) - a = ((m - a : Nat) : Int) := by omega
  have hlm2 : (b : Int) - m = ((b - m : Nat) : Int) := by omega
  have hl8 : ((b - a : Nat) : Int) / 8 = (((b - a) / 8 : Nat) : Int) := by omega
  have k94a := f94_at hcm (f := f) pA (by omega)
  have k94b := f94_at hcm (f := f) pC (by omega)
  have hm1c : (m : Int) + 1 = ((m + 1 : Nat) : Int) := by omega
  obtain ⟨w8, hw8⟩ : ∃ w, (b - a) / 8 = w := ⟨_, rfl⟩
  rw [hw8] at hl8
  have hw64 : w8 ≤ 64 := by omega
  obtain ⟨lA, hlA⟩ : ∃ w, m - a = w := ⟨_, rfl⟩
  obtain ⟨lB, hlB⟩ : ∃ w, b - m = w := ⟨_, rfl⟩
  rw [hlA] at hlm1
  rw [hlB] at hlm2
  refine XZ_step ?_ (fun N Q_ hN => ?_) ?_
  rotate_left
  · delta p94_r20; simp (disch := omega) [oLt, oLe, oLtN, oLeN, nLt, nLe, nLtN, nLeN, k111, f111_fz, rg1, hnl, hMt]
    exact hN
  refine XZ_step ?_ (fun N Q_ hN => ?_) ?_
  rotate_left
  · delta p94_r21; simp (disch := omega) [oLt, oLe, oLtN, oLeN, nLt, nLe, nLtN, nLeN]
    exact hN
  refine XZ_step ?_ (fun N Q_ hN => ?_) ?_
  rotate_left
  · delta p94_r22; simp (disch := omega) [oLt, oLe, oLtN, oLeN, nLt, nLe, nLtN, nLeN, hlm1, hlm2]
    exact hN
  refine XZ_step ?_ (fun N Q_ hN => ?_) ?_
  rotate_left
  · delta p94_r23; simp (disch := omega) [oLt, oLe, oLtN, oLeN, nLt, nLe, nLtN, nLeN, hl8]
    exact hN
  have hl6 := hP.l6
  have k94c := k94b
  rw [show ((m + 1 : Nat) : Int) = (m : Int) + 1 by omega] at k94c
  refine XZ_seqG ?_
  delta p94_r24
  by_cases hlt : lA < lB
  · have hlc : (lA : Int) < lB := by omega
    simp (disch := omega) [oLt, oLe, oLtN, oLeN, nLt, nLe, nLtN, nLeN, hlc]
    delta p94_r25
    by_cases hb8 : lA < w8
    · have hbc : (lA : Int) < w8 := by omega
      simp (disch := omega) [oLt, oLe, oLtN, oLeN, nLt, nLe, nLtN, nLeN, hbc]
      delta p94_r26
      simp (disch := omega) [oLt, oLe, oLtN, oLeN, nLt, nLe, nLtN, nLeN, k94a, f94_fz, rg1, hKn, hKt]
      delta p94_r27
      simp (disch := omega) [oLt, oLe, oLtN, oLeN, nLt, nLe, nLtN, nLeN]
      exact hN (m + 1) b false ap (srtOn a m K) (by omega) pB (by omega) (by rw [e1, hT]) _ (.tot [] (by simp))
    · have hbc : ¬ (lA : Int) < w8 := by omega
      simp (disch := omega) [oLt, oLe, oLtN, oLeN, nLt, nLe, nLtN, nLeN, hbc]
      delta p94_r26
      simp (disch := omega) [oLt, oLe, oLtN, oLeN, nLt, nLe, nLtN, nLeN, k94a, f94_fz, rg1, hKn, hKt]
      delta p94_r27
      simp (disch := omega) [oLt, oLe, oLtN, oLeN, nLt, nLe, nLtN, nLeN]
      exact hN (m + 1) b true ap (srtOn a m K) (by omega) pB (by omega) (by rw [e1, hT]) _ (.tot [] (by simp))
  · have hlc : ¬ (lA : Int) < lB := by omega
    simp (disch := omega) [oLt, oLe, oLtN, oLeN, nLt, nLe, nLtN, nLeN, hlc]
    delta p94_r28
    by_cases hb8 : lB < w8
    · have hbc : (lB : Int) < w8 := by omega
      simp (disch := omega) [oLt, oLe, oLtN, oLeN, nLt, nLe, nLtN, nLeN, hbc]
      delta p94_r29
      simp (disch := omega) [oLt, oLe, oLtN, oLeN, nLt, nLe, nLtN, nLeN, k94c, f94_fz, rg1, hKn, hKt]
      delta p94_r30
      simp (disch := omega) [oLt, oLe, oLtN, oLeN, nLt, nLe, nLtN, nLeN]
      exact hN a m false ap (srtOn (m + 1) b K) (by omega) pD (by omega) (by rw [e2, hT]) _ (.tot [] (by simp))
    · have hbc : ¬ (lB : Int) < w8 := by omega
      simp (disch := omega) [oLt, oLe, oLtN, oLeN, nLt, nLe, nLtN, nLeN, hbc]
      delta p94_r29
      simp (disch := omega) [oLt, oLe, oLtN, oLeN, nLt, nLe, nLtN, nLeN, k94c, f94_fz, rg1, hKn, hKt]
      delta p94_r30
      simp (disch := omega) [oLt, oLe, oLtN, oLeN, nLt, nLe, nLtN, nLeN]
      exact hN a m true ap (srtOn (m + 1) b K) (by omega) pD (by omega) (by rw [e2, hT]) _ (.tot [] (by simp))
theorem d17_80 {n a b lim0 lim pv : Nat} {f : Nat} {wb wp : Bool} {M : List (List Int)} {nx0 : Nat} {Q : Exit → ST → Prop} (hP : Pd n a b lim0 M) (hp : a ≤ pv ∧ pv < b)
    (hK : ∀ nx, Q .normal ⟨[(0, .ref 0 0 n 1 none), (1, vI a), (2, vI b), (3, vI lim), (4, (fnC cf)), (10, vB wb), (11, vB wp), (12, vI (b - a : Nat)), (13, vI pv), (97, .v (.bool false))], [(0, .cells (lls M))], nx⟩) : zD (rZ (spc (ss94 f cf))) (goD anc17 [0, 1, 2, 3, 4, 10, 11, 12, 13, 97] Q) p94_r17 [] ⟨[(0, .ref 0 0 n 1 none), (1, vI a), (2, vI b), (3, vI lim), (4, (fnC cf)), (10, vB wb), (11, vB wp), (12, vI (b - a : Nat)), (13, vI pv), (80, .v (.bool false))], [(0, .cells (lls M))], nx0⟩ := by
  have h64 : n ≤ 64 := by have h := hP.g; have h2 := hP.nl; simp only [gM, Bool.and_eq_true, decide_eq_true_eq] at h; omega
  have hbn := hP.bn
  have hg := hP.g
  have hnl := hP.nl
  obtain ⟨ly, v, ly1, ly2, ly3, ly4, ly5, ly6, ly7, ly8⟩ := gM_at hg (i := pv) (by omega)
  have ly2' := (List.getElem?_eq_some_iff.1 ly2).2
  have y1 : (pv : Int) < n := by omega
  have y2 : pv < n := by omega
  have hll : (lls M).length = n := by simp [hnl]
  obtain ⟨l, hl⟩ : ∃ l, b - a = l := ⟨_, rfl⟩
  rw [hl] at hK ⊢
  delta p94_r17
  rcases a with _ | a
  · skip
    refine zD_cut 3 ?_ ?_ (fun K_ hK => ?_) ?_
    rotate_left 2
    · simp only [List.take_succ_cons, List.take_zero]
      simp (disch := omega) [oLt, oLe, oLtN, oLeN, nLt, nLe, nLtN, nLeN]
      exact hK
    simp only [List.drop_succ_cons, List.drop_zero]
    refine zD_cut 10 ?_ ?_ (fun K_ hK => ?_) ?_
    rotate_left 2
    · simp only [List.take_succ_cons, List.take_zero]
      simp (disch := omega) [oLt, oLe, oLtN, oLeN, nLt, nLe, nLtN, nLeN]
      exact hK
    simp only [List.drop_succ_cons, List.drop_zero]
    refine zD_cut 4 ?_ ?_ (fun K_ hK => ?_) ?_
    rotate_left 2
    · simp only [List.take_succ_cons, List.take_zero]
      simp (disch := omega) [oLt, oLe, oLtN, oLeN, nLt, nLe, nLtN, nLeN]
      exact hK
    simp only [List.drop_succ_cons, List.drop_zero]
    refine goD_ok (by decide) ?_
    simp (disch := omega) [oLt, oLe, oLtN, oLeN, nLt, nLe, nLtN, nLeN]
    exact hK _
  · obtain ⟨lx, u, lx1, lx2, lx3, lx4, lx5, lx6, lx7, lx8⟩ := gM_at hg (i := a) (by omega)
    have lx2' := (List.getElem?_eq_some_iff.1 lx2).2
    have x1 : (a : Int) < n := by omega
    have x2 : a < n := by omega
    have hlw := hP.lw (by omega) pv hp.1 hp.2
    rw [Nat.add_sub_cancel, lx4, ly4] at hlw
    have hdf : u - v < 0 := by omega
    have hac : (0 : Int) < (a : Int) + 1 := by omega
    refine zD_cut 3 ?_ ?_ (fun K_ hK => ?_) ?_
    rotate_left 2
    · simp only [List.take_succ_cons, List.take_zero]
      simp (disch := omega) [oLt, oLe, oLtN, oLeN, nLt, nLe, nLtN, nLeN, hac]
      exact hK
    simp only [List.drop_succ_cons, List.drop_zero]
    refine zD_cut 6 ?_ ?_ (fun K_ hK => ?_) ?_
    rotate_left 2
    · simp only [List.take_succ_cons, List.take_zero]
      simp (disch := omega) [oLt, oLe, oLtN, oLeN, nLt, nLe, nLtN, nLeN, x1, x2, lx2, lx2', hll]
      exact hK
    simp only [List.drop_succ_cons, List.drop_zero]
    refine zD_cut 4 ?_ ?_ (fun K_ hK => ?_) ?_
    rotate_left 2
    · simp only [List.take_succ_cons, List.take_zero]
      simp (disch := omega) [oLt, oLe, oLtN, oLeN, nLt, nLe, nLtN, nLeN, y1, y2, ly2, ly2', hll]
      exact hK
    simp only [List.drop_succ_cons, List.drop_zero]
    refine zD_cut 1 ?_ ?_ (fun K_ hK => ?_) ?_
    rotate_left 2
    · simp only [List.take_succ_cons, List.take_zero]
      simp (disch := omega) [oLt, oLe, oLtN, oLeN, nLt, nLe, nLtN, nLeN, lx3, ly3, lx6, ly6, cmp_94 hcm, cmp_104 hcm, cmp_106 hcm, cmp_107 hcm, cmp_109 hcm, cmp_111 hcm]
      exact hK
    simp only [List.drop_succ_cons, List.drop_zero]
    refine zD_cut 3 ?_ ?_ (fun K_ hK => ?_) ?_
    rotate_left 2
    · simp only [List.take_succ_cons, List.take_zero]
      simp (disch := omega) [oLt, oLe, oLtN, oLeN, nLt, nLe, nLtN, nLeN, hdf]
      exact hK
    simp only [List.drop_succ_cons, List.drop_zero]
    refine goD_ok (by decide) ?_
    simp (disch := omega) [oLt, oLe, oLtN, oLeN, nLt, nLe, nLtN, nLeN]
    exact hK _
theorem r17_80 {f n a b lim0 lim pv : Nat} {wb wp : Bool} {M T : List (List Int)} {nx0 : Nat} {Q : Exit → ST → Prop} (hP : Pd n a b lim0 M) (hp : a ≤ pv ∧ pv < b) (h12 : a + 12 < b) (hf : b ≤ a + f) (hT : srtOn a b M = T) (hli : b ≤ a + 13 + lim) (hlm : lim ≤ 60)
    (hN : ∀ (a' b' : Nat) (wb' wp' : Bool) (N : List (List Int)), b' - a' < b - a → Pd n a' b' lim N → b' ≤ a' + 15 → srtOn a' b' N = T → ∀ s', ChgT 1 s' ⟨[(0, .ref 0 0 n 1 none), (1, vI a'), (2, vI b'), (3, vI lim), (4, (fnC cf)), (10, vB wb'), (11, vB wp')], [(0, .cells (lls N))], 1⟩ → Q .normal s') :
    XZ (rZ (spc (ss94 f cf))) 1 (.seq (.seq (.draw p94_r17 [[], [0], [1, 0], [2, 1, 0], [2, 1, 0], [2, 1, 0], [5, 2, 1, 0], [4, 6, 5, 2, 1, 0], [7, 4, 6, 5, 2, 1, 0], [2, 1, 0], [2, 1, 0], [9, 10, 2, 1, 0], [11, 9, 10, 2, 1, 0], [3, 8, 12, 7, 4, 6, 5, 11, 9, 10, 2, 1, 0], [13, 3, 8, 12, 7, 4, 6, 5, 11, 9, 10, 2, 1, 0], [14, 13, 3, 8, 12, 7, 4, 6, 5, 11, 9, 10, 2, 1, 0], [15, 14, 13, 3, 8, 12, 7, 4, 6, 5, 11, 9, 10, 2, 1, 0]] [0, 1, 2, 3, 4, 10, 11, 12, 13, 97]) (.cond (Operand.tmp 97) (.seq (.reg p94_r18 [0, 2, 3, 4, 10, 11, 15]) (.seq (.reg p94_r19 [0, 1, 2, 3, 4, 10, 11]) (.exit 1))) .skip)) (.seq (.reg p94_r20 [0, 1, 2, 3, 4, 12, 16, 17]) (.seq (.reg p94_r21 [0, 1, 2, 3, 4, 11, 12, 16]) (.seq (.reg p94_r22 [0, 1, 2, 3, 4, 11, 12, 16, 18, 19]) (.seq (.reg p94_r23 [0, 1, 2, 3, 4, 11, 16, 18, 19, 20]) (.seq (.reg p94_r24 [0, 1, 2, 3, 4, 11, 16, 18, 19, 20, 125]) (.cond (Operand.tmp 125) (.seq (.reg p94_r25 [0, 1, 2, 3, 4, 10, 11, 16]) (.seq (.reg p94_r26 [0, 2, 3, 4, 10, 11, 16]) (.reg p94_r27 [0, 1, 2, 3, 4, 10, 11]))) (.seq (.reg p94_r28 [0, 1, 2, 3, 4, 10, 11, 16]) (.seq (.reg p94_r29 [0, 1, 3, 4, 10, 11, 16]) (.reg p94_r30 [0, 1, 2, 3, 4, 10, 11])))))))))) ⟨[(0, .ref 0 0 n 1 none), (1, vI a), (2, vI b), (3, vI lim), (4, (fnC cf)), (10, vB wb), (11, vB wp), (12, vI (b - a : Nat)), (13, vI pv), (80, .v (.bool false))], [(0, .cells (lls M))], nx0⟩ Q := by
  have h64 : n ≤ 64 := by have h := hP.g; have h2 := hP.nl; simp only [gM, Bool.and_eq_true, decide_eq_true_eq] at h; omega
  have hbn := hP.bn
  have hg := hP.g
  have hnl := hP.nl
  obtain ⟨q1, q2, pA, pB, pC, pD, e1, e2⟩ := hP.parts (lim' := lim) h12 hp hli hlm
  have hMt : M.take n = M := List.take_of_length_le (by omega)
  have k111 := f111_at hcm (n := n) (a := a) (b := b) (pv := pv) hnl.symm hg (by omega) hbn hp.1 hp.2
  refine XZ_seqG (XZ_seqG (XZ_drawG ?_))
  refine d17_80 hcm (f := f) hP hp fun nx => ?_
  simp only [thenE]
  refine XZ_condF (by simp) ?_
  simp only [thenE]
  generalize (parF a b pv M).2.1 = m at *
  generalize (parF a b pv M).2.2 = ap at *
  generalize (parF a b pv M).1 = K at *
  have hKn := pA.nl
  have hKt : K.take n = K := List.take_of_length_le (by omega)
  have hla : (b : Int) - a = ((b - a : Nat) : Int) := by omega
  have hlm1 : (m : Int) - a = ((m - a : Nat) : Int) := by omega
  have hlm2 : (b : Int) - m = ((b - m : Nat) : Int) := by omega
  have hl8 : ((b - a : Nat) : Int) / 8 = (((b - a) / 8 : Nat) : Int) := by omega
  have k94a := f94_at hcm (f := f) pA (by omega)
  have k94b := f94_at hcm (f := f) pC (by omega)
  have hm1c : (m : Int) + 1 = ((m + 1 : Nat) : Int) := by omega
  obtain ⟨w8, hw8⟩ : ∃ w, (b - a) / 8 = w := ⟨_, rfl⟩
  rw [hw8] at hl8
  have hw64 : w8 ≤ 64 := by omega
  obtain ⟨lA, hlA⟩ : ∃ w, m - a = w := ⟨_, rfl⟩
  obtain ⟨lB, hlB⟩ : ∃ w, b - m = w := ⟨_, rfl⟩
  rw [hlA] at hlm1
  rw [hlB] at hlm2
  refine XZ_step ?_ (fun N Q_ hN => ?_) ?_
  rotate_left
  · delta p94_r20; simp (disch := omega) [oLt, oLe, oLtN, oLeN, nLt, nLe, nLtN, nLeN, k111, f111_fz, rg1, hnl, hMt]
    exact hN
  refine XZ_step ?_ (fun N Q_ hN => ?_) ?_
  rotate_left
  · delta p94_r21; simp (disch := omega) [oLt, oLe, oLtN, oLeN, nLt, nLe, nLtN, nLeN]
    exact hN
  refine XZ_step ?_ (fun N Q_ hN => ?_) ?_
  rotate_left
  · delta p94_r22; simp (disch := omega) [oLt, oLe, oLtN, oLeN, nLt, nLe, nLtN, nLeN, hlm1, hlm2]
    exact hN
  refine XZ_step ?_ (fun N Q_ hN => ?_) ?_
  rotate_left
  · delta p94_r23; simp (disch := omega) [oLt, oLe, oLtN, oLeN, nLt, nLe, nLtN, nLeN, hl8]
    exact hN
  have hl6 := hP.l6
  have k94c := k94b
  rw [show ((m + 1 : Nat) : Int) = (m : Int) + 1 by omega] at k94c
  refine XZ_seqG ?_
  delta p94_r24
  by_cases hlt : lA < lB
  · have hlc : (lA : Int) < lB := by omega
    simp (disch := omega) [oLt, oLe, oLtN, oLeN, nLt, nLe, nLtN, nLeN, hlc]
    delta p94_r25
    by_cases hb8 : lA < w8
    · have hbc : (lA : Int) < w8 := by omega
      simp (disch := omega) [oLt, oLe, oLtN, oLeN, nLt, nLe, nLtN, nLeN, hbc]
      delta p94_r26
      simp (disch := omega) [oLt, oLe, oLtN, oLeN, nLt, nLe, nLtN, nLeN, k94a, f94_fz, rg1, hKn, hKt]
      delta p94_r27
      simp (disch := omega) [oLt, oLe, oLtN, oLeN, nLt, nLe, nLtN, nLeN]
      exact hN (m + 1) b false ap (srtOn a m K) (by omega) pB (by omega) (by rw [e1, hT]) _ (.tot [] (by simp))
    · have hbc : ¬ (lA : Int) < w8 := by omega
      simp (disch := omega) [oLt, oLe, oLtN, oLeN, nLt, nLe, nLtN, nLeN, hbc]
      delta p94_r26
      simp (disch := omega) [oLt, oLe, oLtN, oLeN, nLt, nLe, nLtN, nLeN, k94a, f94_fz, rg1, hKn, hKt]
      delta p94_r27
      simp (disch := omega) [oLt, oLe, oLtN, oLeN, nLt, nLe, nLtN, nLeN]
      exact hN (m + 1) b true ap (srtOn a m K) (by omega) pB (by omega) (by rw [e1, hT]) _ (.tot [] (by simp))
  · have hlc : ¬ (lA : Int) < lB := by omega
    simp (disch := omega) [oLt, oLe, oLtN, oLeN, nLt, nLe, nLtN, nLeN, hlc]
    delta p94_r28
    by_cases hb8 : lB < w8
    · have hbc : (lB : Int) < w8 := by omega
      simp (disch := omega) [oLt, oLe, oLtN, oLeN, nLt, nLe, nLtN, nLeN, hbc]
      delta p94_r29
      simp (disch := omega) [oLt, oLe, oLtN, oLeN, nLt, nLe, nLtN, nLeN, k94c, f94_fz, rg1, hKn, hKt]
      delta p94_r30
      simp (disch := omega) [oLt, oLe, oLtN, oLeN, nLt, nLe, nLtN, nLeN]
      exact hN a m false ap (srtOn (m + 1) b K) (by omega) pD (by omega) (by rw [e2, hT]) _ (.tot [] (by simp))
    · have hbc : ¬ (lB : Int) < w8 := by omega
      simp (disch := omega) [oLt, oLe, oLtN, oLeN, nLt, nLe, nLtN, nLeN, hbc]
      delta p94_r29
      simp (disch := omega) [oLt, oLe, oLtN, oLeN, nLt, nLe, nLtN, nLeN, k94c, f94_fz, rg1, hKn, hKt]
      delta p94_r30
      simp (disch := omega) [oLt, oLe, oLtN, oLeN, nLt, nLe, nLtN, nLeN]
      exact hN a m true ap (srtOn (m + 1) b K) (by omega) pD (by omega) (by rw [e2, hT]) _ (.tot [] (by simp))
end
section
variable {cf : Nat} (hcm : cmpN cf = true)
include hcm
attribute [local simp] evCall reach idsB idsL ids inA Go.Sx.inL Go.Sx.inM inB allHp enumH gl renB
set_option maxHeartbeats 8000000
theorem r10_94 {f n a b lim0 lim : Nat} {wb wp : Bool} {M T : List (List Int)} {nx0 : Nat} {Q : Exit → ST → Prop} (hP : Pd n a b lim0 M) (h12 : a + 12 < b) (hf : b ≤ a + f) (hT : srtOn a b M = T) (hli : b ≤ a + 13 + lim) (hlm : lim ≤ 60)
    (hq : ∀ env nx, Q .ret ⟨env, [(0, .cells (lls T))], nx⟩)
    (hN : ∀ (a' b' : Nat) (wb' wp' : Bool) (N : List (List Int)), b' - a' < b - a → Pd n a' b' lim N → b' ≤ a' + 15 → srtOn a' b' N = T → ∀ s', ChgT 1 s' ⟨[(0, .ref 0 0 n 1 none), (1, vI a'), (2, vI b'), (3, vI lim), (4, (fnC cf)), (10, vB wb'), (11, vB wp')], [(0, .cells (lls N))], 1⟩ → Q .normal s') :
    XZ (rZ (spc (ss94 f cf))) 1 (.seq (.reg p94_r10 [0, 1, 2, 3, 4, 10, 11, 12, 13, 14]) (.seq (.seq (.reg p94_r11 [0, 1, 2, 3, 4, 10, 11, 12, 13, 14, 56]) (.cond (Operand.tmp 56) (.seq (.reg p94_r12 [0, 1, 2, 3, 4, 10, 11, 12, 13]) (.seq (.reg p94_r13 [0, 1, 2, 3, 4, 10, 11, 12, 13]) (.reg p94_r14 [0, 1, 2, 3, 4, 10, 11, 12, 13, 14]))) .skip)) (.seq (.seq (.reg p94_r15 [0, 1, 2, 3, 4, 10, 11, 12, 13, 75]) (.cond (Operand.tmp 75) (.seq (.reg p94_r16 [0, 1, 2, 3, 4, 10, 11, 12, 13, 80]) (.cond (Operand.tmp 80) .ret .skip)) .skip)) (.seq (.seq (.draw p94_r17 [[], [0], [1, 0], [2, 1, 0], [2, 1, 0], [2, 1, 0], [5, 2, 1, 0], [4, 6, 5, 2, 1, 0], [7, 4, 6, 5, 2, 1, 0], [2, 1, 0], [2, 1, 0], [9, 10, 2, 1, 0], [11, 9, 10, 2, 1, 0], [3, 8, 12, 7, 4, 6, 5, 11, 9, 10, 2, 1, 0], [13, 3, 8, 12, 7, 4, 6, 5, 11, 9, 10, 2, 1, 0], [14, 13, 3, 8, 12, 7, 4, 6, 5, 11, 9, 10, 2, 1, 0], [15, 14, 13, 3, 8, 12, 7, 4, 6, 5, 11, 9, 10, 2, 1, 0]] [0, 1, 2, 3, 4, 10, 11, 12, 13, 97]) (.cond (Operand.tmp 97) (.seq (.reg p94_r18 [0, 2, 3, 4, 10, 11, 15]) (.seq (.reg p94_r19 [0, 1, 2, 3, 4, 10, 11]) (.exit 1))) .skip)) (.seq (.reg p94_r20 [0, 1, 2, 3, 4, 12, 16, 17]) (.seq (.reg p94_r21 [0, 1, 2, 3, 4, 11, 12, 16]) (.seq (.reg p94_r22 [0, 1, 2, 3, 4, 11, 12, 16, 18, 19]) (.seq (.reg p94_r23 [0, 1, 2, 3, 4, 11, 16, 18, 19, 20]) (.seq (.reg p94_r24 [0, 1, 2, 3, 4, 11, 16, 18, 19, 20, 125]) (.cond (Operand.tmp 125) (.seq (.reg p94_r25 [0, 1, 2, 3, 4, 10, 11, 16]) (.seq (.reg p94_r26 [0, 2, 3, 4, 10, 11, 16]) (.reg p94_r27 [0, 1, 2, 3, 4, 10, 11]))) (.seq (.reg p94_r28 [0, 1, 2, 3, 4, 10, 11, 16]) (.seq (.reg p94_r29 [0, 1, 3, 4, 10, 11, 16]) (.reg p94_r30 [0, 1, 2, 3, 4, 10, 11]))))))))))))) ⟨[(0, .ref 0 0 n 1 none), (1, vI a), (2, vI b), (3, vI lim), (4, (fnC cf)), (10, vB wb), (11, vB wp), (12, vI (b - a : Nat))], [(0, .cells (lls M))], nx0⟩ Q := by
  have h64 : n ≤ 64 := by have h := hP.g; have h2 := hP.nl; simp only [gM, Bool.and_eq_true, decide_eq_true_eq] at h; omega
  have hbn := hP.bn
  have hg := hP.g
  have hnl := hP.nl
  have hl6 := hP.l6
  have hMt : M.take n = M := List.take_of_length_le (by omega)
  have k107 := f107_at hcm (n := n) (a := a) (b := b) hnl.symm hg (by omega) hbn (by omega)
  have k109 := f109_at hcm (n := n) (a := a) (b := b) hnl.symm hg (by omega) hbn (by omega)
  have hp := chP_in (M := M) (a := a) (b := b) (by omega)
  have hs := srtB_srt (a := a) (b := b) hP.d (by omega) (by omega)
  have h75 := fun nx => r17_75 hcm (f := f) (pv := (chP M a b).1) (wb := wb) (wp := wp) (nx0 := nx) hP hp h12 hf hT hli hlm hN
  have h80 := fun nx => r17_80 hcm (f := f) (pv := (chP M a b).1) (wb := wb) (wp := wp) (nx0 := nx) hP hp h12 hf hT hli hlm hN
  generalize (chP M a b).1 = pv at *
  have hh : hntN (chP M a b).2 = 0 ∨ hntN (chP M a b).2 = 1 := by
    cases (chP M a b).2 with
    | zero => exact .inr rfl
    | succ k => exact .inl rfl
  generalize hntN (chP M a b).2 = ht at *
  obtain ⟨l, hl⟩ : ∃ l, b - a = l := ⟨_, rfl⟩
  rw [hl] at h75 h80 ⊢
  have hh2 : ¬ (ht : Int) = 2 := by omega
  refine XZ_step ?_ (fun N Q_ hN => ?_) ?_
  rotate_left
  · delta p94_r10; simp (disch := omega) [oLt, oLe, oLtN, oLeN, nLt, nLe, nLtN, nLeN, k107, f107_fz, rg1, hnl, hMt]
    exact hN
  refine XZ_step ?_ (fun N Q_ hN => ?_) ?_
  rotate_left
  · delta p94_r11
    simp (disch := omega) [oLt, oLe, oLtN, oLeN, nLt, nLe, nLtN, nLeN, hh2]
    exact hN
  cases wb with
  | false =>
    refine XZ_step ?_ (fun N Q_ hN => ?_) ?_
    rotate_left
    · delta p94_r15
      simp (disch := omega) [oLt, oLe, oLtN, oLeN, nLt, nLe, nLtN, nLeN]
      exact hN
    exact h75 _
  | true =>
    cases wp with
    | false =>
      refine XZ_step ?_ (fun N Q_ hN => ?_) ?_
      rotate_left
      · delta p94_r15
        simp (disch := omega) [oLt, oLe, oLtN, oLeN, nLt, nLe, nLtN, nLeN]
        exact hN
      exact h75 _
    | true =>
      rcases hh with rfl | rfl
      · refine XZ_step ?_ (fun N Q_ hN => ?_) ?_
        rotate_left
        · delta p94_r15
          simp (disch := omega) [oLt, oLe, oLtN, oLeN, nLt, nLe, nLtN, nLeN]
          exact hN
        exact h75 _
      · cases hsb : srtB M a b with
        | true =>
          have e : T = M := by rw [← hT]; exact srtOn_eq hP.d (by omega) (.refl _ _ _) (hs hsb)
          rw [hsb] at k109
          rw [e] at hq
          refine XZ_seqG (XZ_seqG ?_)
          delta p94_r15
          simp (disch := omega) [oLt, oLe, oLtN, oLeN, nLt, nLe, nLtN, nLeN]
          delta p94_r16
          simp (disch := omega) [oLt, oLe, oLtN, oLeN, nLt, nLe, nLtN, nLeN, k109, f109_fz, rg1, hnl, hMt]
          exact hq _ _
        | false =>
          rw [hsb] at k109
          refine XZ_step ?_ (fun N Q_ hN => ?_) ?_
          rotate_left
          · delta p94_r15
            simp (disch := omega) [oLt, oLe, oLtN, oLeN, nLt, nLe, nLtN, nLeN]
            delta p94_r16
            simp (disch := omega) [oLt, oLe, oLtN, oLeN, nLt, nLe, nLtN, nLeN, k109, f109_fz, rg1, hnl, hMt]
            exact hN
          exact h80 _
theorem r10_94x {f n a b lim0 lim : Nat} {wb wp : Bool} {M T : List (List Int)} {nx0 : Nat} {Q : Exit → ST → Prop} (hP : Pd n a b lim0 M) (h12 : a + 12 < b) (hf : b ≤ a + f) (hT : srtOn a b M = T) (hli : b ≤ a + 13 + lim) (hlm : lim ≤ 60)
    (hq : ∀ env nx, Q .ret ⟨env, [(0, .cells (lls T))], nx⟩)
    (hN : ∀ (a' b' : Nat) (wb' wp' : Bool) (N : List (List Int)), b' - a' < b - a → Pd n a' b' lim N → b' ≤ a' + 15 → srtOn a' b' N = T → ∀ s', ChgT 1 s' ⟨[(0, .ref 0 0 n 1 none), (1, vI a'), (2, vI b'), (3, vI lim), (4, (fnC cf)), (10, vB wb'), (11, vB wp')], [(0, .cells (lls N))], 1⟩ → Q .normal s') :
    XZ (rZ (spc (ss94 f cf))) 1 (.seq (.reg p94_r10 [0, 1, 2, 3, 4, 10, 11, 12, 13, 14]) (.seq (.seq (.reg p94_r11 [0, 1, 2, 3, 4, 10, 11, 12, 13, 14, 56]) (.cond (Operand.tmp 56) (.seq (.reg p94_r12 [0, 1, 2, 3, 4, 10, 11, 12, 13]) (.seq (.reg p94_r13 [0, 1, 2, 3, 4, 10, 11, 12, 13]) (.reg p94_r14 [0, 1, 2, 3, 4, 10, 11, 12, 13, 14]))) .skip)) (.seq (.seq (.reg p94_r15 [0, 1, 2, 3, 4, 10, 11, 12, 13, 75]) (.cond (Operand.tmp 75) (.seq (.reg p94_r16 [0, 1, 2, 3, 4, 10, 11, 12, 13, 80]) (.cond (Operand.tmp 80) .ret .skip)) .skip)) (.seq (.seq (.draw p94_r17 [[], [0], [1, 0], [2, 1, 0], [2, 1, 0], [2, 1, 0], [5, 2, 1, 0], [4, 6, 5, 2, 1, 0], [7, 4, 6, 5, 2, 1, 0], [2, 1, 0], [2, 1, 0], [9, 10, 2, 1, 0], [11, 9, 10, 2, 1, 0], [3, 8, 12, 7, 4, 6, 5, 11, 9, 10, 2, 1, 0], [13, 3, 8, 12, 7, 4, 6, 5, 11, 9, 10, 2, 1, 0], [14, 13, 3, 8, 12, 7, 4, 6, 5, 11, 9, 10, 2, 1, 0], [15, 14, 13, 3, 8, 12, 7, 4, 6, 5, 11, 9, 10, 2, 1, 0]] [0, 1, 2, 3, 4, 10, 11, 12, 13, 97]) (.cond (Operand.tmp 97) (.seq (.reg p94_r18 [0, 2, 3, 4, 10, 11, 15]) (.seq (.reg p94_r19 [0, 1, 2, 3, 4, 10, 11]) (.exit 1))) .skip)) (.seq (.reg p94_r20 [0, 1, 2, 3, 4, 12, 16, 17]) (.seq (.reg p94_r21 [0, 1, 2, 3, 4, 11, 12, 16]) (.seq (.reg p94_r22 [0, 1, 2, 3, 4, 11, 12, 16, 18, 19]) (.seq (.reg p94_r23 [0, 1, 2, 3, 4, 11, 16, 18, 19, 20]) (.seq (.reg p94_r24 [0, 1, 2, 3, 4, 11, 16, 18, 19, 20, 125]) (.cond (Operand.tmp 125) (.seq (.reg p94_r25 [0, 1, 2, 3, 4, 10, 11, 16]) (.seq (.reg p94_r26 [0, 2, 3, 4, 10, 11, 16]) (.reg p94_r27 [0, 1, 2, 3, 4, 10, 11]))) (.seq (.reg p94_r28 [0, 1, 2, 3, 4, 10, 11, 16]) (.seq (.reg p94_r29 [0, 1, 3, 4, 10, 11, 16]) (.reg p94_r30 [0, 1, 2, 3, 4, 10, 11]))))))))))))) ⟨[(0, .ref 0 0 n 1 none), (1, vI a), (2, vI b), (3, vI lim), (4, (fnC cf)), (10, vB wb), (11, vB wp), (12, vI (b - a : Nat)), (39, .v (.bool false))], [(0, .cells (lls M))], nx0⟩ Q := by
  have h64 : n ≤ 64 := by have h := hP.g; have h2 := hP.nl; simp only [gM, Bool.and_eq_true, decide_eq_true_eq] at h; omega
  have hbn := hP.bn
  have hg := hP.g
  have hnl := hP.nl
  have hl6 := hP.l6
  have hMt : M.take n = M := List.take_of_length_le (by omega)
  have k107 := f107_at hcm (n := n) (a := a) (b := b) hnl.symm hg (by omega) hbn (by omega)
  have k109 := f109_at hcm (n := n) (a := a) (b := b) hnl.symm hg (by omega) hbn (by omega)
  have hp := chP_in (M := M) (a := a) (b := b) (by omega)
  have hs := srtB_srt (a := a) (b := b) hP.d (by omega) (by omega)
  have h75 := fun nx => r17_75 hcm (f := f) (pv := (chP M a b).1) (wb := wb) (wp := wp) (nx0 := nx) hP hp h12 hf hT hli hlm hN
  have h80 := fun nx => r17_80 hcm (f := f) (pv := (chP M a b).1) (wb := wb) (wp := wp) (nx0 := nx) hP hp h12 hf hT hli hlm hN
  generalize (chP M a b).1 = pv at *
  have hh : hntN (chP M a b).2 = 0 ∨ hntN (chP M a b).2 = 1 := by
    cases (chP M a b).2 with
    | zero => exact .inr rfl
    | succ k => exact .inl rfl
  generalize hntN (chP M a b).2 = ht at *
  obtain ⟨l, hl⟩ : ∃ l, b - a = l := ⟨_, rfl⟩
  rw [hl] at h75 h80 ⊢
  have hh2 : ¬ (ht : Int) = 2 := by omega
  refine XZ_step ?_ (fun N Q_ hN => ?_) ?_
  rotate_left
  · delta p94_r10; simp (disch := omega) [oLt, oLe, oLtN, oLeN, nLt, nLe, nLtN, nLeN, k107, f107_fz, rg1, hnl, hMt]
    exact hN
  refine XZ_step ?_ (fun N Q_ hN => ?_) ?_
  rotate_left
  · delta p94_r11
    simp (disch := omega) [oLt, oLe, oLtN, oLeN, nLt, nLe, nLtN, nLeN, hh2]
    exact hN
  cases wb with
  | false =>
    refine XZ_step ?_ (fun N Q_ hN => ?_) ?_
    rotate_left
    · delta p94_r15
      simp (disch := omega) [oLt, oLe, oLtN, oLeN, nLt, nLe, nLtN, nLeN]
      exact hN
    exact h75 _
  | true =>
    cases wp with
    | false =>
      refine XZ_step ?_ (fun N Q_ hN => ?_) ?_
      rotate_left
      · delta p94_r15
        simp (disch := omega) [oLt, oLe, oLtN, oLeN, nLt, nLe, nLtN, nLeN]
        exact hN
      exact h75 _
    | true =>
      rcases hh with rfl | rfl
      · refine XZ_step ?_ (fun N Q_ hN => ?_) ?_
        rotate_left
        · delta p94_r15
          simp (disch := omega) [oLt, oLe, oLtN, oLeN, nLt, nLe, nLtN, nLeN]
          exact hN
        exact h75 _
      · cases hsb : srtB M a b with
        | true =>
          have e : T = M := by rw [← hT]; exact srtOn_eq hP.d (by omega) (.refl _ _ _) (hs hsb)
          rw [hsb] at k109
          rw [e] at hq
          refine XZ_seqG (XZ_seqG ?_)
          delta p94_r15
          simp (disch := omega) [oLt, oLe, oLtN, oLeN, nLt, nLe, nLtN, nLeN]
          delta p94_r16
          simp (disch := omega) [oLt, oLe, oLtN, oLeN, nLt, nLe, nLtN, nLeN, k109, f109_fz, rg1, hnl, hMt]
          exact hq _ _
        | false =>
          rw [hsb] at k109
          refine XZ_step ?_ (fun N Q_ hN => ?_) ?_
          rotate_left
          · delta p94_r15
            simp (disch := omega) [oLt, oLe, oLtN, oLeN, nLt, nLe, nLtN, nLeN]
            delta p94_r16
            simp (disch := omega) [oLt, oLe, oLtN, oLeN, nLt, nLe, nLtN, nLeN, k109, f109_fz, rg1, hnl, hMt]
            exact hN
          exact h80 _
end
section
variable {cf : Nat} (hcm : cmpN cf = true)
include hcm
attribute [local simp] evCall reach idsB idsL ids inA Go.Sx.inL Go.Sx.inM inB allHp enumH gl renB
set_option maxHeartbeats 8000000
theorem l0_94 {f n a0 b0 lim0 : Nat} {M0 T : List (List Int)} {s0 : ST} {Q : Exit → ST → Prop} (hP : Pd n a0 b0 lim0 M0) (hf : b0 ≤ a0 + f) (hT : srtOn a0 b0 M0 = T)
    (hs0 : ChgT 1 s0 ⟨[(0, .ref 0 0 n 1 none), (1, vI a0), (2, vI b0), (3, vI lim0), (4, (fnC cf)), (10, vB true), (11, vB true)], [(0, .cells (lls M0))], 1⟩)
    (hq : ∀ env nx, Q .ret ⟨env, [(0, .cells (lls T))], nx⟩) : XZ (rZ (spc (ss94 f cf))) 1 (.loop p94_l0) s0 Q := by
  refine XZ_for (fun q : Nat × Nat × Nat × Bool × Bool × List (List Int) => ⟨[(0, .ref 0 0 n 1 none), (1, vI q.1), (2, vI q.2.1), (3, vI q.2.2.1), (4, (fnC cf)), (10, vB q.2.2.2.1), (11, vB q.2.2.2.2.1)], [(0, .cells (lls q.2.2.2.2.2))], 1⟩)
    (fun q => q.2.1 - q.1) (fun q => Pd n q.1 q.2.1 q.2.2.1 q.2.2.2.2.2 ∧ (q.2.2.2.1 = false → q.2.1 ≤ q.1 + 15) ∧ srtOn q.1 q.2.1 q.2.2.2.2.2 = T ∧ q.2.1 ≤ q.1 + f) (a0, b0, lim0, true, true, M0) ⟨hP, (fun h => by cases h), hT, hf⟩ hs0 ?_
  rintro ⟨a, b, lim, wb, wp, M⟩ ⟨hP, h15, hT, hf⟩ N' Q' hN hE
  simp only at hP h15 hT hf hN ⊢
  have hq' : ∀ env nx, Q' .ret ⟨env, [(0, .cells (lls T))], nx⟩ := fun env nx => hE _ _ _ .refl (hq env nx)
  have hN2 : ∀ (lim1 a' b' : Nat) (wb' wp' : Bool) (N : List (List Int)), b' - a' < b - a → Pd n a' b' lim1 N → b' ≤ a' + 15 → srtOn a' b' N = T → b' ≤ a' + f → ∀ s', ChgT 1 s' ⟨[(0, .ref 0 0 n 1 none), (1, vI a'), (2, vI b'), (3, vI lim1), (4, (fnC cf)), (10, vB wb'), (11, vB wp')], [(0, .cells (lls N))], 1⟩ → N' s' :=
    fun lim1 a' b' wb' wp' N h1 h2 h3 h4 h5 s' hh => hN s' (a', b', lim1, wb', wp', N) h1 ⟨h2, fun _ => h3, h4, h5⟩ hh
  have h64 : n ≤ 64 := by have h := hP.g; have h2 := hP.nl; simp only [gM, Bool.and_eq_true, decide_eq_true_eq] at h; omega
  have hbn := hP.bn
  have hg := hP.g
  have hnl := hP.nl
  have hl6 := hP.l6
  have hab := hP.ab
  have hli := hP.li
  have hlm := hP.lm
  have hMt : M.take n = M := List.take_of_length_le (by omega)
  clear hN hE hq
  delta p94_l0
  refine XZ_block9 ?_
  obtain ⟨l, hl⟩ : ∃ l, b - a = l := ⟨_, rfl⟩
  have hlc : (b : Int) - a = (l : Nat) := by omega
  refine XZ_step ?_ (fun N Q_ hN => ?_) ?_
  rotate_left
  · delta p94_r2; simp (disch := omega) [oLt, oLe, oLtN, oLeN, nLt, nLe, nLtN, nLeN, hlc]
    exact hN
  by_cases h12 : l ≤ 12
  · have hc : (l : Int) ≤ 12 := by omega
    have k104 := f104_at hcm (n := n) (a := a) (b := b) hnl.symm hg hab hbn
    rw [hT] at k104
    refine XZ_seqG (XZ_seqG ?_)
    delta p94_r3
    simp (disch := omega) [oLt, oLe, oLtN, oLeN, nLt, nLe, nLtN, nLeN, hc]
    delta p94_r4
    simp (disch := omega) [oLt, oLe, oLtN, oLeN, nLt, nLe, nLtN, nLeN, k104, f104_fz, rg1, hnl, hMt]
    exact hq' _ _
  · have hc : ¬ (l : Int) ≤ 12 := by omega
    have hlz : ¬ lim = 0 := by omega
    have hlzc : ¬ (lim : Int) = 0 := by omega
    refine XZ_step ?_ (fun N Q_ hN => ?_) ?_
    rotate_left
    · delta p94_r3
      simp (disch := omega) [oLt, oLe, oLtN, oLeN, nLt, nLe, nLtN, nLeN, hc]
      exact hN
    refine XZ_step ?_ (fun N Q_ hN => ?_) ?_
    rotate_left
    · delta p94_r5
      simp (disch := omega) [oLt, oLe, oLtN, oLeN, nLt, nLe, nLtN, nLeN, hlz, hlzc]
      exact hN
    cases wb with
    | true =>
      refine XZ_step ?_ (fun N Q_ hN => ?_) ?_
      rotate_left
      · delta p94_r7
        simp (disch := omega) [oLt, oLe, oLtN, oLeN, nLt, nLe, nLtN, nLeN]
        exact hN
      subst hl
      refine r10_94x hcm (f := f) (n := n) (a := a) (b := b) (lim0 := lim) (lim := lim) (wb := true) (wp := wp) (M := M) (T := T) (Q := inBE 1 (thenE N' Q')) hP (by omega) hf hT (by omega) hlm hq' ?_
      intro a' b' wb' wp' N h1 h2 h3 h4 s' hh
      exact hN2 lim a' b' wb' wp' N h1 h2 h3 h4 (by omega) s' hh
    | false =>
      have h15 := h15 rfl
      have k106 := f106_at hcm (n := n) (a := a) (b := b) hnl.symm hg (by omega) hbn h15
      have hr := bpK_rg (M := M) (a := a) (l := b - a) (by omega) (by omega) 3 (by omega)
      have hab2 : a + (b - a) = b := by omega
      rw [hab2] at hr
      have hP1 := hP.rg (lim' := lim) hr hli hlm
      have hT1 : srtOn a b (bpK M a (b - a) 3) = T := by rw [srtOn_rg hP.d (by omega) hr]; exact hT
      generalize bpK M a (b - a) 3 = K at *
      obtain ⟨lim, rfl⟩ : ∃ k, lim = k + 1 := ⟨lim - 1, by omega⟩
      refine XZ_step ?_ (fun N Q_ hN => ?_) ?_
      rotate_left
      · delta p94_r7
        simp (disch := omega) [oLt, oLe, oLtN, oLeN, nLt, nLe, nLtN, nLeN]
        delta p94_r8
        simp (disch := omega) [oLt, oLe, oLtN, oLeN, nLt, nLe, nLtN, nLeN, k106, f106_fz, rg1, hnl, hMt]
        delta p94_r9
        simp (disch := omega) [oLt, oLe, oLtN, oLeN, nLt, nLe, nLtN, nLeN]
        exact hN
      subst hl
      refine r10_94 hcm (f := f) (n := n) (a := a) (b := b) (lim0 := lim + 1) (lim := lim) (wb := false) (wp := wp) (M := K) (T := T) (Q := inBE 1 (thenE N' Q')) hP1 (by omega) hf hT1 (by omega) (by omega) hq' ?_
      intro a' b' wb' wp' N h1 h2 h3 h4 s' hh
      exact hN2 lim a' b' wb' wp' N h1 h2 h3 h4 (by omega) s' hh
end
section
variable {cf : Nat}
set_option maxHeartbeats 4000000
theorem s94_ok : ∀ f, (s94 f).ok Tryd.prog
  | 0 => by
    intro args h k r h' k' hh
    simp only [s94_f, f94] at hh
    split at hh
    · split at hh
      · split at hh
        · rename_i hc
          obtain ⟨-, -, -, -, hP, hf⟩ := hc
          have := hP.ab
          omega
        · cases hh
      · cases hh
    · cases hh
  | f + 1 => by
    have ih := s94_ok f
    intro args h k r h' k' hh
    simp only [s94_f, f94] at hh
    split at hh
    · rename_i n a b lim cf cs
      split at hh
      · rename_i M hl
        split at hh
        · rename_i hc
          obtain ⟨hcm, a1, b1, l1, hP, hf⟩ := hc
          cases hh
          rw [unlls_inv hl]
          obtain ⟨a, rfl⟩ := Int.eq_ofNat_of_zero_le a1
          obtain ⟨b, rfl⟩ := Int.eq_ofNat_of_zero_le b1
          obtain ⟨lim, rfl⟩ := Int.eq_ofNat_of_zero_le l1
          simp only [Int.toNat_natCast] at hP hf ⊢
          simp only [hp_eq]
          refine P94.rz (ss := ss94 f cf) ⟨ih, s104_ok, s106_ok, s107_ok, s109_ok, s111_ok, sC_ok hcm, trivial⟩ (by simp) fun Q hQ => ?_
          delta p94
          refine XZ_step ?_ (fun N Q_ hN => ?_) ?_
          rotate_left
          · delta p94_r0; simp (disch := omega) [oLt, oLe, oLtN, oLeN, nLt, nLe, nLtN, nLeN]
            exact hN
          refine XZ_step ?_ (fun N Q_ hN => ?_) ?_
          rotate_left
          · delta p94_r1; simp (disch := omega) [oLt, oLe, oLtN, oLeN, nLt, nLe, nLtN, nLeN]
            exact hN
          refine XZ_block9 ?_
          refine l0_94 hcm (a0 := a) (b0 := b) (lim0 := lim) (M0 := M) hP (by omega) rfl (.tot [] (by simp)) fun env nx => ?_
          exact hQ _ _ (EndsP_at [0] (.inl rfl) rfl rfl (by simp) rfl (by simp))
        · cases hh
      · cases hh
    · cases hh
end
section
variable {cf : Nat}
attribute [local simp] evCall reach idsB idsL ids inA Go.Sx.inL Go.Sx.inM inB allHp enumH gl renB
open Classical in
noncomputable def f62 : List AV → HL → Nat → Option (AV × HL × Nat) := fun args h k => match args, h, k with
  | [.ref 0 0 n 1 none, .fn (.func cf) [] []], [(0, .cells cs)], 1 => match unlls cs with
    | some M => if cmpN cf = true ∧ n = M.length ∧ gM M = true ∧ Dst M ∧ n ≤ 16 then some (.tup [], [(0, .cells (lls (srtOn 0 n M)))], 1) else none
    | none => none
  | _, _, _ => none
noncomputable def s62 : Sp := ⟨62, f62⟩
@[simp] theorem s62_g : s62.g = 62 := rfl
@[simp] theorem s62_f : s62.f = f62 := rfl
theorem bitsL_le {n : Nat} (h : n ≤ 16) : n ≤ 12 + bitsL n ∧ bitsL n ≤ 5 := by
  have key : ∀ n, n < 17 → n ≤ 12 + bitsL n ∧ bitsL n ≤ 5 := by decide
  exact key n (by omega)
set_option maxHeartbeats 4000000
theorem s62_ok : s62.ok Tryd.prog := by
  intro args h k r h' k' hh
  simp only [s62_f, f62] at hh
  split at hh
  · rename_i n cf cs
    split at hh
    · rename_i M hl
      split at hh
      · rename_i hc
        obtain ⟨hcm, hn, hg, hd, h16⟩ := hc
        cases hh
        rw [unlls_inv hl]
        obtain ⟨q1, q2⟩ := bitsL_le h16
        have hP : Pd n 0 n (bitsL n) M := ⟨hg, hn.symm, hd, by omega, by omega, fun h => by omega, by omega, by omega, by omega⟩
        have k94 := f94_at hcm (f := 17) hP (by omega)
        have e0 : ((0 : Nat) : Int) = 0 := rfl
        rw [e0] at k94
        have k95 : f95 [.v (.int .u64 (n : Int))] [] 0 = some (vI (bitsL n), [], 0) := by
          simp only [f95]; rw [if_pos ⟨by omega, by omega⟩]; rfl
        have hw : wrapF IntKind.u64 (n : Int) = n := by rw [wrapF_eq]; simp [IntKind.wrap, IntKind.bits, IntKind.signed]; omega
        have hMt : M.take n = M := List.take_of_length_le (by omega)
        simp only [hp_eq]
        refine P62.rz (ss := [s95, s94 17]) ⟨s95_ok, s94_ok 17, trivial⟩ (by simp) fun Q hQ => ?_
        delta p62
        refine XZ_step ?_ (fun N Q_ hN => ?_) ?_
        rotate_left
        · delta p62_r0; simp (disch := omega) [oLt, oLe, oLtN, oLeN, nLt, nLe, nLtN, nLeN]
          exact hN
        delta p62_r1
        simp (disch := omega) [oLt, oLe, oLtN, oLeN, nLt, nLe, nLtN, nLeN, hw, k95, k94, f94_fz, hn.symm, hMt]
        exact hQ _ _ (EndsP_at [0] (.inr rfl) rfl rfl (by simp) rfl (by simp))
      · cases hh
    · cases hh
  · cases hh
end
section
def f50 : List AV → HL → Nat → Option (AV × HL × Nat) := fun args h k => match args, h, k with
  | [.il (x :: cs) n u], [], 0 => match unints (x :: cs) with
    | some l => if n = l.length ∧ small l = true then some (.ref 0 0 l.length 1 none, [(0, .cells (ints l))], 1) else none
    | none => none
  | _, _, _ => none
def s50 : Sp := ⟨50, f50⟩
@[simp] theorem s50_g : s50.g = 50 := rfl
@[simp] theorem s50_f : s50.f = f50 := rfl
theorem f50_at {l : List Int} {u : Bool} (h0 : l ≠ []) (hs : small l = true) : f50 [.il (ints l) l.length u] [] 0 = some (.ref 0 0 l.length 1 none, [(0, .cells (ints l))], 1) := by
  rcases l with _ | ⟨a, l⟩
  · exact absurd rfl h0
  · have hu : unints (vI a :: ints l) = some (a :: l) := by rw [← ints_cons]; simp
    simp only [ints_cons, f50, hu]
    rw [if_pos ⟨by simp, hs⟩]
set_option maxHeartbeats 2000000 in
theorem s50_ok : s50.ok Tryd.prog := by
  intro args h k r h' k' hh
  simp only [s50_f, f50] at hh
  split at hh
  · rename_i x cs n u
    split at hh
    · rename_i l hl
      split at hh
      · rename_i hc
        obtain ⟨hn, hsl⟩ := hc
        cases hh
        have e := unints_inv hl
        rw [e, hn]
        simp only [hp_eq]
        rcases l with _ | ⟨l0, lr⟩
        · simp at e
        have hlr : lr.length + 1 ≤ 1000000 := by simpa [small] using hsl
        refine P50.rz (ss := []) trivial (by simp) fun Q hQ => ?_
        delta p50 p50_r0 p50_r1 p50_r2 p50_r3
        simp (disch := omega) [oLt, oLe, oLtN, oLeN, nLt, nLe, nLtN, nLeN, effEqn, Go.Sx.nilA, fits, nilOf]
        exact hQ _ _ (EndsP_at [5] (.inl rfl) (by simp) rfl (by simp) rfl (by simp))
      · cases hh
    · cases hh
  · cases hh
end
end Go.Sx.Ch
