/- What functions of the library return: parting by a pivot (slices.partitionCmpFunc). No conditions. Printed by gen/mkPart.py. -/
import Derived.Test.YtfiebjbhiflfpaaDoorSxJJYtoJYd
import Derived.Test.YtfiebjbhiflfpaaDoorSxJPCgtoPCj
import Derived.Test.YtfiebjbhiflfpaaDoorSxU
import Derived.KernelRfl
set_option linter.unusedVariables false
set_option linter.unusedSimpArgs false
namespace Go.Sx.Ch
open Go Go.Sx Go.Proofs
section
set_option maxRecDepth 4000
variable {cf : Nat}
set_option maxHeartbeats 4000000
def ancS : List (List Nat) := [[], [], [], [], [], [], [4, 5], [6, 4, 5], [], [], [8, 9], [10, 8, 9], [0, 1, 7, 11, 6, 4, 5, 10, 8, 9], [12, 0, 1, 7, 11, 6, 4, 5, 10, 8, 9], [2, 3, 13, 12, 0, 1, 7, 11, 6, 4, 5, 10, 8, 9], [14, 2, 3, 13, 12, 0, 1, 7, 11, 6, 4, 5, 10, 8, 9]]
theorem sw_1 {a b pv n nx0 : Nat} {M : List (List Int)} {E : List (Nat × AV)} {Q : Exit → ST → Prop} (hg : gM M = true) (hn : M.length = n) (hx : a < n) (hy : pv < n)
    (hK : ∀ nx, Q .normal ⟨[(0, .ref 0 0 n 1 none), (1, vI a), (2, vI b), (4, (fnC cf))], [(0, .cells (lls (swp M a pv)))], nx⟩) : zD (rZ (spc [sC cf])) (goD ancS [0, 1, 2, 4] Q) p111_r1 [] ⟨[(0, .ref 0 0 n 1 none), (1, vI a), (2, vI b), (3, vI pv), (4, (fnC cf))], [(0, .cells (lls M))], nx0⟩ := by
  obtain ⟨lx, u, lx1, lx2, lx3, lx4, lx5, lx6, lx7, lx8⟩ := gM_at hg (i := a) (by omega)
  have lx2' := (List.getElem?_eq_some_iff.1 lx2).2
  have lxc : (a : Int) < n := by omega
  have lxn : a < n := by omega
  obtain ⟨ly, v, ly1, ly2, ly3, ly4, ly5, ly6, ly7, ly8⟩ := gM_at hg (i := pv) (by omega)
  have ly2' := (List.getElem?_eq_some_iff.1 ly2).2
  have lyc : (pv : Int) < n := by omega
  have lyn : pv < n := by omega
  have hll : (lls M).length = n := by simp [hn]
  have hsw := lls_swp (i := a) (j := pv) (by omega) (by omega) lx5 ly5
  have hsl : (splice (lls M) a [.il (ints ly) ly.length false]).length = n := by rw [splice_one (lls M) _ _ (by simp; omega)]; simp [hn]
  delta p111_r1
  refine zD_cut 8 ?_ ?_ (fun K_ hK => ?_) ?_
  rotate_left 2
  · simp only [List.take_succ_cons, List.take_zero]
    simp (disch := omega) [oLt, oLe, oLtN, oLeN, nLt, nLe, nLtN, nLeN, lyc, lyn, ly2, ly2', hll]
    exact hK
  simp only [List.drop_succ_cons, List.drop_zero]
  refine zD_cut 4 ?_ ?_ (fun K_ hK => ?_) ?_
  rotate_left 2
  · simp only [List.take_succ_cons, List.take_zero]
    simp (disch := omega) [oLt, oLe, oLtN, oLeN, nLt, nLe, nLtN, nLeN, lxc, lxn, lx2, lx2', hll]
    exact hK
  simp only [List.drop_succ_cons, List.drop_zero]
  refine zD_cut 2 ?_ ?_ (fun K_ hK => ?_) ?_
  rotate_left 2
  · simp only [List.take_succ_cons, List.take_zero]
    simp (disch := omega) [oLt, oLe, oLtN, oLeN, nLt, nLe, nLtN, nLeN, lxc, lxn, hll]
    exact hK
  simp only [List.drop_succ_cons, List.drop_zero]
  refine zD_cut 2 ?_ ?_ (fun K_ hK => ?_) ?_
  rotate_left 2
  · simp only [List.take_succ_cons, List.take_zero]
    simp (disch := omega) [oLt, oLe, oLtN, oLeN, nLt, nLe, nLtN, nLeN, lyc, lyn, hsl, hsw]
    exact hK
  simp only [List.drop_succ_cons, List.drop_zero]
  refine goD_ok (by decide) ?_
  simp (disch := omega) [oLt, oLe, oLtN, oLeN, nLt, nLe, nLtN, nLeN]
  exact hK _
theorem sw_8 {a i j n nx0 : Nat} {M : List (List Int)} {E : List (Nat × AV)} {Q : Exit → ST → Prop} (hg : gM M = true) (hn : M.length = n) (hx : j < n) (hy : a < n)
    (hK : ∀ nx, Q .normal ⟨[(13, vI j)], [(0, .cells (lls (swp M j a)))], nx⟩) : zD (rZ (spc [sC cf])) (goD ancS [13] Q) p111_r8 [] ⟨[(0, .ref 0 0 n 1 none), (1, vI a), (4, (fnC cf)), (12, vI i), (13, vI j), (71, .v (.bool true))], [(0, .cells (lls M))], nx0⟩ := by
  obtain ⟨lx, u, lx1, lx2, lx3, lx4, lx5, lx6, lx7, lx8⟩ := gM_at hg (i := j) (by omega)
  have lx2' := (List.getElem?_eq_some_iff.1 lx2).2
  have lxc : (j : Int) < n := by omega
  have lxn : j < n := by omega
  obtain ⟨ly, v, ly1, ly2, ly3, ly4, ly5, ly6, ly7, ly8⟩ := gM_at hg (i := a) (by omega)
  have ly2' := (List.getElem?_eq_some_iff.1 ly2).2
  have lyc : (a : Int) < n := by omega
  have lyn : a < n := by omega
  have hll : (lls M).length = n := by simp [hn]
  have hsw := lls_swp (i := j) (j := a) (by omega) (by omega) lx5 ly5
  have hsl : (splice (lls M) j [.il (ints ly) ly.length false]).length = n := by rw [splice_one (lls M) _ _ (by simp; omega)]; simp [hn]
  delta p111_r8
  refine zD_cut 8 ?_ ?_ (fun K_ hK => ?_) ?_
  rotate_left 2
  · simp only [List.take_succ_cons, List.take_zero]
    simp (disch := omega) [oLt, oLe, oLtN, oLeN, nLt, nLe, nLtN, nLeN, lyc, lyn, ly2, ly2', hll]
    exact hK
  simp only [List.drop_succ_cons, List.drop_zero]
  refine zD_cut 4 ?_ ?_ (fun K_ hK => ?_) ?_
  rotate_left 2
  · simp only [List.take_succ_cons, List.take_zero]
    simp (disch := omega) [oLt, oLe, oLtN, oLeN, nLt, nLe, nLtN, nLeN, lxc, lxn, lx2, lx2', hll]
    exact hK
  simp only [List.drop_succ_cons, List.drop_zero]
  refine zD_cut 2 ?_ ?_ (fun K_ hK => ?_) ?_
  rotate_left 2
  · simp only [List.take_succ_cons, List.take_zero]
    simp (disch := omega) [oLt, oLe, oLtN, oLeN, nLt, nLe, nLtN, nLeN, lxc, lxn, hll]
    exact hK
  simp only [List.drop_succ_cons, List.drop_zero]
  refine zD_cut 2 ?_ ?_ (fun K_ hK => ?_) ?_
  rotate_left 2
  · simp only [List.take_succ_cons, List.take_zero]
    simp (disch := omega) [oLt, oLe, oLtN, oLeN, nLt, nLe, nLtN, nLeN, lyc, lyn, hsl, hsw]
    exact hK
  simp only [List.drop_succ_cons, List.drop_zero]
  refine goD_ok (by decide) ?_
  simp (disch := omega) [oLt, oLe, oLtN, oLeN, nLt, nLe, nLtN, nLeN]
  exact hK _
theorem sw_21 {a i j n nx0 : Nat} {M : List (List Int)} {E : List (Nat × AV)} {Q : Exit → ST → Prop} (hg : gM M = true) (hn : M.length = n) (hx : j < n) (hy : a < n)
    (hK : ∀ nx, Q .normal ⟨[(13, vI j)], [(0, .cells (lls (swp M j a)))], nx⟩) : zD (rZ (spc [sC cf])) (goD ancS [13] Q) p111_r21 [] ⟨[(0, .ref 0 0 n 1 none), (1, vI a), (4, (fnC cf)), (12, vI i), (13, vI j)], [(0, .cells (lls M))], nx0⟩ := by
  obtain ⟨lx, u, lx1, lx2, lx3, lx4, lx5, lx6, lx7, lx8⟩ := gM_at hg (i := j) (by omega)
  have lx2' := (List.getElem?_eq_some_iff.1 lx2).2
  have lxc : (j : Int) < n := by omega
  have lxn : j < n := by omega
  obtain ⟨ly, v, ly1, ly2, ly3, ly4, ly5, ly6, ly7, ly8⟩ := gM_at hg (i := a) (by omega)
  have ly2' := (List.getElem?_eq_some_iff.1 ly2).2
  have lyc : (a : Int) < n := by omega
  have lyn : a < n := by omega
  have hll : (lls M).length = n := by simp [hn]
  have hsw := lls_swp (i := j) (j := a) (by omega) (by omega) lx5 ly5
  have hsl : (splice (lls M) j [.il (ints ly) ly.length false]).length = n := by rw [splice_one (lls M) _ _ (by simp; omega)]; simp [hn]
  delta p111_r21
  refine zD_cut 8 ?_ ?_ (fun K_ hK => ?_) ?_
  rotate_left 2
  · simp only [List.take_succ_cons, List.take_zero]
    simp (disch := omega) [oLt, oLe, oLtN, oLeN, nLt, nLe, nLtN, nLeN, lyc, lyn, ly2, ly2', hll]
    exact hK
  simp only [List.drop_succ_cons, List.drop_zero]
  refine zD_cut 4 ?_ ?_ (fun K_ hK => ?_) ?_
  rotate_left 2
  · simp only [List.take_succ_cons, List.take_zero]
    simp (disch := omega) [oLt, oLe, oLtN, oLeN, nLt, nLe, nLtN, nLeN, lxc, lxn, lx2, lx2', hll]
    exact hK
  simp only [List.drop_succ_cons, List.drop_zero]
  refine zD_cut 2 ?_ ?_ (fun K_ hK => ?_) ?_
  rotate_left 2
  · simp only [List.take_succ_cons, List.take_zero]
    simp (disch := omega) [oLt, oLe, oLtN, oLeN, nLt, nLe, nLtN, nLeN, lxc, lxn, hll]
    exact hK
  simp only [List.drop_succ_cons, List.drop_zero]
  refine zD_cut 2 ?_ ?_ (fun K_ hK => ?_) ?_
  rotate_left 2
  · simp only [List.take_succ_cons, List.take_zero]
    simp (disch := omega) [oLt, oLe, oLtN, oLeN, nLt, nLe, nLtN, nLeN, lyc, lyn, hsl, hsw]
    exact hK
  simp only [List.drop_succ_cons, List.drop_zero]
  refine goD_ok (by decide) ?_
  simp (disch := omega) [oLt, oLe, oLtN, oLeN, nLt, nLe, nLtN, nLeN]
  exact hK _
theorem sw_10 {a i j n nx0 : Nat} {M : List (List Int)} {E : List (Nat × AV)} {Q : Exit → ST → Prop} (hg : gM M = true) (hn : M.length = n) (hx : i < n) (hy : j < n)
    (hK : ∀ nx, Q .normal ⟨[(0, .ref 0 0 n 1 none), (1, vI a), (4, (fnC cf)), (12, vI i), (13, vI j)], [(0, .cells (lls (swp M i j)))], nx⟩) : zD (rZ (spc [sC cf])) (goD ancS [0, 1, 4, 12, 13] Q) p111_r10 [] ⟨[(0, .ref 0 0 n 1 none), (1, vI a), (4, (fnC cf)), (12, vI i), (13, vI j), (71, .v (.bool false))], [(0, .cells (lls M))], nx0⟩ := by
  obtain ⟨lx, u, lx1, lx2, lx3, lx4, lx5, lx6, lx7, lx8⟩ := gM_at hg (i := i) (by omega)
  have lx2' := (List.getElem?_eq_some_iff.1 lx2).2
  have lxc : (i : Int) < n := by omega
  have lxn : i < n := by omega
  obtain ⟨ly, v, ly1, ly2, ly3, ly4, ly5, ly6, ly7, ly8⟩ := gM_at hg (i := j) (by omega)
  have ly2' := (List.getElem?_eq_some_iff.1 ly2).2
  have lyc : (j : Int) < n := by omega
  have lyn : j < n := by omega
  have hll : (lls M).length = n := by simp [hn]
  have hsw := lls_swp (i := i) (j := j) (by omega) (by omega) lx5 ly5
  have hsl : (splice (lls M) i [.il (ints ly) ly.length false]).length = n := by rw [splice_one (lls M) _ _ (by simp; omega)]; simp [hn]
  delta p111_r10
  refine zD_cut 8 ?_ ?_ (fun K_ hK => ?_) ?_
  rotate_left 2
  · simp only [List.take_succ_cons, List.take_zero]
    simp (disch := omega) [oLt, oLe, oLtN, oLeN, nLt, nLe, nLtN, nLeN, lyc, lyn, ly2, ly2', hll]
    exact hK
  simp only [List.drop_succ_cons, List.drop_zero]
  refine zD_cut 4 ?_ ?_ (fun K_ hK => ?_) ?_
  rotate_left 2
  · simp only [List.take_succ_cons, List.take_zero]
    simp (disch := omega) [oLt, oLe, oLtN, oLeN, nLt, nLe, nLtN, nLeN, lxc, lxn, lx2, lx2', hll]
    exact hK
  simp only [List.drop_succ_cons, List.drop_zero]
  refine zD_cut 2 ?_ ?_ (fun K_ hK => ?_) ?_
  rotate_left 2
  · simp only [List.take_succ_cons, List.take_zero]
    simp (disch := omega) [oLt, oLe, oLtN, oLeN, nLt, nLe, nLtN, nLeN, lxc, lxn, hll]
    exact hK
  simp only [List.drop_succ_cons, List.drop_zero]
  refine zD_cut 2 ?_ ?_ (fun K_ hK => ?_) ?_
  rotate_left 2
  · simp only [List.take_succ_cons, List.take_zero]
    simp (disch := omega) [oLt, oLe, oLtN, oLeN, nLt, nLe, nLtN, nLeN, lyc, lyn, hsl, hsw]
    exact hK
  simp only [List.drop_succ_cons, List.drop_zero]
  refine goD_ok (by decide) ?_
  simp (disch := omega) [oLt, oLe, oLtN, oLeN, nLt, nLe, nLtN, nLeN]
  exact hK _
theorem sw_18 {a i j n nx0 : Nat} {M : List (List Int)} {E : List (Nat × AV)} {Q : Exit → ST → Prop} (hg : gM M = true) (hn : M.length = n) (hx : i < n) (hy : j < n)
    (hK : ∀ nx, Q .normal ⟨[(0, .ref 0 0 n 1 none), (1, vI a), (4, (fnC cf)), (12, vI i), (13, vI j)], [(0, .cells (lls (swp M i j)))], nx⟩) : zD (rZ (spc [sC cf])) (goD ancS [0, 1, 4, 12, 13] Q) p111_r18 [] ⟨[(0, .ref 0 0 n 1 none), (1, vI a), (4, (fnC cf)), (12, vI i), (13, vI j), (144, .v (.bool false))], [(0, .cells (lls M))], nx0⟩ := by
  obtain ⟨lx, u, lx1, lx2, lx3, lx4, lx5, lx6, lx7, lx8⟩ := gM_at hg (i := i) (by omega)
  have lx2' := (List.getElem?_eq_some_iff.1 lx2).2
  have lxc : (i : Int) < n := by omega
  have lxn : i < n := by omega
  obtain ⟨ly, v, ly1, ly2, ly3, ly4, ly5, ly6, ly7, ly8⟩ := gM_at hg (i := j) (by omega)
  have ly2' := (List.getElem?_eq_some_iff.1 ly2).2
  have lyc : (j : Int) < n := by omega
  have lyn : j < n := by omega
  have hll : (lls M).length = n := by simp [hn]
  have hsw := lls_swp (i := i) (j := j) (by omega) (by omega) lx5 ly5
  have hsl : (splice (lls M) i [.il (ints ly) ly.length false]).length = n := by rw [splice_one (lls M) _ _ (by simp; omega)]; simp [hn]
  delta p111_r18
  refine zD_cut 8 ?_ ?_ (fun K_ hK => ?_) ?_
  rotate_left 2
  · simp only [List.take_succ_cons, List.take_zero]
    simp (disch := omega) [oLt, oLe, oLtN, oLeN, nLt, nLe, nLtN, nLeN, lyc, lyn, ly2, ly2', hll]
    exact hK
  simp only [List.drop_succ_cons, List.drop_zero]
  refine zD_cut 4 ?_ ?_ (fun K_ hK => ?_) ?_
  rotate_left 2
  · simp only [List.take_succ_cons, List.take_zero]
    simp (disch := omega) [oLt, oLe, oLtN, oLeN, nLt, nLe, nLtN, nLeN, lxc, lxn, lx2, lx2', hll]
    exact hK
  simp only [List.drop_succ_cons, List.drop_zero]
  refine zD_cut 2 ?_ ?_ (fun K_ hK => ?_) ?_
  rotate_left 2
  · simp only [List.take_succ_cons, List.take_zero]
    simp (disch := omega) [oLt, oLe, oLtN, oLeN, nLt, nLe, nLtN, nLeN, lxc, lxn, hll]
    exact hK
  simp only [List.drop_succ_cons, List.drop_zero]
  refine zD_cut 2 ?_ ?_ (fun K_ hK => ?_) ?_
  rotate_left 2
  · simp only [List.take_succ_cons, List.take_zero]
    simp (disch := omega) [oLt, oLe, oLtN, oLeN, nLt, nLe, nLtN, nLeN, lyc, lyn, hsl, hsw]
    exact hK
  simp only [List.drop_succ_cons, List.drop_zero]
  refine goD_ok (by decide) ?_
  simp (disch := omega) [oLt, oLe, oLtN, oLeN, nLt, nLe, nLtN, nLeN]
  exact hK _
theorem l0_111 {a i0 j n T : Nat} {M : List (List Int)} {s0 : ST} {Q : Exit → ST → Prop} (hT : upF M a j (j + 1 - i0) i0 = T) (hg : gM M = true) (hn : M.length = n) (ha : a < n) (hj : j < n) (hi0 : i0 ≤ j + 1)
    (hs0 : ChgT 1 s0 ⟨[(0, .ref 0 0 n 1 none), (1, vI a), (4, (fnC cf)), (12, vI i0), (13, vI j)], [(0, .cells (lls M))], 1⟩) (hq : Q (.exit 0) ⟨[(0, .ref 0 0 n 1 none), (1, vI a), (4, (fnC cf)), (12, vI T), (13, vI j)], [(0, .cells (lls M))], 1⟩) : XZ (rZ (spc [sC cf])) 1 (.loop p111_l0) s0 Q := by
  refine XZ_for (fun i : Nat => ⟨[(0, .ref 0 0 n 1 none), (1, vI a), (4, (fnC cf)), (12, vI i), (13, vI j)], [(0, .cells (lls M))], 1⟩) (fun i => j + 1 - i) (fun i => upF M a j (j + 1 - i) i = T ∧ i ≤ j + 1) i0 ⟨hT, hi0⟩ hs0 ?_
  rintro i ⟨hinv, hij⟩ N' Q' hN hE
  have h64 : n ≤ 64 := by simp only [gM, Bool.and_eq_true, decide_eq_true_eq] at hg; omega
  by_cases hlt : i ≤ j
  · have hac : (i : Int) ≤ j := by omega
    obtain ⟨lx, u, lx1, lx2, lx3, lx4, lx5, lx6, lx7, lx8⟩ := gM_at hg (i := i) (by omega)
    have lx2' := (List.getElem?_eq_some_iff.1 lx2).2
    have lxc : (i : Int) < n := by omega
    have lxn : i < n := by omega
    obtain ⟨ly, v, ly1, ly2, ly3, ly4, ly5, ly6, ly7, ly8⟩ := gM_at hg (i := a) (by omega)
    have ly2' := (List.getElem?_eq_some_iff.1 ly2).2
    have lyc : (a : Int) < n := by omega
    have lyn : a < n := by omega
    have hll : (lls M).length = n := by simp [hn]
    have e : j + 1 - i = (j + 1 - (i + 1)) + 1 := by omega
    rw [e] at hinv
    simp only [upF, lx4, ly4] at hinv
    refine XZ_seqG (XZ_seqG (XZ_drawG ?_))
    delta p111_r3
    refine zD_cut 4 ?_ ?_ (fun K_ hK => ?_) ?_
    rotate_left 2
    · simp only [List.take_succ_cons, List.take_zero]
      simp (disch := omega) [oLt, oLe, oLtN, oLeN, nLt, nLe, nLtN, nLeN, hac]
      exact hK
    simp only [List.drop_succ_cons, List.drop_zero]
    refine zD_cut 5 ?_ ?_ (fun K_ hK => ?_) ?_
    rotate_left 2
    · simp only [List.take_succ_cons, List.take_zero]
      simp (disch := omega) [oLt, oLe, oLtN, oLeN, nLt, nLe, nLtN, nLeN, lxc, lxn, lx2, lx2', hll]
      exact hK
    simp only [List.drop_succ_cons, List.drop_zero]
    refine zD_cut 4 ?_ ?_ (fun K_ hK => ?_) ?_
    rotate_left 2
    · simp only [List.take_succ_cons, List.take_zero]
      simp (disch := omega) [oLt, oLe, oLtN, oLeN, nLt, nLe, nLtN, nLeN, lyc, lyn, ly2, ly2', hll]
      exact hK
    simp only [List.drop_succ_cons, List.drop_zero]
    refine zD_cut 1 ?_ ?_ (fun K_ hK => ?_) ?_
    rotate_left 2
    · simp only [List.take_succ_cons, List.take_zero]
      simp (disch := omega) [oLt, oLe, oLtN, oLeN, nLt, nLe, nLtN, nLeN, lx3, ly3, lx6, ly6]
      exact hK
    simp only [List.drop_succ_cons, List.drop_zero]
    by_cases huv : u < v
    · rw [if_pos ⟨hlt, huv⟩] at hinv
      have hdf : u - v < 0 := by omega
      refine zD_cut 2 ?_ ?_ (fun K_ hK => ?_) ?_
      rotate_left 2
      · simp only [List.take_succ_cons, List.take_zero]
        simp (disch := omega) [oLt, oLe, oLtN, oLeN, nLt, nLe, nLtN, nLeN, hdf]
        exact hK
      simp only [List.drop_succ_cons, List.drop_zero]
      refine goD_ok (by decide) ?_
      simp (disch := omega) [oLt, oLe, oLtN, oLeN, nLt, nLe, nLtN, nLeN]
      delta p111_r4
      simp (disch := omega) [oLt, oLe, oLtN, oLeN, nLt, nLe, nLtN, nLeN]
      exact hN _ (i + 1) (by omega) ⟨hinv, by omega⟩ (.tot [] (by simp))
    · rw [if_neg (fun h => huv h.2)] at hinv
      rw [← hinv] at hq
      have hdf : ¬ u - v < 0 := by omega
      refine zD_cut 2 ?_ ?_ (fun K_ hK => ?_) ?_
      rotate_left 2
      · simp only [List.take_succ_cons, List.take_zero]
        simp (disch := omega) [oLt, oLe, oLtN, oLeN, nLt, nLe, nLtN, nLeN, hdf]
        exact hK
      simp only [List.drop_succ_cons, List.drop_zero]
      refine goD_ok (by decide) ?_
      simp (disch := omega) [oLt, oLe, oLtN, oLeN, nLt, nLe, nLtN, nLeN]
      exact hE _ _ _ (.tot [] (by simp)) hq
  · have hac : ¬ (i : Int) ≤ j := by omega
    have e : j + 1 - i = 0 := by omega
    rw [e] at hinv
    simp only [upF] at hinv
    rw [← hinv] at hq
    clear hN
    delta p111_l0 p111_r3 p111_r4
    simp (disch := omega) [oLt, oLe, oLtN, oLeN, nLt, nLe, nLtN, nLeN, hac]
    exact hE _ _ _ (.tot [] (by simp)) hq
theorem l1_111 {a i j0 n T : Nat} {M : List (List Int)} {s0 : ST} {Q : Exit → ST → Prop} (hT : dnF M a i j0 = T) (hg : gM M = true) (hn : M.length = n) (ha : a < n) (hj : j0 < n) (hi : a < i)
    (hs0 : ChgT 1 s0 ⟨[(0, .ref 0 0 n 1 none), (1, vI a), (4, (fnC cf)), (12, vI i), (13, vI j0)], [(0, .cells (lls M))], 1⟩) (hq : Q (.exit 2) ⟨[(0, .ref 0 0 n 1 none), (1, vI a), (4, (fnC cf)), (12, vI i), (13, vI T)], [(0, .cells (lls M))], 1⟩) : XZ (rZ (spc [sC cf])) 1 (.loop p111_l1) s0 Q := by
  refine XZ_for (fun j : Nat => ⟨[(0, .ref 0 0 n 1 none), (1, vI a), (4, (fnC cf)), (12, vI i), (13, vI j)], [(0, .cells (lls M))], 1⟩) (fun j => j) (fun j => dnF M a i j = T ∧ j < n) j0 ⟨hT, hj⟩ hs0 ?_
  rintro j ⟨hinv, hj⟩ N' Q' hN hE
  have h64 : n ≤ 64 := by simp only [gM, Bool.and_eq_true, decide_eq_true_eq] at hg; omega
  by_cases hlt : i ≤ j
  · have hac : (i : Int) ≤ j := by omega
    obtain ⟨lx, u, lx1, lx2, lx3, lx4, lx5, lx6, lx7, lx8⟩ := gM_at hg (i := j) (by omega)
    have lx2' := (List.getElem?_eq_some_iff.1 lx2).2
    have lxc : (j : Int) < n := by omega
    have lxn : j < n := by omega
    obtain ⟨ly, v, ly1, ly2, ly3, ly4, ly5, ly6, ly7, ly8⟩ := gM_at hg (i := a) (by omega)
    have ly2' := (List.getElem?_eq_some_iff.1 ly2).2
    have lyc : (a : Int) < n := by omega
    have lyn : a < n := by omega
    have hll : (lls M).length = n := by simp [hn]
    have hdn : dnF M a i j = if i ≤ j ∧ ¬ u < v then dnF M a i (j - 1) else j := by
      obtain ⟨k, rfl⟩ : ∃ k, j = k + 1 := ⟨j - 1, by omega⟩
      simp only [dnF, lx4, ly4, Nat.add_sub_cancel]
    rw [hdn] at hinv
    refine XZ_seqG (XZ_seqG (XZ_drawG ?_))
    delta p111_r5
    refine zD_cut 4 ?_ ?_ (fun K_ hK => ?_) ?_
    rotate_left 2
    · simp only [List.take_succ_cons, List.take_zero]
      simp (disch := omega) [oLt, oLe, oLtN, oLeN, nLt, nLe, nLtN, nLeN, hac]
      exact hK
    simp only [List.drop_succ_cons, List.drop_zero]
    refine zD_cut 5 ?_ ?_ (fun K_ hK => ?_) ?_
    rotate_left 2
    · simp only [List.take_succ_cons, List.take_zero]
      simp (disch := omega) [oLt, oLe, oLtN, oLeN, nLt, nLe, nLtN, nLeN, lxc, lxn, lx2, lx2', hll]
      exact hK
    simp only [List.drop_succ_cons, List.drop_zero]
    refine zD_cut 4 ?_ ?_ (fun K_ hK => ?_) ?_
    rotate_left 2
    · simp only [List.take_succ_cons, List.take_zero]
      simp (disch := omega) [oLt, oLe, oLtN, oLeN, nLt, nLe, nLtN, nLeN, lyc, lyn, ly2, ly2', hll]
      exact hK
    simp only [List.drop_succ_cons, List.drop_zero]
    refine zD_cut 1 ?_ ?_ (fun K_ hK => ?_) ?_
    rotate_left 2
    · simp only [List.take_succ_cons, List.take_zero]
      simp (disch := omega) [oLt, oLe, oLtN, oLeN, nLt, nLe, nLtN, nLeN, lx3, ly3, lx6, ly6]
      exact hK
    simp only [List.drop_succ_cons, List.drop_zero]
    by_cases huv : u < v
    · rw [if_neg (fun h => h.2 huv)] at hinv
      rw [← hinv] at hq
      have hdf : u - v < 0 := by omega
      refine zD_cut 3 ?_ ?_ (fun K_ hK => ?_) ?_
      rotate_left 2
      · simp only [List.take_succ_cons, List.take_zero]
        simp (disch := omega) [oLt, oLe, oLtN, oLeN, nLt, nLe, nLtN, nLeN, hdf]
        exact hK
      simp only [List.drop_succ_cons, List.drop_zero]
      refine goD_ok (by decide) ?_
      simp (disch := omega) [oLt, oLe, oLtN, oLeN, nLt, nLe, nLtN, nLeN]
      exact hE _ _ _ (.tot [] (by simp)) hq
    · rw [if_pos ⟨hlt, huv⟩] at hinv
      have hdf : ¬ u - v < 0 := by omega
      refine zD_cut 3 ?_ ?_ (fun K_ hK => ?_) ?_
      rotate_left 2
      · simp only [List.take_succ_cons, List.take_zero]
        simp (disch := omega) [oLt, oLe, oLtN, oLeN, nLt, nLe, nLtN, nLeN, hdf]
        exact hK
      simp only [List.drop_succ_cons, List.drop_zero]
      refine goD_ok (by decide) ?_
      simp (disch := omega) [oLt, oLe, oLtN, oLeN, nLt, nLe, nLtN, nLeN]
      delta p111_r6
      simp (disch := omega) [oLt, oLe, oLtN, oLeN, nLt, nLe, nLtN, nLeN]
      exact hN _ (j - 1) (by omega) ⟨hinv, by omega⟩ (.tot [] (by simp; omega))
  · have hac : ¬ (i : Int) ≤ j := by omega
    have hdn : dnF M a i j = j := by
      cases j with
      | zero => rfl
      | succ j => simp only [dnF]; rw [if_neg (fun h => hlt h.1)]
    rw [hdn] at hinv
    rw [← hinv] at hq
    clear hN
    delta p111_l1 p111_r5 p111_r6
    simp (disch := omega) [oLt, oLe, oLtN, oLeN, nLt, nLe, nLtN, nLeN, hac]
    exact hE _ _ _ (.tot [] (by simp)) hq
theorem l2_111 {a i0 j n T : Nat} {M : List (List Int)} {s0 : ST} {Q : Exit → ST → Prop} (hT : upF M a j (j + 1 - i0) i0 = T) (hg : gM M = true) (hn : M.length = n) (ha : a < n) (hj : j < n) (hi0 : i0 ≤ j + 1)
    (hs0 : ChgT 1 s0 ⟨[(0, .ref 0 0 n 1 none), (1, vI a), (4, (fnC cf)), (12, vI i0), (13, vI j)], [(0, .cells (lls M))], 1⟩) (hq : Q (.exit 6) ⟨[(0, .ref 0 0 n 1 none), (1, vI a), (4, (fnC cf)), (12, vI T), (13, vI j)], [(0, .cells (lls M))], 1⟩) : XZ (rZ (spc [sC cf])) 1 (.loop p111_l2) s0 Q := by
  refine XZ_for (fun i : Nat => ⟨[(0, .ref 0 0 n 1 none), (1, vI a), (4, (fnC cf)), (12, vI i), (13, vI j)], [(0, .cells (lls M))], 1⟩) (fun i => j + 1 - i) (fun i => upF M a j (j + 1 - i) i = T ∧ i ≤ j + 1) i0 ⟨hT, hi0⟩ hs0 ?_
  rintro i ⟨hinv, hij⟩ N' Q' hN hE
  have h64 : n ≤ 64 := by simp only [gM, Bool.and_eq_true, decide_eq_true_eq] at hg; omega
  by_cases hlt : i ≤ j
  · have hac : (i : Int) ≤ j := by omega
    obtain ⟨lx, u, lx1, lx2, lx3, lx4, lx5, lx6, lx7, lx8⟩ := gM_at hg (i := i) (by omega)
    have lx2' := (List.getElem?_eq_some_iff.1 lx2).2
    have lxc : (i : Int) < n := by omega
    have lxn : i < n := by omega
    obtain ⟨ly, v, ly1, ly2, ly3, ly4, ly5, ly6, ly7, ly8⟩ := gM_at hg (i := a) (by omega)
    have ly2' := (List.getElem?_eq_some_iff.1 ly2).2
    have lyc : (a : Int) < n := by omega
    have lyn : a < n := by omega
    have hll : (lls M).length = n := by simp [hn]
    have e : j + 1 - i = (j + 1 - (i + 1)) + 1 := by omega
    rw [e] at hinv
    simp only [upF, lx4, ly4] at hinv
    refine XZ_seqG (XZ_seqG (XZ_drawG ?_))
    delta p111_r13
    refine zD_cut 4 ?_ ?_ (fun K_ hK => ?_) ?_
    rotate_left 2
    · simp only [List.take_succ_cons, List.take_zero]
      simp (disch := omega) [oLt, oLe, oLtN, oLeN, nLt, nLe, nLtN, nLeN, hac]
      exact hK
    simp only [List.drop_succ_cons, List.drop_zero]
    refine zD_cut 5 ?_ ?_ (fun K_ hK => ?_) ?_
    rotate_left 2
    · simp only [List.take_succ_cons, List.take_zero]
      simp (disch := omega) [oLt, oLe, oLtN, oLeN, nLt, nLe, nLtN, nLeN, lxc, lxn, lx2, lx2', hll]
      exact hK
    simp only [List.drop_succ_cons, List.drop_zero]
    refine zD_cut 4 ?_ ?_ (fun K_ hK => ?_) ?_
    rotate_left 2
    · simp only [List.take_succ_cons, List.take_zero]
      simp (disch := omega) [oLt, oLe, oLtN, oLeN, nLt, nLe, nLtN, nLeN, lyc, lyn, ly2, ly2', hll]
      exact hK
    simp only [List.drop_succ_cons, List.drop_zero]
    refine zD_cut 1 ?_ ?_ (fun K_ hK => ?_) ?_
    rotate_left 2
    · simp only [List.take_succ_cons, List.take_zero]
      simp (disch := omega) [oLt, oLe, oLtN, oLeN, nLt, nLe, nLtN, nLeN, lx3, ly3, lx6, ly6]
      exact hK
    simp only [List.drop_succ_cons, List.drop_zero]
    by_cases huv : u < v
    · rw [if_pos ⟨hlt, huv⟩] at hinv
      have hdf : u - v < 0 := by omega
      refine zD_cut 2 ?_ ?_ (fun K_ hK => ?_) ?_
      rotate_left 2
      · simp only [List.take_succ_cons, List.take_zero]
        simp (disch := omega) [oLt, oLe, oLtN, oLeN, nLt, nLe, nLtN, nLeN, hdf]
        exact hK
      simp only [List.drop_succ_cons, List.drop_zero]
      refine goD_ok (by decide) ?_
      simp (disch := omega) [oLt, oLe, oLtN, oLeN, nLt, nLe, nLtN, nLeN]
      delta p111_r14
      simp (disch := omega) [oLt, oLe, oLtN, oLeN, nLt, nLe, nLtN, nLeN]
      exact hN _ (i + 1) (by omega) ⟨hinv, by omega⟩ (.tot [] (by simp))
    · rw [if_neg (fun h => huv h.2)] at hinv
      rw [← hinv] at hq
      have hdf : ¬ u - v < 0 := by omega
      refine zD_cut 2 ?_ ?_ (fun K_ hK => ?_) ?_
      rotate_left 2
      · simp only [List.take_succ_cons, List.take_zero]
        simp (disch := omega) [oLt, oLe, oLtN, oLeN, nLt, nLe, nLtN, nLeN, hdf]
        exact hK
      simp only [List.drop_succ_cons, List.drop_zero]
      refine goD_ok (by decide) ?_
      simp (disch := omega) [oLt, oLe, oLtN, oLeN, nLt, nLe, nLtN, nLeN]
      exact hE _ _ _ (.tot [] (by simp)) hq
  · have hac : ¬ (i : Int) ≤ j := by omega
    have e : j + 1 - i = 0 := by omega
    rw [e] at hinv
    simp only [upF] at hinv
    rw [← hinv] at hq
    clear hN
    delta p111_l2 p111_r13 p111_r14
    simp (disch := omega) [oLt, oLe, oLtN, oLeN, nLt, nLe, nLtN, nLeN, hac]
    exact hE _ _ _ (.tot [] (by simp)) hq
theorem l3_111 {a i j0 n T : Nat} {M : List (List Int)} {s0 : ST} {Q : Exit → ST → Prop} (hT : dnF M a i j0 = T) (hg : gM M = true) (hn : M.length = n) (ha : a < n) (hj : j0 < n) (hi : a < i)
    (hs0 : ChgT 1 s0 ⟨[(0, .ref 0 0 n 1 none), (1, vI a), (4, (fnC cf)), (12, vI i), (13, vI j0)], [(0, .cells (lls M))], 1⟩) (hq : Q (.exit 8) ⟨[(0, .ref 0 0 n 1 none), (1, vI a), (4, (fnC cf)), (12, vI i), (13, vI T)], [(0, .cells (lls M))], 1⟩) : XZ (rZ (spc [sC cf])) 1 (.loop p111_l3) s0 Q := by
  refine XZ_for (fun j : Nat => ⟨[(0, .ref 0 0 n 1 none), (1, vI a), (4, (fnC cf)), (12, vI i), (13, vI j)], [(0, .cells (lls M))], 1⟩) (fun j => j) (fun j => dnF M a i j = T ∧ j < n) j0 ⟨hT, hj⟩ hs0 ?_
  rintro j ⟨hinv, hj⟩ N' Q' hN hE
  have h64 : n ≤ 64 := by simp only [gM, Bool.and_eq_true, decide_eq_true_eq] at hg; omega
  by_cases hlt : i ≤ j
  · have hac : (i : Int) ≤ j := by omega
    obtain ⟨lx, u, lx1, lx2, lx3, lx4, lx5, lx6, lx7, lx8⟩ := gM_at hg (i := j) (by omega)
    have lx2' := (List.getElem?_eq_some_iff.1 lx2).2
    have lxc : (j : Int) < n := by omega
    have lxn : j < n := by omega
    obtain ⟨ly, v, ly1, ly2, ly3, ly4, ly5, ly6, ly7, ly8⟩ := gM_at hg (i := a) (by omega)
    have ly2' := (List.getElem?_eq_some_iff.1 ly2).2
    have lyc : (a : Int) < n := by omega
    have lyn : a < n := by omega
    have hll : (lls M).length = n := by simp [hn]
    have hdn : dnF M a i j = if i ≤ j ∧ ¬ u < v then dnF M a i (j - 1) else j := by
      obtain ⟨k, rfl⟩ : ∃ k, j = k + 1 := ⟨j - 1, by omega⟩
      simp only [dnF, lx4, ly4, Nat.add_sub_cancel]
    rw [hdn] at hinv
    refine XZ_seqG (XZ_seqG (XZ_drawG ?_))
    delta p111_r15
    refine zD_cut 4 ?_ ?_ (fun K_ hK => ?_) ?_
    rotate_left 2
    · simp only [List.take_succ_cons, List.take_zero]
      simp (disch := omega) [oLt, oLe, oLtN, oLeN, nLt, nLe, nLtN, nLeN, hac]
      exact hK
    simp only [List.drop_succ_cons, List.drop_zero]
    refine zD_cut 5 ?_ ?_ (fun K_ hK => ?_) ?_
    rotate_left 2
    · simp only [List.take_succ_cons, List.take_zero]
      simp (disch := omega) [oLt, oLe, oLtN, oLeN, nLt, nLe, nLtN, nLeN, lxc, lxn, lx2, lx2', hll]
      exact hK
    simp only [List.drop_succ_cons, List.drop_zero]
    refine zD_cut 4 ?_ ?_ (fun K_ hK => ?_) ?_
    rotate_left 2
    · simp only [List.take_succ_cons, List.take_zero]
      simp (disch := omega) [oLt, oLe, oLtN, oLeN, nLt, nLe, nLtN, nLeN, lyc, lyn, ly2, ly2', hll]
      exact hK
    simp only [List.drop_succ_cons, List.drop_zero]
    refine zD_cut 1 ?_ ?_ (fun K_ hK => ?_) ?_
    rotate_left 2
    · simp only [List.take_succ_cons, List.take_zero]
      simp (disch := omega) [oLt, oLe, oLtN, oLeN, nLt, nLe, nLtN, nLeN, lx3, ly3, lx6, ly6]
      exact hK
    simp only [List.drop_succ_cons, List.drop_zero]
    by_cases huv : u < v
    · rw [if_neg (fun h => h.2 huv)] at hinv
      rw [← hinv] at hq
      have hdf : u - v < 0 := by omega
      refine zD_cut 3 ?_ ?_ (fun K_ hK => ?_) ?_
      rotate_left 2
      · simp only [List.take_succ_cons, List.take_zero]
        simp (disch := omega) [oLt, oLe, oLtN, oLeN, nLt, nLe, nLtN, nLeN, hdf]
        exact hK
      simp only [List.drop_succ_cons, List.drop_zero]
      refine goD_ok (by decide) ?_
      simp (disch := omega) [oLt, oLe, oLtN, oLeN, nLt, nLe, nLtN, nLeN]
      exact hE _ _ _ (.tot [] (by simp)) hq
    · rw [if_pos ⟨hlt, huv⟩] at hinv
      have hdf : ¬ u - v < 0 := by omega
      refine zD_cut 3 ?_ ?_ (fun K_ hK => ?_) ?_
      rotate_left 2
      · simp only [List.take_succ_cons, List.take_zero]
        simp (disch := omega) [oLt, oLe, oLtN, oLeN, nLt, nLe, nLtN, nLeN, hdf]
        exact hK
      simp only [List.drop_succ_cons, List.drop_zero]
      refine goD_ok (by decide) ?_
      simp (disch := omega) [oLt, oLe, oLtN, oLeN, nLt, nLe, nLtN, nLeN]
      delta p111_r16
      simp (disch := omega) [oLt, oLe, oLtN, oLeN, nLt, nLe, nLtN, nLeN]
      exact hN _ (j - 1) (by omega) ⟨hinv, by omega⟩ (.tot [] (by simp; omega))
  · have hac : ¬ (i : Int) ≤ j := by omega
    have hdn : dnF M a i j = j := by
      cases j with
      | zero => rfl
      | succ j => simp only [dnF]; rw [if_neg (fun h => hlt h.1)]
    rw [hdn] at hinv
    rw [← hinv] at hq
    clear hN
    delta p111_l3 p111_r15 p111_r16
    simp (disch := omega) [oLt, oLe, oLtN, oLeN, nLt, nLe, nLtN, nLeN, hac]
    exact hE _ _ _ (.tot [] (by simp)) hq
end
section
set_option maxRecDepth 4000
variable {cf : Nat}
set_option maxHeartbeats 4000000
theorem l4_111 {a b n f0 i0 j0 jT : Nat} {M0 T : List (List Int)} {s0 : ST} {Q : Exit → ST → Prop} (hT : parL a f0 M0 i0 j0 = (T, jT)) (hP : Pt a b i0 j0 M0) (hf : j0 + 1 < i0 + f0) (hg : gM M0 = true) (hn : M0.length = n)
    (hs0 : ChgT 1 s0 ⟨[(0, .ref 0 0 n 1 none), (1, vI a), (4, (fnC cf)), (12, vI i0), (13, vI j0)], [(0, .cells (lls M0))], 1⟩)
    (hq : ∀ i : Nat, Q (.exit 4) ⟨[(0, .ref 0 0 n 1 none), (1, vI a), (4, (fnC cf)), (12, vI i), (13, vI jT)], [(0, .cells (lls T))], 1⟩) : XZ (rZ (spc [sC cf])) 1 (.loop p111_l4) s0 Q := by
  refine XZ_for (fun q : Nat × List (List Int) × Nat × Nat => ⟨[(0, .ref 0 0 n 1 none), (1, vI a), (4, (fnC cf)), (12, vI q.2.2.1), (13, vI q.2.2.2)], [(0, .cells (lls q.2.1))], 1⟩) (fun q => q.1)
    (fun q => parL a q.1 q.2.1 q.2.2.1 q.2.2.2 = (T, jT) ∧ Pt a b q.2.2.1 q.2.2.2 q.2.1 ∧ q.2.2.2 + 1 < q.2.2.1 + q.1 ∧ gM q.2.1 = true ∧ q.2.1.length = n) (f0, M0, i0, j0) ⟨hT, hP, hf, hg, hn⟩ hs0 ?_
  rintro ⟨f, M, i, j⟩ ⟨hinv, hP, hf, hg, hn⟩ N' Q' hN hE
  simp only at hinv hP hf hg hn hN ⊢
  obtain ⟨f, rfl⟩ : ∃ k, f = k + 1 := ⟨f - 1, by have := hP.ij; omega⟩
  simp only [parL] at hinv
  obtain ⟨n1, n2⟩ := hP.next
  have hai := hP.ai
  have hjb := hP.jb
  have hij := hP.ij
  have hbl := hP.bl
  have h64 : n ≤ 64 := by simp only [gM, Bool.and_eq_true, decide_eq_true_eq] at hg; omega
  delta p111_l4
  refine XZ_block9 (XZ_seqG (XZ_block9 ?_))
  refine l2_111 (a := a) (i0 := i) (j := j) (n := n) (M := M) rfl hg hn (by omega) (by omega) hij .refl ?_
  simp only [inBE, thenE, if_true]
  refine XZ_seqG (XZ_block9 ?_)
  obtain ⟨u1, -⟩ := upF_ok M a j (j + 1 - i) i (by omega)
  generalize upF M a j (j + 1 - i) i = i' at *
  refine l3_111 (a := a) (i := i') (j0 := j) (n := n) (M := M) rfl hg hn (by omega) (by omega) (by omega) .refl ?_
  simp only [inBE, thenE, if_true]
  generalize dnF M a i' j = j' at *
  by_cases hc : i' ≤ j'
  · rw [if_pos hc] at hinv
    obtain ⟨q1, q2, q3, q4⟩ := n1 hc
    have hgc : ¬ (j' : Int) < i' := by omega
    refine XZ_step ?_ (fun N Q_ hN => ?_) ?_
    rotate_left
    · delta p111_r17
      simp (disch := omega) [oLt, oLe, oLtN, oLeN, nLt, nLe, nLtN, nLeN, hgc]
      exact hN
    refine XZ_seqG (XZ_drawG ?_)
    refine sw_18 (E := []) hg hn (by omega) (by omega) fun nx => ?_
    simp only [thenE]
    delta p111_r19 p111_r20
    simp (disch := omega) [oLt, oLe, oLtN, oLeN, nLt, nLe, nLtN, nLeN]
    have := q1.ai
    exact hN _ (f, swp M i' j', i' + 1, j' - 1) (by simp only; omega) ⟨hinv, q1, by simp only; omega, gM_perm hg q4.perm, by simpa using hn⟩ (.tot [] (by simp; omega))
  · rw [if_neg hc] at hinv
    have hgc : (j' : Int) < i' := by omega
    cases hinv
    refine XZ_seqG (XZ_seqG ?_)
    delta p111_r17
    simp (disch := omega) [oLt, oLe, oLtN, oLeN, nLt, nLe, nLtN, nLeN, hgc]
    exact hE _ _ _ (.tot [] (by simp)) (hq i')
def f111 : List AV → HL → Nat → Option (AV × HL × Nat) := fun args h k => match args, h, k with
  | [.ref 0 0 n 1 none, .v (.int .i64 a), .v (.int .i64 b), .v (.int .i64 pv), .fn (.func cf) [] []], [(0, .cells cs)], 1 => match unlls cs with
    | some M => if cmpN cf = true ∧ n = M.length ∧ gM M = true ∧ 0 ≤ a ∧ a + 1 < b ∧ b ≤ n ∧ a ≤ pv ∧ pv < b then some (.tup [vI (parF a.toNat b.toNat pv.toNat M).2.1, vB (parF a.toNat b.toNat pv.toNat M).2.2], [(0, .cells (lls (parF a.toNat b.toNat pv.toNat M).1))], 1) else none
    | none => none
  | _, _, _ => none
def s111 : Sp := ⟨111, f111⟩
@[simp] theorem s111_g : s111.g = 111 := rfl
@[simp] theorem s111_f : s111.f = f111 := rfl
theorem f111_at {M : List (List Int)} {n a b pv : Nat} {cf : Nat} (hcm : cmpN cf = true) (hn : n = M.length) (hg : gM M = true) (ha : a + 1 < b) (hb : b ≤ n) (h1 : a ≤ pv) (h2 : pv < b) :
    f111 [.ref 0 0 n 1 none, vI a, vI b, vI pv, (fnC cf)] [(0, .cells (lls M))] 1 = some (.tup [vI (parF a b pv M).2.1, vB (parF a b pv M).2.2], [(0, .cells (lls (parF a b pv M).1))], 1) := by
  simp only [f111, unlls_lls]
  rw [if_pos ⟨hcm, hn, hg, by omega, by omega, by omega, by omega, by omega⟩]
  simp only [Int.toNat_natCast]
theorem s111_ok : s111.ok Tryd.prog := by
  intro args h k r h' k' hh
  simp only [s111_f, f111] at hh
  split at hh
  · rename_i n a b pv cf cs
    split at hh
    · rename_i M hl
      split at hh
      · rename_i hc
        obtain ⟨hcm, hn, hg, a1, ab, bn, p1, p2⟩ := hc
        cases hh
        rw [unlls_inv hl]
        obtain ⟨a, rfl⟩ := Int.eq_ofNat_of_zero_le a1
        obtain ⟨b, rfl⟩ := Int.eq_ofNat_of_zero_le (show 0 ≤ b by omega)
        obtain ⟨pv, rfl⟩ := Int.eq_ofNat_of_zero_le (show 0 ≤ pv by omega)
        simp only [Int.toNat_natCast]
        have h64 : n ≤ 64 := by simp only [gM, Bool.and_eq_true, decide_eq_true_eq] at hg; omega
        have hg1 : gM (swp M a pv) = true := gM_perm hg (swp_perm (by omega) (by omega))
        have hn1 : (swp M a pv).length = n := by simp [hn]
        have hP := pt_init (a := a) (b := b) (pv := pv) (M := M) (by omega) (by omega)
        simp only [hp_eq]
        refine P111.rz (ss := [sC cf]) ⟨sC_ok hcm, trivial⟩ (by simp) fun Q hQ => ?_
        delta p111
        refine XZ_step ?_ (fun N Q_ hN => ?_) ?_
        rotate_left
        · delta p111_r0; simp (disch := omega) [oLt, oLe, oLtN, oLeN, nLt, nLe, nLtN, nLeN]
          exact hN
        refine XZ_seqG (XZ_drawG ?_)
        refine sw_1 (E := []) hg hn.symm (by omega) (by omega) fun nx => ?_
        simp only [thenE]
        refine XZ_step ?_ (fun N Q_ hN => ?_) ?_
        rotate_left
        · delta p111_r2; simp (disch := omega) [oLt, oLe, oLtN, oLeN, nLt, nLe, nLtN, nLeN]
          exact hN
        refine XZ_seqG (XZ_block9 ?_)
        refine l0_111 (a := a) (i0 := a + 1) (j := b - 1) (n := n) (M := swp M a pv) rfl hg1 hn1 (by omega) (by omega) (by omega) (.tot [] (by simp; omega)) ?_
        simp only [inBE, thenE, if_true]
        obtain ⟨n1, n2⟩ := hP.next
        obtain ⟨u1, -⟩ := upF_ok (swp M a pv) a (b - 1) (b - 1 + 1 - (a + 1)) (a + 1) (by omega)
        unfold parF at hQ
        obtain ⟨R, hR⟩ : ∃ R, parL a b (swp M a pv) (a + 1) (b - 1) = R := ⟨_, rfl⟩
        rw [hR] at hQ
        obtain ⟨c, hbc⟩ : ∃ c, b = c + 1 := ⟨b - 1, by omega⟩
        have hR2 : parL a (c + 1) (swp M a pv) (a + 1) (b - 1) = R := by rw [← hbc]; exact hR
        simp only [parL] at hR2
        have hRok := parL_ok (f := b) hP (by omega)
        rw [hR] at hRok
        generalize upF (swp M a pv) a (b - 1) (b - 1 + 1 - (a + 1)) (a + 1) = i' at *
        refine XZ_seqG (XZ_block9 ?_)
        refine l1_111 (a := a) (i := i') (j0 := b - 1) (n := n) (M := swp M a pv) rfl hg1 hn1 (by omega) (by omega) (by omega) .refl ?_
        simp only [inBE, thenE, if_true]
        generalize dnF (swp M a pv) a i' (b - 1) = j' at *
        by_cases hc : i' ≤ j'
        · rw [if_pos hc] at hQ hR2
          obtain ⟨q1, q2, q3, q4⟩ := n1 hc
          have hgc : ¬ (j' : Int) < i' := by omega
          obtain ⟨T, jT⟩ := R
          obtain ⟨r1, r2, r3, -, -⟩ := hRok
          simp only at hQ r1 r2 r3
          have hgT : gM T = true := gM_perm hg1 r1.perm
          have hnT : T.length = n := by rw [r1.len, hn1]
          refine XZ_step ?_ (fun N Q_ hN => ?_) ?_
          rotate_left
          · delta p111_r7
            simp (disch := omega) [oLt, oLe, oLtN, oLeN, nLt, nLe, nLtN, nLeN, hgc]
            exact hN
          refine XZ_seqG (XZ_drawG ?_)
          refine sw_10 (E := []) hg1 hn1 (by omega) (by omega) fun nx => ?_
          simp only [thenE]
          refine XZ_step ?_ (fun N Q_ hN => ?_) ?_
          rotate_left
          · delta p111_r11; simp (disch := omega) [oLt, oLe, oLtN, oLeN, nLt, nLe, nLtN, nLeN]
            exact hN
          refine XZ_step ?_ (fun N Q_ hN => ?_) ?_
          rotate_left
          · delta p111_r12; simp (disch := omega) [oLt, oLe, oLtN, oLeN, nLt, nLe, nLtN, nLeN]
            exact hN
          refine XZ_seqG (XZ_block9 ?_)
          have hai := q1.ai
          refine l4_111 (a := a) (b := b) (f0 := c) (i0 := i' + 1) (j0 := j' - 1) (n := n) hR2 q1 (by omega) (gM_perm hg1 q4.perm) (by simpa using hn1) (.tot [] (by simp; omega)) fun i => ?_
          simp only [inBE, thenE, if_true]
          refine XZ_seqG (XZ_drawG ?_)
          refine sw_21 (E := []) hgT hnT (by omega) (by omega) fun nx => ?_
          simp only [thenE]
          delta p111_r22
          simp (disch := omega) [oLt, oLe, oLtN, oLeN, nLt, nLe, nLtN, nLeN]
          exact hQ _ _ (EndsP_at [0] (.inl rfl) (by simp) rfl (by simp) rfl (by simp))
        · rw [if_neg hc] at hQ
          obtain ⟨m1, m2, -, -⟩ := n2 hc
          have hgc : (j' : Int) < i' := by omega
          refine XZ_seqG (XZ_seqG ?_)
          delta p111_r7
          simp (disch := omega) [oLt, oLe, oLtN, oLeN, nLt, nLe, nLtN, nLeN, hgc]
          refine sw_8 (E := []) hg1 hn1 (by omega) (by omega) fun nx => ?_
          simp only [thenE]
          delta p111_r9
          simp (disch := omega) [oLt, oLe, oLtN, oLeN, nLt, nLe, nLtN, nLeN]
          exact hQ _ _ (EndsP_at [0] (.inl rfl) (by simp) rfl (by simp) rfl (by simp))
      · cases hh
    · cases hh
  · cases hh
end
section
set_option maxRecDepth 1000000
def kL0 : Known := ⟨95, [.v (.int .u64 0)], [], 0, .v (.int .i64 0), [], 0⟩
theorem kL0_ok : kL0.ok Tryd.prog := runP_ok tabS_ok 200 60 kL0.g kL0.args kL0.h kL0.k kL0.r kL0.h' kL0.k' (by kernel_rfl)
def kL1 : Known := ⟨95, [.v (.int .u64 1)], [], 0, .v (.int .i64 1), [], 0⟩
theorem kL1_ok : kL1.ok Tryd.prog := runP_ok tabS_ok 200 60 kL1.g kL1.args kL1.h kL1.k kL1.r kL1.h' kL1.k' (by kernel_rfl)
def kL2 : Known := ⟨95, [.v (.int .u64 2)], [], 0, .v (.int .i64 2), [], 0⟩
theorem kL2_ok : kL2.ok Tryd.prog := runP_ok tabS_ok 200 60 kL2.g kL2.args kL2.h kL2.k kL2.r kL2.h' kL2.k' (by kernel_rfl)
def kL3 : Known := ⟨95, [.v (.int .u64 3)], [], 0, .v (.int .i64 2), [], 0⟩
theorem kL3_ok : kL3.ok Tryd.prog := runP_ok tabS_ok 200 60 kL3.g kL3.args kL3.h kL3.k kL3.r kL3.h' kL3.k' (by kernel_rfl)
def kL4 : Known := ⟨95, [.v (.int .u64 4)], [], 0, .v (.int .i64 3), [], 0⟩
theorem kL4_ok : kL4.ok Tryd.prog := runP_ok tabS_ok 200 60 kL4.g kL4.args kL4.h kL4.k kL4.r kL4.h' kL4.k' (by kernel_rfl)
def kL5 : Known := ⟨95, [.v (.int .u64 5)], [], 0, .v (.int .i64 3), [], 0⟩
theorem kL5_ok : kL5.ok Tryd.prog := runP_ok tabS_ok 200 60 kL5.g kL5.args kL5.h kL5.k kL5.r kL5.h' kL5.k' (by kernel_rfl)
def kL6 : Known := ⟨95, [.v (.int .u64 6)], [], 0, .v (.int .i64 3), [], 0⟩
theorem kL6_ok : kL6.ok Tryd.prog := runP_ok tabS_ok 200 60 kL6.g kL6.args kL6.h kL6.k kL6.r kL6.h' kL6.k' (by kernel_rfl)
def kL7 : Known := ⟨95, [.v (.int .u64 7)], [], 0, .v (.int .i64 3), [], 0⟩
theorem kL7_ok : kL7.ok Tryd.prog := runP_ok tabS_ok 200 60 kL7.g kL7.args kL7.h kL7.k kL7.r kL7.h' kL7.k' (by kernel_rfl)
def kL8 : Known := ⟨95, [.v (.int .u64 8)], [], 0, .v (.int .i64 4), [], 0⟩
theorem kL8_ok : kL8.ok Tryd.prog := runP_ok tabS_ok 200 60 kL8.g kL8.args kL8.h kL8.k kL8.r kL8.h' kL8.k' (by kernel_rfl)
def kL9 : Known := ⟨95, [.v (.int .u64 9)], [], 0, .v (.int .i64 4), [], 0⟩
theorem kL9_ok : kL9.ok Tryd.prog := runP_ok tabS_ok 200 60 kL9.g kL9.args kL9.h kL9.k kL9.r kL9.h' kL9.k' (by kernel_rfl)
def kL10 : Known := ⟨95, [.v (.int .u64 10)], [], 0, .v (.int .i64 4), [], 0⟩
theorem kL10_ok : kL10.ok Tryd.prog := runP_ok tabS_ok 200 60 kL10.g kL10.args kL10.h kL10.k kL10.r kL10.h' kL10.k' (by kernel_rfl)
def kL11 : Known := ⟨95, [.v (.int .u64 11)], [], 0, .v (.int .i64 4), [], 0⟩
theorem kL11_ok : kL11.ok Tryd.prog := runP_ok tabS_ok 200 60 kL11.g kL11.args kL11.h kL11.k kL11.r kL11.h' kL11.k' (by kernel_rfl)
def kL12 : Known := ⟨95, [.v (.int .u64 12)], [], 0, .v (.int .i64 4), [], 0⟩
theorem kL12_ok : kL12.ok Tryd.prog := runP_ok tabS_ok 200 60 kL12.g kL12.args kL12.h kL12.k kL12.r kL12.h' kL12.k' (by kernel_rfl)
def kL13 : Known := ⟨95, [.v (.int .u64 13)], [], 0, .v (.int .i64 4), [], 0⟩
theorem kL13_ok : kL13.ok Tryd.prog := runP_ok tabS_ok 200 60 kL13.g kL13.args kL13.h kL13.k kL13.r kL13.h' kL13.k' (by kernel_rfl)
def kL14 : Known := ⟨95, [.v (.int .u64 14)], [], 0, .v (.int .i64 4), [], 0⟩
theorem kL14_ok : kL14.ok Tryd.prog := runP_ok tabS_ok 200 60 kL14.g kL14.args kL14.h kL14.k kL14.r kL14.h' kL14.k' (by kernel_rfl)
def kL15 : Known := ⟨95, [.v (.int .u64 15)], [], 0, .v (.int .i64 4), [], 0⟩
theorem kL15_ok : kL15.ok Tryd.prog := runP_ok tabS_ok 200 60 kL15.g kL15.args kL15.h kL15.k kL15.r kL15.h' kL15.k' (by kernel_rfl)
def kL16 : Known := ⟨95, [.v (.int .u64 16)], [], 0, .v (.int .i64 5), [], 0⟩
theorem kL16_ok : kL16.ok Tryd.prog := runP_ok tabS_ok 200 60 kL16.g kL16.args kL16.h kL16.k kL16.r kL16.h' kL16.k' (by kernel_rfl)
def kP13 : Known := ⟨115, [.v (.int .i64 13)], [], 0, .v (.int .u64 16), [], 0⟩
theorem kP13_ok : kP13.ok Tryd.prog := runP_ok tabS_ok 200 60 kP13.g kP13.args kP13.h kP13.k kP13.r kP13.h' kP13.k' (by kernel_rfl)
def kP14 : Known := ⟨115, [.v (.int .i64 14)], [], 0, .v (.int .u64 16), [], 0⟩
theorem kP14_ok : kP14.ok Tryd.prog := runP_ok tabS_ok 200 60 kP14.g kP14.args kP14.h kP14.k kP14.r kP14.h' kP14.k' (by kernel_rfl)
def kP15 : Known := ⟨115, [.v (.int .i64 15)], [], 0, .v (.int .u64 16), [], 0⟩
theorem kP15_ok : kP15.ok Tryd.prog := runP_ok tabS_ok 200 60 kP15.g kP15.args kP15.h kP15.k kP15.r kP15.h' kP15.k' (by kernel_rfl)
def kX130 : Known := ⟨116, [.ptr 0 0], [(0, .cells [.v (.int .u64 13)])], 1, .v (.int .u64 14069506893), [(0, .cells [.v (.int .u64 14069506893)])], 1⟩
theorem kX130_ok : kX130.ok Tryd.prog := runP_ok tabS_ok 200 60 kX130.g kX130.args kX130.h kX130.k kX130.r kX130.h' kX130.k' (by kernel_rfl)
def kX131 : Known := ⟨116, [.ptr 0 0], [(0, .cells [.v (.int .u64 14069506893)])], 1, .v (.int .u64 14988908846326605643), [(0, .cells [.v (.int .u64 14988908846326605643)])], 1⟩
theorem kX131_ok : kX131.ok Tryd.prog := runP_ok tabS_ok 200 60 kX131.g kX131.args kX131.h kX131.k kX131.r kX131.h' kX131.k' (by kernel_rfl)
def kX132 : Known := ⟨116, [.ptr 0 0], [(0, .cells [.v (.int .u64 14988908846326605643)])], 1, .v (.int .u64 3428281591454193221), [(0, .cells [.v (.int .u64 3428281591454193221)])], 1⟩
theorem kX132_ok : kX132.ok Tryd.prog := runP_ok tabS_ok 200 60 kX132.g kX132.args kX132.h kX132.k kX132.r kX132.h' kX132.k' (by kernel_rfl)
def kX140 : Known := ⟨116, [.ptr 0 0], [(0, .cells [.v (.int .u64 14)])], 1, .v (.int .u64 15151776654), [(0, .cells [.v (.int .u64 15151776654)])], 1⟩
theorem kX140_ok : kX140.ok Tryd.prog := runP_ok tabS_ok 200 60 kX140.g kX140.args kX140.h kX140.k kX140.r kX140.h' kX140.k' (by kernel_rfl)
def kX141 : Known := ⟨116, [.ptr 0 0], [(0, .cells [.v (.int .u64 15151776654)])], 1, .v (.int .u64 16141901775903972233), [(0, .cells [.v (.int .u64 16141901775903972233)])], 1⟩
theorem kX141_ok : kX141.ok Tryd.prog := runP_ok tabS_ok 200 60 kX141.g kX141.args kX141.h kX141.k kX141.r kX141.h' kX141.k' (by kernel_rfl)
def kX142 : Known := ⟨116, [.ptr 0 0], [(0, .cells [.v (.int .u64 16141901775903972233)])], 1, .v (.int .u64 9417236295700912254), [(0, .cells [.v (.int .u64 9417236295700912254)])], 1⟩
theorem kX142_ok : kX142.ok Tryd.prog := runP_ok tabS_ok 200 60 kX142.g kX142.args kX142.h kX142.k kX142.r kX142.h' kX142.k' (by kernel_rfl)
def kX150 : Known := ⟨116, [.ptr 0 0], [(0, .cells [.v (.int .u64 15)])], 1, .v (.int .u64 16234046415), [(0, .cells [.v (.int .u64 16234046415)])], 1⟩
theorem kX150_ok : kX150.ok Tryd.prog := runP_ok tabS_ok 200 60 kX150.g kX150.args kX150.h kX150.k kX150.r kX150.h' kX150.k' (by kernel_rfl)
def kX151 : Known := ⟨116, [.ptr 0 0], [(0, .cells [.v (.int .u64 16234046415)])], 1, .v (.int .u64 17294894740109643720), [(0, .cells [.v (.int .u64 17294894740109643720)])], 1⟩
theorem kX151_ok : kX151.ok Tryd.prog := runP_ok tabS_ok 200 60 kX151.g kX151.args kX151.h kX151.k kX151.r kX151.h' kX151.k' (by kernel_rfl)
def kX152 : Known := ⟨116, [.ptr 0 0], [(0, .cells [.v (.int .u64 17294894740109643720)])], 1, .v (.int .u64 1850481004178652759), [(0, .cells [.v (.int .u64 1850481004178652759)])], 1⟩
theorem kX152_ok : kX152.ok Tryd.prog := runP_ok tabS_ok 200 60 kX152.g kX152.args kX152.h kX152.k kX152.r kX152.h' kX152.k' (by kernel_rfl)
def bitsL : Nat → Nat
  | 0 => 0
  | 1 => 1
  | 2 => 2
  | 3 => 2
  | 4 => 3
  | 5 => 3
  | 6 => 3
  | 7 => 3
  | 8 => 4
  | 9 => 4
  | 10 => 4
  | 11 => 4
  | 12 => 4
  | 13 => 4
  | 14 => 4
  | 15 => 4
  | 16 => 5
  | _ => 0
def f95 : List AV → HL → Nat → Option (AV × HL × Nat) := fun args h k => match args, h, k with
  | [.v (.int .u64 n)], [], 0 => if 0 ≤ n ∧ n ≤ 16 then some (vI (bitsL n.toNat), [], 0) else none
  | _, _, _ => none
def s95 : Sp := ⟨95, f95⟩
@[simp] theorem s95_g : s95.g = 95 := rfl
@[simp] theorem s95_f : s95.f = f95 := rfl
theorem s95_ok : s95.ok Tryd.prog := by
  intro args h k r h' k' hh
  simp only [s95_f, f95] at hh
  split at hh
  · rename_i n
    split at hh
    · rename_i hc
      obtain ⟨h0, h16⟩ := hc
      obtain ⟨n, rfl⟩ := Int.eq_ofNat_of_zero_le h0
      simp only [Int.toNat_natCast] at hh
      have hn : n ≤ 16 := by omega
      cases hh
      match n, hn with
      | 0, _ => exact kL0_ok
      | 1, _ => exact kL1_ok
      | 2, _ => exact kL2_ok
      | 3, _ => exact kL3_ok
      | 4, _ => exact kL4_ok
      | 5, _ => exact kL5_ok
      | 6, _ => exact kL6_ok
      | 7, _ => exact kL7_ok
      | 8, _ => exact kL8_ok
      | 9, _ => exact kL9_ok
      | 10, _ => exact kL10_ok
      | 11, _ => exact kL11_ok
      | 12, _ => exact kL12_ok
      | 13, _ => exact kL13_ok
      | 14, _ => exact kL14_ok
      | 15, _ => exact kL15_ok
      | 16, _ => exact kL16_ok
    · cases hh
  · cases hh
def f115 : List AV → HL → Nat → Option (AV × HL × Nat) := fun args h k => match args, h, k with
  | [.v (.int .i64 n)], [], 0 => if 13 ≤ n ∧ n ≤ 15 then some (.v (.int .u64 16), [], 0) else none
  | _, _, _ => none
def s115 : Sp := ⟨115, f115⟩
@[simp] theorem s115_g : s115.g = 115 := rfl
@[simp] theorem s115_f : s115.f = f115 := rfl
theorem s115_ok : s115.ok Tryd.prog := by
  intro args h k r h' k' hh
  simp only [s115_f, f115] at hh
  split at hh
  · rename_i n
    split at hh
    · rename_i hc
      cases hh
      rcases (show n = 13 ∨ n = 14 ∨ n = 15 by omega) with rfl | rfl | rfl
      · exact kP13_ok
      · exact kP14_ok
      · exact kP15_ok
    · cases hh
  · cases hh
def xsN (r : Int) : Option Int :=
  if r = 13 then some 14069506893
  else if r = 14069506893 then some 14988908846326605643
  else if r = 14988908846326605643 then some 3428281591454193221
  else if r = 14 then some 15151776654
  else if r = 15151776654 then some 16141901775903972233
  else if r = 16141901775903972233 then some 9417236295700912254
  else if r = 15 then some 16234046415
  else if r = 16234046415 then some 17294894740109643720
  else if r = 17294894740109643720 then some 1850481004178652759
  else none
def f116 : List AV → HL → Nat → Option (AV × HL × Nat) := fun args h k => match args, h, k with
  | [.ptr 0 0], [(0, .cells [.v (.int .u64 r)])], 1 => match xsN r with
    | some q => some (.v (.int .u64 q), [(0, .cells [.v (.int .u64 q)])], 1)
    | none => none
  | _, _, _ => none
def s116 : Sp := ⟨116, f116⟩
@[simp] theorem s116_g : s116.g = 116 := rfl
@[simp] theorem s116_f : s116.f = f116 := rfl
theorem s116_ok : s116.ok Tryd.prog := by
  intro args h k r h' k' hh
  simp only [s116_f, f116] at hh
  split at hh
  · rename_i v
    split at hh
    · rename_i q hq
      cases hh
      unfold xsN at hq
      split at hq
      · rename_i e; subst e; cases hq; exact kX130_ok
      split at hq
      · rename_i e; subst e; cases hq; exact kX131_ok
      split at hq
      · rename_i e; subst e; cases hq; exact kX132_ok
      split at hq
      · rename_i e; subst e; cases hq; exact kX140_ok
      split at hq
      · rename_i e; subst e; cases hq; exact kX141_ok
      split at hq
      · rename_i e; subst e; cases hq; exact kX142_ok
      split at hq
      · rename_i e; subst e; cases hq; exact kX150_ok
      split at hq
      · rename_i e; subst e; cases hq; exact kX151_ok
      split at hq
      · rename_i e; subst e; cases hq; exact kX152_ok
      cases hq
    · cases hh
  · cases hh
end
end Go.Sx.Ch
