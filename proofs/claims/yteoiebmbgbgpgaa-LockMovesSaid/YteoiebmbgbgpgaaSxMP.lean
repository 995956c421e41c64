/- LockMoves's walk. No conditions. -/
import Derived.Test.YteoiebmbgbgpgaaSxJMAtoMO
import Derived.Test.YteoiebmbgbgpgaaSxJMBtoLVe
import Derived.Test.YteoiebmbgbgpgaaSxLW
import Derived.Test.YteoiebmbgbgpgaaSxPLk
set_option linter.unusedVariables false
set_option linter.unusedSimpArgs false
set_option maxRecDepth 4000
namespace Go.Sx.Lk
open Go Go.Sx Go.Proofs
theorem eq9 (x y : Operand) (a : ByteArray) : effPlain2 Try.prog (fun u v => do eqGuard .eql 9 x y u v; binOp .eql 9 u v) (vS a) (vS a) = ret (vB true) := by
  simp [effPlain2, AV.val, eqGuard, binOp, Op.stringOp, pureRun, ofVal, Value.oneCell', ret]
theorem rnR_len (s : ByteArray) (n : Nat) : ∀ (f i : Nat) (st out left : List Int), (rnR s n f i st out left).2.length ≤ st.length + out.length + left.length
  | 0, i, st, out, left => by
    simp only [rnR]
    split <;> simp <;> omega
  | f + 1, i, st, out, left => by
    simp only [rnR]
    split
    · simp
    · split
      · cases left with
        | nil => simp
        | cons x r => have := rnR_len s n f (i + 1) (st ++ [x]) out r; simp at this ⊢; omega
      · split
        · split
          · simp
          · rename_i h0
            have hp := List.length_pos_iff.2 h0
            have := rnR_len s n f (i + 1) st.dropLast (out ++ [st.getLastD 0]) left
            simp at this ⊢; omega
        · simp
set_option maxHeartbeats 20000000 in
theorem lockMoves_runs (l : List Int) (u : Bool) (s : ByteArray) : Runs Try.prog 3 0 [.il (ints l) l.length u, vS s] (hpF []) (vB true) 0 (hpF []) := by
  refine P3.rz (ss := [s15, s16, s17, s18, s19, s20, s21, s22, s23, s24]) ⟨s15_ok, s16_ok, s17_ok, s18_ok, s19_ok, s20_ok, s21_ok, s22_ok, s23_ok, s24_ok, trivial⟩ (by simp) fun Q hQ => ?_
  by_cases h60 : 60 < l.length
  · have h60c : (60 : Int) < l.length := by omega
    delta p3 p3_r0 p3_r1 p3_r2 p3_r3 p3_r4 p3_r5 p3_r6 p3_r7 p3_r8 p3_r9
    simp (disch := omega) [oLt, oLe, oLtN, oLeN, nLt, nLe, nLtN, nLeN, h60c]
    exact hQ _ _ (.p (.inl rfl) (by simp) rfl)
  have h60c : ¬ (60 : Int) < l.length := by omega
  by_cases h200 : 200 < s.size
  · have h200c : (200 : Int) < s.size := by omega
    delta p3 p3_r0 p3_r1 p3_r2 p3_r3 p3_r4 p3_r5 p3_r6 p3_r7 p3_r8 p3_r9
    simp (disch := omega) [oLt, oLe, oLtN, oLeN, nLt, nLe, nLtN, nLeN, h60c, h200c, effLenS]
    exact hQ _ _ (.p (.inl rfl) (by simp) rfl)
  have h200c : ¬ (200 : Int) < s.size := by omega
  have hsm : small l = true := by simp [small]; omega
  have hgs : g20 s = true := by simp [g20]; omega
  by_cases hc : chkF l = 0
  · have hc2 : chk2F l = 0 := (chk2_eq l).trans hc
    have cf := ck_facts hc
    obtain ⟨A, hA⟩ : ∃ A, psd l = A := ⟨_, rfl⟩
    have hA2 : lpF l = A := by rw [cf.lp, hA]
    have hAs : small A = true := by rw [← hA]; simp [small, cf.len]; omega
    obtain ⟨S, hS⟩ : ∃ S, strB (mvF l) = S := ⟨_, rfl⟩
    have hS2 : strB (m2F l) = S := by rw [m2F_eq hc, hS]
    have hRl := rnR_len s l.length s.size 0 [] [] l
    obtain ⟨c, R, hR⟩ : ∃ c R, rnF s l = (c, R) := ⟨_, _, rfl⟩
    have hRA : rnA (rnF s l) = .tup [.il (ints R) R.length false, vI c] := by rw [hR]; rfl
    have hRs : small R = true := by
      change (rnF s l).2.length ≤ _ at hRl
      rw [hR] at hRl
      simp at hRl
      simp [small]; omega
    delta p3
    refine XZ_step ?_ (fun N Q_ hN => ?_) ?_
    rotate_left
    · delta p3_r0; simp (disch := omega) [oLt, oLe, oLtN, oLeN, nLt, nLe, nLtN, nLeN]
      exact hN
    refine XZ_step ?_ (fun N Q_ hN => ?_) ?_
    rotate_left
    · delta p3_r1
      simp (disch := omega) [oLt, oLe, oLtN, oLeN, nLt, nLe, nLtN, nLeN, h60c, h200c, effLenS]
      exact hN
    refine XZ_step ?_ (fun N Q_ hN => ?_) ?_
    rotate_left
    · delta p3_r3; simp (disch := omega) [oLt, oLe, oLtN, oLeN, nLt, nLe, nLtN, nLeN, hsm, hc, hA]
      exact hN
    refine XZ_step ?_ (fun N Q_ hN => ?_) ?_
    rotate_left
    · delta p3_r4; simp (disch := omega) [oLt, oLe, oLtN, oLeN, nLt, nLe, nLtN, nLeN, hsm, hc2, hA2]
      exact hN
    refine XZ_step ?_ (fun N Q_ hN => ?_) ?_
    rotate_left
    · delta p3_r5; simp (disch := omega) [oLt, oLe, oLtN, oLeN, nLt, nLe, nLtN, nLeN, hsm, hc, hS]
      exact hN
    refine XZ_step ?_ (fun N Q_ hN => ?_) ?_
    rotate_left
    · delta p3_r6; simp (disch := omega) [oLt, oLe, oLtN, oLeN, nLt, nLe, nLtN, nLeN, hsm, hc2, hS2]
      exact hN
    refine XZ_step ?_ (fun N Q_ hN => ?_) ?_
    rotate_left
    · delta p3_r7; simp (disch := omega) [oLt, oLe, oLtN, oLeN, nLt, nLe, nLtN, nLeN, hsm, hgs, hc, hRA]
      exact hN
    refine XZ_step ?_ (fun N Q_ hN => ?_) ?_
    rotate_left
    · delta p3_r8; simp (disch := omega) [oLt, oLe, oLtN, oLeN, nLt, nLe, nLtN, nLeN, hsm, hgs, hc2, hRA]
      exact hN
    refine XZ_regG ?_
    delta p3_r9
    refine zOps_cut 8 ?_ (fun K_ hK => ?_) ?_
    rotate_left
    · simp only [List.take_succ_cons, List.take_zero]
      simp (disch := omega) [oLt, oLe, oLtN, oLeN, nLt, nLe, nLtN, nLeN, hAs]
      exact hK
    simp only [List.drop_succ_cons, List.drop_zero]
    refine zOps_cut 6 ?_ (fun K_ hK => ?_) ?_
    rotate_left
    · simp only [List.take_succ_cons, List.take_zero]
      simp (disch := omega) [oLt, oLe, oLtN, oLeN, nLt, nLe, nLtN, nLeN, SOp.eff, eq9]
      exact hK
    simp only [List.drop_succ_cons, List.drop_zero]
    refine zOps_cut 5 ?_ (fun K_ hK => ?_) ?_
    rotate_left
    · simp only [List.take_succ_cons, List.take_zero]
      simp (disch := omega) [oLt, oLe, oLtN, oLeN, nLt, nLe, nLtN, nLeN]
      exact hK
    simp only [List.drop_succ_cons, List.drop_zero]
    refine zOps_cut 5 ?_ (fun K_ hK => ?_) ?_
    rotate_left
    · simp only [List.take_succ_cons, List.take_zero]
      simp (disch := omega) [oLt, oLe, oLtN, oLeN, nLt, nLe, nLtN, nLeN, hRs]
      exact hK
    simp only [List.drop_succ_cons, List.drop_zero]
    refine zOps_cut 5 ?_ (fun K_ hK => ?_) ?_
    rotate_left
    · simp only [List.take_succ_cons, List.take_zero]
      simp (disch := omega) [oLt, oLe, oLtN, oLeN, nLt, nLe, nLtN, nLeN]
      exact hK
    simp only [List.drop_succ_cons, List.drop_zero]
    refine zOps_cut 7 ?_ (fun K_ hK => ?_) ?_
    rotate_left
    · simp only [List.take_succ_cons, List.take_zero]
      simp (disch := omega) [oLt, oLe, oLtN, oLeN, nLt, nLe, nLtN, nLeN, hsm, hc, hc2]
      exact hK
    simp only [List.drop_succ_cons, List.drop_zero]
    simp (disch := omega) [oLt, oLe, oLtN, oLeN, nLt, nLe, nLtN, nLeN]
    exact hQ _ _ (.p (.inl rfl) (by simp) rfl)
  · obtain ⟨e, he⟩ : ∃ e, chkF l = e := ⟨_, rfl⟩
    have he2 : chk2F l = e := (chk2_eq l).trans he
    have hne : ¬ e = 0 := fun h => hc (he.trans h)
    have hAs : small [] = true := rfl
    delta p3
    refine XZ_step ?_ (fun N Q_ hN => ?_) ?_
    rotate_left
    · delta p3_r0; simp (disch := omega) [oLt, oLe, oLtN, oLeN, nLt, nLe, nLtN, nLeN]
      exact hN
    refine XZ_step ?_ (fun N Q_ hN => ?_) ?_
    rotate_left
    · delta p3_r1
      simp (disch := omega) [oLt, oLe, oLtN, oLeN, nLt, nLe, nLtN, nLeN, h60c, h200c, effLenS]
      exact hN
    refine XZ_step ?_ (fun N Q_ hN => ?_) ?_
    rotate_left
    · delta p3_r3; simp (disch := omega) [oLt, oLe, oLtN, oLeN, nLt, nLe, nLtN, nLeN, hsm, he, hne]
      exact hN
    refine XZ_step ?_ (fun N Q_ hN => ?_) ?_
    rotate_left
    · delta p3_r4; simp (disch := omega) [oLt, oLe, oLtN, oLeN, nLt, nLe, nLtN, nLeN, hsm, he2, hne]
      exact hN
    refine XZ_step ?_ (fun N Q_ hN => ?_) ?_
    rotate_left
    · delta p3_r5; simp (disch := omega) [oLt, oLe, oLtN, oLeN, nLt, nLe, nLtN, nLeN, hsm, he, hne]
      exact hN
    refine XZ_step ?_ (fun N Q_ hN => ?_) ?_
    rotate_left
    · delta p3_r6; simp (disch := omega) [oLt, oLe, oLtN, oLeN, nLt, nLe, nLtN, nLeN, hsm, he2, hne]
      exact hN
    refine XZ_step ?_ (fun N Q_ hN => ?_) ?_
    rotate_left
    · delta p3_r7; simp (disch := omega) [oLt, oLe, oLtN, oLeN, nLt, nLe, nLtN, nLeN, hsm, hgs, he, hne]
      exact hN
    refine XZ_step ?_ (fun N Q_ hN => ?_) ?_
    rotate_left
    · delta p3_r8; simp (disch := omega) [oLt, oLe, oLtN, oLeN, nLt, nLe, nLtN, nLeN, hsm, hgs, he2, hne]
      exact hN
    refine XZ_regG ?_
    delta p3_r9
    refine zOps_cut 8 ?_ (fun K_ hK => ?_) ?_
    rotate_left
    · simp only [List.take_succ_cons, List.take_zero]
      simp (disch := omega) [oLt, oLe, oLtN, oLeN, nLt, nLe, nLtN, nLeN, hAs]
      exact hK
    simp only [List.drop_succ_cons, List.drop_zero]
    refine zOps_cut 6 ?_ (fun K_ hK => ?_) ?_
    rotate_left
    · simp only [List.take_succ_cons, List.take_zero]
      simp (disch := omega) [oLt, oLe, oLtN, oLeN, nLt, nLe, nLtN, nLeN, SOp.eff, eq9]
      exact hK
    simp only [List.drop_succ_cons, List.drop_zero]
    refine zOps_cut 5 ?_ (fun K_ hK => ?_) ?_
    rotate_left
    · simp only [List.take_succ_cons, List.take_zero]
      simp (disch := omega) [oLt, oLe, oLtN, oLeN, nLt, nLe, nLtN, nLeN]
      exact hK
    simp only [List.drop_succ_cons, List.drop_zero]
    refine zOps_cut 5 ?_ (fun K_ hK => ?_) ?_
    rotate_left
    · simp only [List.take_succ_cons, List.take_zero]
      simp (disch := omega) [oLt, oLe, oLtN, oLeN, nLt, nLe, nLtN, nLeN, hAs]
      exact hK
    simp only [List.drop_succ_cons, List.drop_zero]
    refine zOps_cut 5 ?_ (fun K_ hK => ?_) ?_
    rotate_left
    · simp only [List.take_succ_cons, List.take_zero]
      simp (disch := omega) [oLt, oLe, oLtN, oLeN, nLt, nLe, nLtN, nLeN]
      exact hK
    simp only [List.drop_succ_cons, List.drop_zero]
    refine zOps_cut 7 ?_ (fun K_ hK => ?_) ?_
    rotate_left
    · simp only [List.take_succ_cons, List.take_zero]
      simp (disch := omega) [oLt, oLe, oLtN, oLeN, nLt, nLe, nLtN, nLeN, hsm, he, he2]
      exact hK
    simp only [List.drop_succ_cons, List.drop_zero]
    simp (disch := omega) [oLt, oLe, oLtN, oLeN, nLt, nLe, nLtN, nLeN]
    exact hQ _ _ (.p (.inl rfl) (by simp) rfl)
end Go.Sx.Lk
