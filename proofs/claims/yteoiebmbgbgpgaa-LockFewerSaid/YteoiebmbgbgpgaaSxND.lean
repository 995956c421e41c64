/- LockFewer's walk. No conditions. -/
import Derived.Test.YteoiebmbgbgpgaaSxJLWtoNC
import Derived.Test.YteoiebmbgbgpgaaSxPLe
set_option linter.unusedVariables false
set_option linter.unusedSimpArgs false
set_option maxRecDepth 4000
namespace Go.Sx.Lk
open Go Go.Sx Go.Proofs
set_option maxHeartbeats 8000000
noncomputable def q9b : PCode := (.seq (.reg p9_r19 [4]) .ret)
noncomputable def q9 : PCode := (.seq (.reg p9_r15 [5, 8, 11, 12]) (.seq (.reg p9_r16 [5, 8, 11, 12, 13, 14]) (.seq (.reg p9_r17 [8, 11, 12, 13, 14, 16]) (.seq (.reg p9_r18 [11, 12, 13, 14, 16, 18]) q9b))))
theorem p9_q9 : p9 = (.seq (.reg p9_r0 [1, 2]) (.seq (.reg p9_r1 [1, 5]) (.seq (.reg p9_r2 [1, 5, 6]) (.seq (.seq (.reg p9_r3 [1, 5, 6, 24]) (.cond (Operand.tmp 24) (.seq (.reg p9_r4 [4]) .ret) .skip)) (.seq (.reg p9_r5 [5, 7]) (.seq (.reg p9_r6 [5, 7, 8]) (.seq (.seq (.reg p9_r7 [5, 7, 8, 30, 31, 32]) (.block 0 (.loop p9_l0))) q9))))))) := rfl
section
variable {b1 b2 : Bool} {c1 c2 : Int} {nx : Nat} {Q : Exit → ST → Prop}
theorem leaf9_1 (hQ : ∀ n, Q .ret ⟨[(4, vB true)], [], n⟩) : XZ (rZ (spc [s45, s25, s39, s15])) 0 q9b ⟨[(11, vB true), (12, vI 0), (13, vB true), (14, vI 0), (16, vI 0), (18, vI 0)], [], nx⟩ Q := by
  delta q9b p9_r19
  refine XZ_regG ?_
  refine zOps_cut 10 ?_ (fun K_ hK => ?_) ?_
  rotate_left
  · simp only [List.take_succ_cons, List.take_zero]
    simp (disch := omega) [oLt, oLe, oLtN, oLeN, nLt, nLe, nLtN, nLeN]
    exact hK
  simp only [List.drop_succ_cons, List.drop_zero]
  refine zOps_cut 10 ?_ (fun K_ hK => ?_) ?_
  rotate_left
  · simp only [List.take_succ_cons, List.take_zero]
    simp (disch := omega) [oLt, oLe, oLtN, oLeN, nLt, nLe, nLtN, nLeN]
    exact hK
  simp only [List.drop_succ_cons, List.drop_zero]
  refine zOps_cut 10 ?_ (fun K_ hK => ?_) ?_
  rotate_left
  · simp only [List.take_succ_cons, List.take_zero]
    simp (disch := omega) [oLt, oLe, oLtN, oLeN, nLt, nLe, nLtN, nLeN]
    exact hK
  simp only [List.drop_succ_cons, List.drop_zero]
  simp (disch := omega) [oLt, oLe, oLtN, oLeN, nLt, nLe, nLtN, nLeN]
  exact hQ _
theorem leaf9_2 (hQ : ∀ n, Q .ret ⟨[(4, vB true)], [], n⟩) : XZ (rZ (spc [s45, s25, s39, s15])) 0 q9b ⟨[(11, vB true), (12, vI 0), (13, vB true), (14, vI 0), (16, vI 12), (18, vI 0)], [], nx⟩ Q := by
  delta q9b p9_r19
  refine XZ_regG ?_
  refine zOps_cut 10 ?_ (fun K_ hK => ?_) ?_
  rotate_left
  · simp only [List.take_succ_cons, List.take_zero]
    simp (disch := omega) [oLt, oLe, oLtN, oLeN, nLt, nLe, nLtN, nLeN]
    exact hK
  simp only [List.drop_succ_cons, List.drop_zero]
  refine zOps_cut 10 ?_ (fun K_ hK => ?_) ?_
  rotate_left
  · simp only [List.take_succ_cons, List.take_zero]
    simp (disch := omega) [oLt, oLe, oLtN, oLeN, nLt, nLe, nLtN, nLeN]
    exact hK
  simp only [List.drop_succ_cons, List.drop_zero]
  refine zOps_cut 10 ?_ (fun K_ hK => ?_) ?_
  rotate_left
  · simp only [List.take_succ_cons, List.take_zero]
    simp (disch := omega) [oLt, oLe, oLtN, oLeN, nLt, nLe, nLtN, nLeN]
    exact hK
  simp only [List.drop_succ_cons, List.drop_zero]
  simp (disch := omega) [oLt, oLe, oLtN, oLeN, nLt, nLe, nLtN, nLeN]
  exact hQ _
theorem leaf9_3 (hQ : ∀ n, Q .ret ⟨[(4, vB true)], [], n⟩) : XZ (rZ (spc [s45, s25, s39, s15])) 0 q9b ⟨[(11, vB true), (12, vI 0), (13, vB true), (14, vI 0), (16, vI 12), (18, vI 12)], [], nx⟩ Q := by
  delta q9b p9_r19
  refine XZ_regG ?_
  refine zOps_cut 10 ?_ (fun K_ hK => ?_) ?_
  rotate_left
  · simp only [List.take_succ_cons, List.take_zero]
    simp (disch := omega) [oLt, oLe, oLtN, oLeN, nLt, nLe, nLtN, nLeN]
    exact hK
  simp only [List.drop_succ_cons, List.drop_zero]
  refine zOps_cut 10 ?_ (fun K_ hK => ?_) ?_
  rotate_left
  · simp only [List.take_succ_cons, List.take_zero]
    simp (disch := omega) [oLt, oLe, oLtN, oLeN, nLt, nLe, nLtN, nLeN]
    exact hK
  simp only [List.drop_succ_cons, List.drop_zero]
  refine zOps_cut 10 ?_ (fun K_ hK => ?_) ?_
  rotate_left
  · simp only [List.take_succ_cons, List.take_zero]
    simp (disch := omega) [oLt, oLe, oLtN, oLeN, nLt, nLe, nLtN, nLeN]
    exact hK
  simp only [List.drop_succ_cons, List.drop_zero]
  simp (disch := omega) [oLt, oLe, oLtN, oLeN, nLt, nLe, nLtN, nLeN]
  exact hQ _
theorem leaf9_4 (hQ : ∀ n, Q .ret ⟨[(4, vB true)], [], n⟩) : XZ (rZ (spc [s45, s25, s39, s15])) 0 q9b ⟨[(11, vB false), (12, vI 0), (13, vB true), (14, vI 0), (16, vI 0), (18, vI 0)], [], nx⟩ Q := by
  delta q9b p9_r19
  refine XZ_regG ?_
  refine zOps_cut 10 ?_ (fun K_ hK => ?_) ?_
  rotate_left
  · simp only [List.take_succ_cons, List.take_zero]
    simp (disch := omega) [oLt, oLe, oLtN, oLeN, nLt, nLe, nLtN, nLeN]
    exact hK
  simp only [List.drop_succ_cons, List.drop_zero]
  refine zOps_cut 10 ?_ (fun K_ hK => ?_) ?_
  rotate_left
  · simp only [List.take_succ_cons, List.take_zero]
    simp (disch := omega) [oLt, oLe, oLtN, oLeN, nLt, nLe, nLtN, nLeN]
    exact hK
  simp only [List.drop_succ_cons, List.drop_zero]
  refine zOps_cut 10 ?_ (fun K_ hK => ?_) ?_
  rotate_left
  · simp only [List.take_succ_cons, List.take_zero]
    simp (disch := omega) [oLt, oLe, oLtN, oLeN, nLt, nLe, nLtN, nLeN]
    exact hK
  simp only [List.drop_succ_cons, List.drop_zero]
  simp (disch := omega) [oLt, oLe, oLtN, oLeN, nLt, nLe, nLtN, nLeN]
  exact hQ _
theorem leaf9_5 (hQ : ∀ n, Q .ret ⟨[(4, vB true)], [], n⟩) : XZ (rZ (spc [s45, s25, s39, s15])) 0 q9b ⟨[(11, vB false), (12, vI 0), (13, vB true), (14, vI 0), (16, vI 12), (18, vI 0)], [], nx⟩ Q := by
  delta q9b p9_r19
  refine XZ_regG ?_
  refine zOps_cut 10 ?_ (fun K_ hK => ?_) ?_
  rotate_left
  · simp only [List.take_succ_cons, List.take_zero]
    simp (disch := omega) [oLt, oLe, oLtN, oLeN, nLt, nLe, nLtN, nLeN]
    exact hK
  simp only [List.drop_succ_cons, List.drop_zero]
  refine zOps_cut 10 ?_ (fun K_ hK => ?_) ?_
  rotate_left
  · simp only [List.take_succ_cons, List.take_zero]
    simp (disch := omega) [oLt, oLe, oLtN, oLeN, nLt, nLe, nLtN, nLeN]
    exact hK
  simp only [List.drop_succ_cons, List.drop_zero]
  refine zOps_cut 10 ?_ (fun K_ hK => ?_) ?_
  rotate_left
  · simp only [List.take_succ_cons, List.take_zero]
    simp (disch := omega) [oLt, oLe, oLtN, oLeN, nLt, nLe, nLtN, nLeN]
    exact hK
  simp only [List.drop_succ_cons, List.drop_zero]
  simp (disch := omega) [oLt, oLe, oLtN, oLeN, nLt, nLe, nLtN, nLeN]
  exact hQ _
theorem leaf9_6 (hQ : ∀ n, Q .ret ⟨[(4, vB true)], [], n⟩) : XZ (rZ (spc [s45, s25, s39, s15])) 0 q9b ⟨[(11, vB false), (12, vI 0), (13, vB true), (14, vI 0), (16, vI 12), (18, vI 12)], [], nx⟩ Q := by
  delta q9b p9_r19
  refine XZ_regG ?_
  refine zOps_cut 10 ?_ (fun K_ hK => ?_) ?_
  rotate_left
  · simp only [List.take_succ_cons, List.take_zero]
    simp (disch := omega) [oLt, oLe, oLtN, oLeN, nLt, nLe, nLtN, nLeN]
    exact hK
  simp only [List.drop_succ_cons, List.drop_zero]
  refine zOps_cut 10 ?_ (fun K_ hK => ?_) ?_
  rotate_left
  · simp only [List.take_succ_cons, List.take_zero]
    simp (disch := omega) [oLt, oLe, oLtN, oLeN, nLt, nLe, nLtN, nLeN]
    exact hK
  simp only [List.drop_succ_cons, List.drop_zero]
  refine zOps_cut 10 ?_ (fun K_ hK => ?_) ?_
  rotate_left
  · simp only [List.take_succ_cons, List.take_zero]
    simp (disch := omega) [oLt, oLe, oLtN, oLeN, nLt, nLe, nLtN, nLeN]
    exact hK
  simp only [List.drop_succ_cons, List.drop_zero]
  simp (disch := omega) [oLt, oLe, oLtN, oLeN, nLt, nLe, nLtN, nLeN]
  exact hQ _
theorem leaf9_7 (hQ : ∀ n, Q .ret ⟨[(4, vB true)], [], n⟩) : XZ (rZ (spc [s45, s25, s39, s15])) 0 q9b ⟨[(11, vB false), (12, vI 0), (13, vB false), (14, vI 0), (16, vI 0), (18, vI 0)], [], nx⟩ Q := by
  delta q9b p9_r19
  refine XZ_regG ?_
  refine zOps_cut 10 ?_ (fun K_ hK => ?_) ?_
  rotate_left
  · simp only [List.take_succ_cons, List.take_zero]
    simp (disch := omega) [oLt, oLe, oLtN, oLeN, nLt, nLe, nLtN, nLeN]
    exact hK
  simp only [List.drop_succ_cons, List.drop_zero]
  refine zOps_cut 10 ?_ (fun K_ hK => ?_) ?_
  rotate_left
  · simp only [List.take_succ_cons, List.take_zero]
    simp (disch := omega) [oLt, oLe, oLtN, oLeN, nLt, nLe, nLtN, nLeN]
    exact hK
  simp only [List.drop_succ_cons, List.drop_zero]
  refine zOps_cut 10 ?_ (fun K_ hK => ?_) ?_
  rotate_left
  · simp only [List.take_succ_cons, List.take_zero]
    simp (disch := omega) [oLt, oLe, oLtN, oLeN, nLt, nLe, nLtN, nLeN]
    exact hK
  simp only [List.drop_succ_cons, List.drop_zero]
  simp (disch := omega) [oLt, oLe, oLtN, oLeN, nLt, nLe, nLtN, nLeN]
  exact hQ _
theorem leaf9_8 (hQ : ∀ n, Q .ret ⟨[(4, vB true)], [], n⟩) : XZ (rZ (spc [s45, s25, s39, s15])) 0 q9b ⟨[(11, vB false), (12, vI 0), (13, vB false), (14, vI 0), (16, vI 12), (18, vI 0)], [], nx⟩ Q := by
  delta q9b p9_r19
  refine XZ_regG ?_
  refine zOps_cut 10 ?_ (fun K_ hK => ?_) ?_
  rotate_left
  · simp only [List.take_succ_cons, List.take_zero]
    simp (disch := omega) [oLt, oLe, oLtN, oLeN, nLt, nLe, nLtN, nLeN]
    exact hK
  simp only [List.drop_succ_cons, List.drop_zero]
  refine zOps_cut 10 ?_ (fun K_ hK => ?_) ?_
  rotate_left
  · simp only [List.take_succ_cons, List.take_zero]
    simp (disch := omega) [oLt, oLe, oLtN, oLeN, nLt, nLe, nLtN, nLeN]
    exact hK
  simp only [List.drop_succ_cons, List.drop_zero]
  refine zOps_cut 10 ?_ (fun K_ hK => ?_) ?_
  rotate_left
  · simp only [List.take_succ_cons, List.take_zero]
    simp (disch := omega) [oLt, oLe, oLtN, oLeN, nLt, nLe, nLtN, nLeN]
    exact hK
  simp only [List.drop_succ_cons, List.drop_zero]
  simp (disch := omega) [oLt, oLe, oLtN, oLeN, nLt, nLe, nLtN, nLeN]
  exact hQ _
theorem leaf9_9 (hQ : ∀ n, Q .ret ⟨[(4, vB true)], [], n⟩) : XZ (rZ (spc [s45, s25, s39, s15])) 0 q9b ⟨[(11, vB false), (12, vI 0), (13, vB false), (14, vI 0), (16, vI 12), (18, vI 12)], [], nx⟩ Q := by
  delta q9b p9_r19
  refine XZ_regG ?_
  refine zOps_cut 10 ?_ (fun K_ hK => ?_) ?_
  rotate_left
  · simp only [List.take_succ_cons, List.take_zero]
    simp (disch := omega) [oLt, oLe, oLtN, oLeN, nLt, nLe, nLtN, nLeN]
    exact hK
  simp only [List.drop_succ_cons, List.drop_zero]
  refine zOps_cut 10 ?_ (fun K_ hK => ?_) ?_
  rotate_left
  · simp only [List.take_succ_cons, List.take_zero]
    simp (disch := omega) [oLt, oLe, oLtN, oLeN, nLt, nLe, nLtN, nLeN]
    exact hK
  simp only [List.drop_succ_cons, List.drop_zero]
  refine zOps_cut 10 ?_ (fun K_ hK => ?_) ?_
  rotate_left
  · simp only [List.take_succ_cons, List.take_zero]
    simp (disch := omega) [oLt, oLe, oLtN, oLeN, nLt, nLe, nLtN, nLeN]
    exact hK
  simp only [List.drop_succ_cons, List.drop_zero]
  simp (disch := omega) [oLt, oLe, oLtN, oLeN, nLt, nLe, nLtN, nLeN]
  exact hQ _
theorem leaf9 (hb : b1 = true → b2 = true) (hc : (c1 = 0 ∧ c2 = 0) ∨ (c1 = 12 ∧ c2 = 0) ∨ (c1 = 12 ∧ c2 = 12)) (hQ : ∀ n, Q .ret ⟨[(4, vB true)], [], n⟩) : XZ (rZ (spc [s45, s25, s39, s15])) 0 q9b ⟨[(11, vB b1), (12, vI 0), (13, vB b2), (14, vI 0), (16, vI c1), (18, vI c2)], [], nx⟩ Q := by
  cases b1 with
  | true =>
    obtain rfl := hb rfl
    rcases hc with ⟨rfl, rfl⟩ | ⟨rfl, rfl⟩ | ⟨rfl, rfl⟩
    · exact leaf9_1 hQ
    · exact leaf9_2 hQ
    · exact leaf9_3 hQ
  | false =>
    cases b2 with
    | true =>
      rcases hc with ⟨rfl, rfl⟩ | ⟨rfl, rfl⟩ | ⟨rfl, rfl⟩
      · exact leaf9_4 hQ
      · exact leaf9_5 hQ
      · exact leaf9_6 hQ
    | false =>
      rcases hc with ⟨rfl, rfl⟩ | ⟨rfl, rfl⟩ | ⟨rfl, rfl⟩
      · exact leaf9_7 hQ
      · exact leaf9_8 hQ
      · exact leaf9_9 hQ
end
theorem tail9 {l o : List Int} {y : Int} {nx g : Nat} {Q : Exit → ST → Prop} (hsm : small l = true) (hck : chkF l = 0) (hos : small (y :: o) = true) (hco : chkF (y :: o) = 0) (hrs : srtB (psd l) = true → srtB (psd (y :: o)) = true) (hrt : (twF l).1.2 = true → (twF (y :: o)).1.2 = true) (hQ : ∀ n, Q .ret ⟨[(4, vB true)], [], n⟩) :
    XZ (rZ (spc [s45, s25, s39, s15])) 0 q9 ⟨[(5, .il (ints l) l.length false), (7, vI g), (8, .ref 0 0 (o.length + 1) 1 none), (30, .il (ints l) l.length false), (31, vI l.length), (32, vI l.length), (33, vB false)], [(0, .cells (vI y :: ints o))], nx⟩ Q := by
  have hot : (ints o).take o.length = ints o := List.take_of_length_le (by simp)
  obtain ⟨t1, ht1⟩ : ∃ b, (twF l).1.2 = b := ⟨_, rfl⟩
  obtain ⟨t2, ht2⟩ : ∃ b, (twF (y :: o)).1.2 = b := ⟨_, rfl⟩
  rw [ht1, ht2] at hrt
  delta q9
  refine XZ_step ?_ (fun N Q_ hN => ?_) ?_
  rotate_left
  · delta p9_r15; simp (disch := omega) [oLt, oLe, oLtN, oLeN, nLt, nLe, nLtN, nLeN, hsm, hck, hos, hco, hot]
    exact hN
  refine XZ_step ?_ (fun N Q_ hN => ?_) ?_
  rotate_left
  · delta p9_r16; simp (disch := omega) [oLt, oLe, oLtN, oLeN, nLt, nLe, nLtN, nLeN, hsm, hck, hos, hco, hot]
    exact hN
  cases t1 with
  | true =>
    obtain rfl := hrt rfl
    refine XZ_step ?_ (fun N Q_ hN => ?_) ?_
    rotate_left
    · delta p9_r17; simp (disch := omega) [oLt, oLe, oLtN, oLeN, nLt, nLe, nLtN, nLeN, hsm, hck, hos, hco, hot, ht1, ht2]
      exact hN
    refine XZ_step ?_ (fun N Q_ hN => ?_) ?_
    rotate_left
    · delta p9_r18; simp (disch := omega) [oLt, oLe, oLtN, oLeN, nLt, nLe, nLtN, nLeN, hsm, hck, hos, hco, hot, ht1, ht2]
      exact hN
    exact leaf9 hrs (.inl ⟨rfl, rfl⟩) hQ
  | false =>
    cases t2 with
    | true =>
      refine XZ_step ?_ (fun N Q_ hN => ?_) ?_
      rotate_left
      · delta p9_r17; simp (disch := omega) [oLt, oLe, oLtN, oLeN, nLt, nLe, nLtN, nLeN, hsm, hck, hos, hco, hot, ht1, ht2]
        exact hN
      refine XZ_step ?_ (fun N Q_ hN => ?_) ?_
      rotate_left
      · delta p9_r18; simp (disch := omega) [oLt, oLe, oLtN, oLeN, nLt, nLe, nLtN, nLeN, hsm, hck, hos, hco, hot, ht1, ht2]
        exact hN
      exact leaf9 hrs (.inr (.inl ⟨rfl, rfl⟩)) hQ
    | false =>
      refine XZ_step ?_ (fun N Q_ hN => ?_) ?_
      rotate_left
      · delta p9_r17; simp (disch := omega) [oLt, oLe, oLtN, oLeN, nLt, nLe, nLtN, nLeN, hsm, hck, hos, hco, hot, ht1, ht2]
        exact hN
      refine XZ_step ?_ (fun N Q_ hN => ?_) ?_
      rotate_left
      · delta p9_r18; simp (disch := omega) [oLt, oLe, oLtN, oLeN, nLt, nLe, nLtN, nLeN, hsm, hck, hos, hco, hot, ht1, ht2]
        exact hN
      exact leaf9 hrs (.inr (.inr ⟨rfl, rfl⟩)) hQ
def mk9 (l : List Int) (g : Nat) (o : List Int) (i : Nat) : ST := ⟨[(5, .il (ints l) l.length false), (7, vI g), (8, outA 0 o), (30, .il (ints l) l.length false), (31, vI l.length), (32, vI i)], outH 0 o, outK o⟩
theorem lockFewer_runs {s : Int} {O : List Int} {one : Int} (hg : gTr s O 7 = true) (hone : 0 ≤ one ∧ one ≤ 255) : Runs Try.prog 9 0 [.agg (trA s O), .v (.int .u8 one)] (hpF []) (vB true) 0 (hpF []) := by
  obtain ⟨l, K, hK, hf, hck, hmo, hpm, hKl, htk, hKr, hKf, hKc, hKfl⟩ := made_pack2 hg
  rw [← hK]
  clear hK
  obtain ⟨hl0, hl7⟩ := chkF_len hck
  have hsm : small l = true := by simp [small]; omega
  obtain ⟨one, rfl⟩ := Int.eq_ofNat_of_zero_le hone.1
  refine P9.rz (ss := [s45, s25, s39, s15]) ⟨s45_ok, s25_ok, s39_ok, s15_ok, trivial⟩ (by simp) fun Q hQ => ?_
  by_cases h1 : l.length = 1
  · delta p9 p9_r0 p9_r1 p9_r2 p9_r3 p9_r4 p9_r5 p9_r6 p9_r7
    simp (disch := omega) [oLt, oLe, oLtN, oLeN, nLt, nLe, nLtN, nLeN, hKl, htk, hKr, hKf, hKc, hKfl, hf, h1]
    exact hQ _ _ (.p (.inl rfl) (by simp) rfl)
  have h1c : ¬ (l.length : Int) = 1 := by omega
  obtain ⟨g, hgg⟩ : ∃ g, one % l.length = g := ⟨_, rfl⟩
  have hgl : g < l.length := by rw [← hgg]; exact Nat.mod_lt _ hl0
  have hgc : (one : Int) % (l.length : Int) = (g : Int) := by rw [← hgg]; simp
  have hlne : ¬ (l.length : Int) = 0 := by omega
  have hlne2 : ¬ l = [] := fun e => by rw [e] at hl0; simp at hl0
  have hlne3 : ¬ l.length = 0 := by omega
  have hco := rm_chk (by omega) hl7 hgl hpm
  have hat := chk_at hck
  rw [show (⟨p9, [SRes.tmp 4], 112⟩ : PEnt).code = p9 from rfl, p9_q9]
  delta p9 p9_r0 p9_r1 p9_r2 p9_r3 p9_r4 p9_r5 p9_r6 p9_r7
  simp (disch := omega) [oLt, oLe, oLtN, oLeN, nLt, nLe, nLtN, nLeN, hKl, htk, hKr, hKf, hKc, hKfl, hf, h1, h1c, hgc, hlne, hlne2, hlne3]
  refine XZ_for (fun p : Nat × List Int => mk9 l g p.2 p.1) (fun p => l.length - p.1) (fun p => p.1 ≤ l.length ∧ p.2.length ≤ p.1 ∧ p.2 ++ rmF g (l.drop p.1) = rmF g l) (0, []) ⟨by simp, by simp, by simp⟩ (.to [] (by simp [mk9])) ?_
  rintro ⟨i, o⟩ ⟨hi, hol, hinv⟩ N Q' hN hE
  simp only at hi hol hinv
  simp only [mk9]
  rcases Nat.lt_or_ge i l.length with h | h
  · have hic : (i : Int) < l.length := by omega
    obtain ⟨x', r, e1, e2, e3, e4, e5⟩ := drop_split h
    obtain ⟨x, rfl, hxl⟩ := hat i x' e2
    rw [e1] at hinv
    simp only [rmF, List.filterMap_cons, rmf] at hinv
    have fin : ∀ o', o'.length ≤ i + 1 → o' ++ rmF g r = rmF g l → ∀ s', ChgT 0 s' (mk9 l g o' (i + 1)) → N s' := fun o' h1 h2 s' hh => hN s' (i + 1, o') (by simp only; omega) ⟨h, h1, by rw [e4]; exact h2⟩ hh
    clear hN hE hQ
    by_cases hlt : x < g
    · have hltc : (x : Int) < g := by omega
      rw [if_pos hltc] at hinv
      have fin := fin (o ++ [(x : Int)]) (by simp; omega) (by simp only [List.append_assoc, List.singleton_append]; exact hinv)
      cases o with
      | nil =>
        simp only [mk9, outA_nil, outH_nil, outK_nil, List.nil_append, outA_cons, outH_cons, outK_cons] at fin ⊢
        delta p9_l0 p9_r8 p9_r9 p9_r10 p9_r11 p9_r12 p9_r13 p9_r14
        simp (disch := omega) [oLt, oLe, oLtN, oLeN, nLt, nLe, nLtN, nLeN, hic, e2, e3, h, hltc]
        exact fin _ (.toS (fun s => [ida s 8]) (by simp))
      | cons y o =>
        have hol7 : o.length ≤ 7 := by simp at hol; omega
        simp only [mk9, outA_cons, outH_cons, outK_cons, List.cons_append] at fin ⊢
        delta p9_l0 p9_r8 p9_r9 p9_r10 p9_r11 p9_r12 p9_r13 p9_r14
        simp (disch := omega) [oLt, oLe, oLtN, oLeN, nLt, nLe, nLtN, nLeN, hic, e2, e3, h, hltc, hol7]
        exact fin _ (.toS (fun s => [ida s 8]) (by simp))
    · have hltc : ¬ (x : Int) < g := by omega
      rw [if_neg hltc] at hinv
      by_cases hgt : g < x
      · have hgtc : (g : Int) < x := by omega
        rw [if_pos hgtc] at hinv
        have fin := fin (o ++ [(x : Int) - 1]) (by simp; omega) (by simp only [List.append_assoc, List.singleton_append]; exact hinv)
        cases o with
        | nil =>
          simp only [mk9, outA_nil, outH_nil, outK_nil, List.nil_append, outA_cons, outH_cons, outK_cons] at fin ⊢
          delta p9_l0 p9_r8 p9_r9 p9_r10 p9_r11 p9_r12 p9_r13 p9_r14
          simp (disch := omega) [oLt, oLe, oLtN, oLeN, nLt, nLe, nLtN, nLeN, hic, e2, e3, h, hltc, hgtc]
          exact fin _ (.toS (fun s => [ida s 8]) (by simp))
        | cons y o =>
          have hol7 : o.length ≤ 7 := by simp at hol; omega
          simp only [mk9, outA_cons, outH_cons, outK_cons, List.cons_append] at fin ⊢
          delta p9_l0 p9_r8 p9_r9 p9_r10 p9_r11 p9_r12 p9_r13 p9_r14
          simp (disch := omega) [oLt, oLe, oLtN, oLeN, nLt, nLe, nLtN, nLeN, hic, e2, e3, h, hltc, hgtc, hol7]
          exact fin _ (.toS (fun s => [ida s 8]) (by simp))
      · have hgtc : ¬ (g : Int) < x := by omega
        rw [if_neg hgtc] at hinv
        have fin := fin o (by omega) hinv
        cases o with
        | nil =>
          simp only [mk9, outA_nil, outH_nil, outK_nil] at fin ⊢
          delta p9_l0 p9_r8 p9_r9 p9_r10 p9_r11 p9_r12 p9_r13 p9_r14
          simp (disch := omega) [oLt, oLe, oLtN, oLeN, nLt, nLe, nLtN, nLeN, hic, e2, e3, h, hltc, hgtc]
          exact fin _ (.to [] (by simp))
        | cons y o =>
          simp only [mk9, outA_cons, outH_cons, outK_cons] at fin ⊢
          delta p9_l0 p9_r8 p9_r9 p9_r10 p9_r11 p9_r12 p9_r13 p9_r14
          simp (disch := omega) [oLt, oLe, oLtN, oLeN, nLt, nLe, nLtN, nLeN, hic, e2, e3, h, hltc, hgtc]
          exact fin _ (.toS (fun s => [ida s 8]) (by simp))
  · obtain rfl : i = l.length := by omega
    have hic : ¬ (l.length : Int) < l.length := by omega
    rw [List.drop_eq_nil_of_le (Nat.le_refl _)] at hinv
    simp only [rmF, List.filterMap_nil, List.append_nil] at hinv
    have hinv : o = rmF g l := hinv
    have hrs := fun h => rm_sorted hck hco h
    have hrt := fun h => rm_two hck hco h
    rw [← hinv] at hco hrs hrt
    have hlo := chkF_len hco
    have hos : small o = true := by simp [small]; omega
    clear hN
    cases o with
    | nil => simp at hlo
    | cons y o =>
      simp only [outA_cons, outH_cons, outK_cons]
      delta p9_l0 p9_r8 p9_r9 p9_r10 p9_r11 p9_r12 p9_r13 p9_r14
      simp (disch := omega) [oLt, oLe, oLtN, oLeN, nLt, nLe, nLtN, nLeN, hic]
      refine hE _ _ _ .refl ?_
      clear hE
      exact tail9 hsm hck hos hco hrs hrt fun n => hQ _ _ (.p (.inl rfl) (by simp) rfl)
end Go.Sx.Lk
