/- LockLeaves's walk. No conditions. -/
import Derived.Test.YteoiebmbgbgpgaaSxJNItoMS
import Derived.Test.YteoiebmbgbgpgaaSxPLn
set_option linter.unusedVariables false
set_option linter.unusedSimpArgs false
set_option maxRecDepth 4000
namespace Go.Sx.Lk
open Go Go.Sx Go.Proofs
set_option maxHeartbeats 8000000
noncomputable def q6 : PCode := (.seq (.reg p6_r9 [2]) .ret)
noncomputable def q6d : PCode := (.seq (.reg p6_r7 [0, 3, 4, 5, 6, 7, 8, 9, 10, 11, 12]) (.seq (.reg p6_r8 [3, 4, 5, 6, 7, 8, 9, 10, 11, 12, 13, 14]) q6))
noncomputable def q6c : PCode := (.seq (.reg p6_r5 [0, 3, 4, 5, 6, 7, 8]) (.seq (.reg p6_r6 [0, 3, 4, 5, 6, 7, 8, 9, 10]) q6d))
noncomputable def q6b : PCode := (.seq (.reg p6_r4 [0, 3, 4, 5, 6]) q6c)
theorem p6_q6b : p6 = (.seq (.reg p6_r0 [0]) (.seq (.seq (.reg p6_r1 [0, 17]) (.cond (Operand.tmp 17) (.seq (.reg p6_r2 [2]) .ret) .skip)) (.seq (.reg p6_r3 [0, 3, 4]) q6b))) := rfl
theorem eq9s (x y : Operand) (a : ByteArray) : effPlain2 Try.prog (fun u v => do eqGuard .eql 9 x y u v; binOp .eql 9 u v) (vS a) (vS a) = ret (vB true) := by
  rw [eq9, beq_self_eq_true]
theorem leaf6 {s : ByteArray} {e1 e2 e3 : Int} {P : List (Int × Int)} {c : List Int} {nx : Nat} {Q : Exit → ST → Prop} (hP : P.length ≤ 1000) (hc : small c = true) (hQ : ∀ n, Q .ret ⟨[(2, vB true)], [], n⟩) :
    XZ (rZ (spc [s35, s36, s37, s38, s39, s40, s41, s22, s15])) 0 q6 ⟨[(3, vS s), (4, vI e1), (5, vS s), (6, vI e1), (7, .il (ints (flP P)) P.length false), (8, vI e2), (9, .il (ints (flP P)) P.length false), (10, vI e2), (11, .il (ints c) c.length false), (12, vI e3), (13, .il (ints c) c.length false), (14, vI e3)], [], nx⟩ Q := by
  have h41 := f41_at P P false false hP
  have heq := fun p q => eq9s p q s
  delta q6 p6_r9
  refine XZ_regG ?_
  refine zOps_cut 8 ?_ (fun K_ hK => ?_) ?_
  rotate_left
  · simp only [List.take_succ_cons, List.take_zero]
    simp (disch := omega) [oLt, oLe, oLtN, oLeN, nLt, nLe, nLtN, nLeN, SOp.eff, heq, h41, hc]
    exact hK
  simp only [List.drop_succ_cons, List.drop_zero]
  refine zOps_cut 8 ?_ (fun K_ hK => ?_) ?_
  rotate_left
  · simp only [List.take_succ_cons, List.take_zero]
    simp (disch := omega) [oLt, oLe, oLtN, oLeN, nLt, nLe, nLtN, nLeN, SOp.eff, heq, h41, hc]
    exact hK
  simp only [List.drop_succ_cons, List.drop_zero]
  refine zOps_cut 8 ?_ (fun K_ hK => ?_) ?_
  rotate_left
  · simp only [List.take_succ_cons, List.take_zero]
    simp (disch := omega) [oLt, oLe, oLtN, oLeN, nLt, nLe, nLtN, nLeN, SOp.eff, heq, h41, hc]
    exact hK
  simp only [List.drop_succ_cons, List.drop_zero]
  simp (disch := omega) [oLt, oLe, oLtN, oLeN, nLt, nLe, nLtN, nLeN, SOp.eff, heq, h41, hc]
  exact hQ _
theorem cpI_len (t : Nat → Bool) (a : Nat) : ∀ (k b : Nat) (P : List (Int × Int)), (cpI t a k b P).length ≤ P.length + k
  | 0, b, P => Nat.le_refl _
  | k + 1, b, P => by
    simp only [cpI]
    refine Nat.le_trans (cpI_len t a k _ _) ?_
    split
    · simp; omega
    · omega
theorem cpO_len (t : Nat → Nat → Bool) (n : Nat) : ∀ (k a : Nat) (P : List (Int × Int)), (cpO t n k a P).length ≤ P.length + k * n
  | 0, a, P => by simp [cpO]
  | k + 1, a, P => by
    simp only [cpO]
    have h1 := cpO_len t n k (a + 1) (cpI (t a) a (n - (a + 1)) (a + 1) P)
    have h2 := cpI_len (t a) a (n - (a + 1)) (a + 1) P
    rw [Nat.add_mul]
    omega
section
variable {l : List Int} {u : Bool} {s : ByteArray} {e1 e2 : Int} {P : List (Int × Int)} {T : List Int} {w : List Int} {nx : Nat} {Q : Exit → ST → Prop}
theorem t6d_ok (hsm : small l = true) (hck : chkF l = 0) (hck2 : chk2F l = 0) (ht : (twF l).1.2 = true) (hT : (twF l).2 = T) (htw : tw86 l [] = some T) (hP : P.length ≤ 1000) (hc : small T = true) (hQ : ∀ n, Q .ret ⟨[(2, vB true)], [], n⟩) : XZ (rZ (spc [s35, s36, s37, s38, s39, s40, s41, s22, s15])) 0 q6d ⟨[(0, .il (ints l) l.length u), (3, vS s), (4, vI e1), (5, vS s), (6, vI e1), (7, .il (ints (flP P)) P.length false), (8, vI e2), (9, .il (ints (flP P)) P.length false), (10, vI e2)], [], nx⟩ Q := by
  delta q6d
  refine XZ_step ?_ (fun N Q_ hN => ?_) ?_
  rotate_left
  · delta p6_r7; simp (disch := omega) [oLt, oLe, oLtN, oLeN, nLt, nLe, nLtN, nLeN, hsm, hck, hck2, ht, hT]
    exact hN
  refine XZ_step ?_ (fun N Q_ hN => ?_) ?_
  rotate_left
  · delta p6_r8; simp (disch := omega) [oLt, oLe, oLtN, oLeN, nLt, nLe, nLtN, nLeN, hsm, hck, hck2, htw, r40]
    exact hN
  exact leaf6 hP hc hQ
theorem t6d_no (hsm : small l = true) (hck : chkF l = 0) (hck2 : chk2F l = 0) (ht : (twF l).1.2 = false) (htw : tw86 l [] = none) (hP : P.length ≤ 1000) (hQ : ∀ n, Q .ret ⟨[(2, vB true)], [], n⟩) : XZ (rZ (spc [s35, s36, s37, s38, s39, s40, s41, s22, s15])) 0 q6d ⟨[(0, .il (ints l) l.length u), (3, vS s), (4, vI e1), (5, vS s), (6, vI e1), (7, .il (ints (flP P)) P.length false), (8, vI e2), (9, .il (ints (flP P)) P.length false), (10, vI e2)], [], nx⟩ Q := by
  delta q6d
  refine XZ_step ?_ (fun N Q_ hN => ?_) ?_
  rotate_left
  · delta p6_r7; simp (disch := omega) [oLt, oLe, oLtN, oLeN, nLt, nLe, nLtN, nLeN, hsm, hck, hck2, ht]
    exact hN
  refine XZ_step ?_ (fun N Q_ hN => ?_) ?_
  rotate_left
  · delta p6_r8; simp (disch := omega) [oLt, oLe, oLtN, oLeN, nLt, nLe, nLtN, nLeN, hsm, hck, hck2, htw, r40]
    exact hN
  exact leaf6 (c := []) hP rfl hQ
theorem t6d_er {e : Int} (hsm : small l = true) (hck : ¬ e = 0) (hee : chkF l = e) (he : chk2F l = e) (hP : P.length ≤ 1000) (hQ : ∀ n, Q .ret ⟨[(2, vB true)], [], n⟩) : XZ (rZ (spc [s35, s36, s37, s38, s39, s40, s41, s22, s15])) 0 q6d ⟨[(0, .il (ints l) l.length u), (3, vS s), (4, vI e1), (5, vS s), (6, vI e1), (7, .il (ints (flP P)) P.length false), (8, vI e2), (9, .il (ints (flP P)) P.length false), (10, vI e2)], [], nx⟩ Q := by
  delta q6d
  refine XZ_step ?_ (fun N Q_ hN => ?_) ?_
  rotate_left
  · delta p6_r7; simp (disch := omega) [oLt, oLe, oLtN, oLeN, nLt, nLe, nLtN, nLeN, hsm, hck, hee, he]
    exact hN
  refine XZ_step ?_ (fun N Q_ hN => ?_) ?_
  rotate_left
  · delta p6_r8; simp (disch := omega) [oLt, oLe, oLtN, oLeN, nLt, nLe, nLtN, nLeN, hsm, hck, hee, he]
    exact hN
  exact leaf6 (c := []) hP rfl hQ
theorem t6c_ok (hsm : small l = true) (hck : chkF l = 0) (hck2 : chk2F l = 0) (hcp : cpF l = P) (hP : cdF l = P)
    (next : ∀ nx, XZ (rZ (spc [s35, s36, s37, s38, s39, s40, s41, s22, s15])) 0 q6d ⟨[(0, .il (ints l) l.length u), (3, vS s), (4, vI e1), (5, vS s), (6, vI e1), (7, .il (ints (flP P)) P.length false), (8, vI 0), (9, .il (ints (flP P)) P.length false), (10, vI 0)], [], nx⟩ Q) : XZ (rZ (spc [s35, s36, s37, s38, s39, s40, s41, s22, s15])) 0 q6c ⟨[(0, .il (ints l) l.length u), (3, vS s), (4, vI e1), (5, vS s), (6, vI e1)], [], nx⟩ Q := by
  delta q6c
  refine XZ_step ?_ (fun N Q_ hN => ?_) ?_
  rotate_left
  · delta p6_r5; simp (disch := omega) [oLt, oLe, oLtN, oLeN, nLt, nLe, nLtN, nLeN, hsm, hck, hck2, hcp]
    exact hN
  refine XZ_step ?_ (fun N Q_ hN => ?_) ?_
  rotate_left
  · delta p6_r6; simp (disch := omega) [oLt, oLe, oLtN, oLeN, nLt, nLe, nLtN, nLeN, hsm, hck, hck2, hP]
    exact hN
  exact next _
theorem t6c_er {e : Int} (hsm : small l = true) (hck : ¬ e = 0) (hee : chkF l = e) (he : chk2F l = e)
    (next : ∀ nx, XZ (rZ (spc [s35, s36, s37, s38, s39, s40, s41, s22, s15])) 0 q6d ⟨[(0, .il (ints l) l.length u), (3, vS s), (4, vI e1), (5, vS s), (6, vI e1), (7, .il (ints (flP [])) ([] : List (Int × Int)).length false), (8, vI e), (9, .il (ints (flP [])) ([] : List (Int × Int)).length false), (10, vI e)], [], nx⟩ Q) : XZ (rZ (spc [s35, s36, s37, s38, s39, s40, s41, s22, s15])) 0 q6c ⟨[(0, .il (ints l) l.length u), (3, vS s), (4, vI e1), (5, vS s), (6, vI e1)], [], nx⟩ Q := by
  delta q6c
  refine XZ_step ?_ (fun N Q_ hN => ?_) ?_
  rotate_left
  · delta p6_r5; simp (disch := omega) [oLt, oLe, oLtN, oLeN, nLt, nLe, nLtN, nLeN, hsm, hck, hee, he]
    exact hN
  refine XZ_step ?_ (fun N Q_ hN => ?_) ?_
  rotate_left
  · delta p6_r6; simp (disch := omega) [oLt, oLe, oLtN, oLeN, nLt, nLe, nLtN, nLeN, hsm, hck, hee, he]
    exact hN
  exact next _
theorem t6_ok (hlc : ¬ (60 : Int) < l.length) (hsm : small l = true) (hck : chkF l = 0) (hck2 : chk2F l = 0) (hw : lw2 l.length 15 0 [] l = (w, true)) (hlv : lvF l = some w) (next : ∀ nx, XZ (rZ (spc [s35, s36, s37, s38, s39, s40, s41, s22, s15])) 0 q6c ⟨[(0, .il (ints l) l.length u), (3, vS (strB w)), (4, vI 0), (5, vS (strB w)), (6, vI 0)], [], nx⟩ Q) : XZ (rZ (spc [s35, s36, s37, s38, s39, s40, s41, s22, s15])) 0 p6 ⟨args0 0 [.il (ints l) l.length u], [], 0⟩ Q := by
  simp only [args0]
  rw [p6_q6b]
  delta q6b
  refine XZ_step ?_ (fun N Q_ hN => ?_) ?_
  rotate_left
  · delta p6_r0; simp (disch := omega) [oLt, oLe, oLtN, oLeN, nLt, nLe, nLtN, nLeN]
    exact hN
  refine XZ_step ?_ (fun N Q_ hN => ?_) ?_
  rotate_left
  · delta p6_r1
    simp (disch := omega) [oLt, oLe, oLtN, oLeN, nLt, nLe, nLtN, nLeN, hlc]
    exact hN
  refine XZ_step ?_ (fun N Q_ hN => ?_) ?_
  rotate_left
  · delta p6_r3; simp (disch := omega) [oLt, oLe, oLtN, oLeN, nLt, nLe, nLtN, nLeN, hsm, hck, hlv, rLv]
    exact hN
  refine XZ_step ?_ (fun N Q_ hN => ?_) ?_
  rotate_left
  · delta p6_r4; simp (disch := omega) [oLt, oLe, oLtN, oLeN, nLt, nLe, nLtN, nLeN, hsm, hck2, hw]
    exact hN
  exact next _
theorem t6_no (hlc : ¬ (60 : Int) < l.length) (hsm : small l = true) (hck : chkF l = 0) (hck2 : chk2F l = 0) (hw : lw2 l.length 15 0 [] l = (w, false)) (hlv : lvF l = none) (next : ∀ nx, XZ (rZ (spc [s35, s36, s37, s38, s39, s40, s41, s22, s15])) 0 q6c ⟨[(0, .il (ints l) l.length u), (3, vS ⟨#[]⟩), (4, vI 12), (5, vS ⟨#[]⟩), (6, vI 12)], [], nx⟩ Q) : XZ (rZ (spc [s35, s36, s37, s38, s39, s40, s41, s22, s15])) 0 p6 ⟨args0 0 [.il (ints l) l.length u], [], 0⟩ Q := by
  simp only [args0]
  rw [p6_q6b]
  delta q6b
  refine XZ_step ?_ (fun N Q_ hN => ?_) ?_
  rotate_left
  · delta p6_r0; simp (disch := omega) [oLt, oLe, oLtN, oLeN, nLt, nLe, nLtN, nLeN]
    exact hN
  refine XZ_step ?_ (fun N Q_ hN => ?_) ?_
  rotate_left
  · delta p6_r1
    simp (disch := omega) [oLt, oLe, oLtN, oLeN, nLt, nLe, nLtN, nLeN, hlc]
    exact hN
  refine XZ_step ?_ (fun N Q_ hN => ?_) ?_
  rotate_left
  · delta p6_r3; simp (disch := omega) [oLt, oLe, oLtN, oLeN, nLt, nLe, nLtN, nLeN, hsm, hck, hlv, rLv]
    exact hN
  refine XZ_step ?_ (fun N Q_ hN => ?_) ?_
  rotate_left
  · delta p6_r4; simp (disch := omega) [oLt, oLe, oLtN, oLeN, nLt, nLe, nLtN, nLeN, hsm, hck2, hw]
    exact hN
  exact next _
theorem t6_er (hlc : ¬ (60 : Int) < l.length) {e : Int} (hsm : small l = true) (hck : ¬ e = 0) (hee : chkF l = e) (he : chk2F l = e) (next : ∀ nx, XZ (rZ (spc [s35, s36, s37, s38, s39, s40, s41, s22, s15])) 0 q6c ⟨[(0, .il (ints l) l.length u), (3, vS ⟨#[]⟩), (4, vI e), (5, vS ⟨#[]⟩), (6, vI e)], [], nx⟩ Q) : XZ (rZ (spc [s35, s36, s37, s38, s39, s40, s41, s22, s15])) 0 p6 ⟨args0 0 [.il (ints l) l.length u], [], 0⟩ Q := by
  simp only [args0]
  rw [p6_q6b]
  delta q6b
  refine XZ_step ?_ (fun N Q_ hN => ?_) ?_
  rotate_left
  · delta p6_r0; simp (disch := omega) [oLt, oLe, oLtN, oLeN, nLt, nLe, nLtN, nLeN]
    exact hN
  refine XZ_step ?_ (fun N Q_ hN => ?_) ?_
  rotate_left
  · delta p6_r1
    simp (disch := omega) [oLt, oLe, oLtN, oLeN, nLt, nLe, nLtN, nLeN, hlc]
    exact hN
  refine XZ_step ?_ (fun N Q_ hN => ?_) ?_
  rotate_left
  · delta p6_r3; simp (disch := omega) [oLt, oLe, oLtN, oLeN, nLt, nLe, nLtN, nLeN, hsm, hck, hee, he]
    exact hN
  refine XZ_step ?_ (fun N Q_ hN => ?_) ?_
  rotate_left
  · delta p6_r4; simp (disch := omega) [oLt, oLe, oLtN, oLeN, nLt, nLe, nLtN, nLeN, hsm, hck, hee, he]
    exact hN
  exact next _
end
theorem lockLeaves_runs {l : List Int} {u : Bool} : Runs Try.prog 6 0 [.il (ints l) l.length u] (hpF []) (vB true) 0 (hpF []) := by
  refine P6.rz (ss := [s35, s36, s37, s38, s39, s40, s41, s22, s15]) ⟨s35_ok, s36_ok, s37_ok, s38_ok, s39_ok, s40_ok, s41_ok, s22_ok, s15_ok, trivial⟩ (by simp) fun Q hQ => ?_
  by_cases hlong : 60 < l.length
  · have hlc : (60 : Int) < l.length := by omega
    delta p6 p6_r0 p6_r1 p6_r2
    simp (disch := omega) [oLt, oLe, oLtN, oLeN, nLt, nLe, nLtN, nLeN, hlc]
    exact hQ _ _ (.p (.inl rfl) (by simp) rfl)
  have hlc : ¬ (60 : Int) < l.length := by omega
  have hsm : small l = true := by simp [small]; omega
  have fin : ∀ n, Q .ret ⟨[(2, vB true)], [], n⟩ := fun n => hQ _ _ (.p (.inl rfl) (by simp) rfl)
  clear hQ
  have he := chk2_eq l
  by_cases hck : chkF l = 0
  · have hck2 : chk2F l = 0 := he.trans hck
    obtain ⟨hl0, hl7⟩ := chkF_len hck
    have hlv := lv_eq hck
    have hcp := cp_eq hck
    have htw := tw86_eq hck
    have hPl : (cdF l).length ≤ 1000 := by
      have := cpO_len (fun a b => clD l a b) l.length l.length 0 []
      have h2 : l.length * l.length ≤ 7 * 7 := Nat.mul_le_mul hl7 hl7
      unfold cdF
      simp only [List.length_nil] at this
      omega
    have htl := twF_len l
    have hcs : small (twF l).2 = true := by simp [small]; omega
    have rest : ∀ (s : ByteArray) (e1 : Int) (nx : Nat), XZ (rZ (spc [s35, s36, s37, s38, s39, s40, s41, s22, s15])) 0 q6c ⟨[(0, .il (ints l) l.length u), (3, vS s), (4, vI e1), (5, vS s), (6, vI e1)], [], nx⟩ Q := fun s e1 nx => by
      refine t6c_ok hsm hck hck2 hcp rfl fun nx => ?_
      cases ht : (twF l).1.2 with
      | true =>
        rw [ht] at htw
        exact t6d_ok hsm hck hck2 ht rfl (by simpa using htw) hPl hcs fin
      | false =>
        rw [ht] at htw
        exact t6d_no hsm hck hck2 ht (by simpa using htw) hPl fin
    obtain ⟨w, hw⟩ : ∃ w, lw2 l.length 15 0 [] l = w := ⟨_, rfl⟩
    obtain ⟨w, is⟩ := w
    rw [hw] at hlv
    cases is with
    | true => exact t6_ok hlc hsm hck hck2 hw (by simpa using hlv) fun nx => rest _ _ nx
    | false => exact t6_no hlc hsm hck hck2 hw (by simpa using hlv) fun nx => rest _ _ nx
  · obtain ⟨e, hee⟩ : ∃ e, chkF l = e := ⟨_, rfl⟩
    rw [hee] at he hck
    exact t6_er hlc hsm hck hee he fun nx => t6c_er hsm hck hee he fun nx => t6d_er hsm hck hee he (by simp) fin
end Go.Sx.Lk
