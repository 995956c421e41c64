/- LockPassed's walk. No conditions. -/
import Derived.Test.YteoiebmbgbgpgaaSxLW
import Derived.Test.YteoiebmbgbgpgaaSxPLf
set_option linter.unusedVariables false
set_option linter.unusedSimpArgs false
set_option maxRecDepth 4000
namespace Go.Sx.Lk
open Go Go.Sx Go.Proofs
set_option maxHeartbeats 8000000 in
theorem lockPassed_runs {s : Int} {O : List Int} (hg : gTr s O 7 = true) : Runs Try.prog 13 0 [.agg (trA s O)] (hpF []) (vB true) 0 (hpF []) := by
  obtain ⟨l, K, hK, hf, hck, hmo, hKl, htk, hKr, hKf, hKc, hKfl⟩ := made_pack hg
  rw [← hK]
  clear hK
  obtain ⟨hl0, hl7⟩ := chkF_len hck
  obtain ⟨k, hk1, hk2, hk3⟩ := pss_facts hck
  have hsm : small l = true := by simp [small]; omega
  refine P13.rz (ss := [s45, s29, s52, s16, s53 8, s22, s15]) ⟨s45_ok, s29_ok, s52_ok, s16_ok, s53_ok 8, s22_ok, s15_ok, trivial⟩ (by simp) fun Q hQ => ?_
  have hbig : effBig true [vI 0, vI ((l.length : Int) - 1)] = ret (vI ((l.length : Int) - 1)) := by
    rw [mx_eff]
    by_cases h : (0 : Int) < (l.length : Int) - 1
    · rw [if_pos h]
    · rw [if_neg h]; congr 3; omega
  have hkb : ¬ (l.length : Int) - 1 < k := by omega
  have hk0 : ¬ (k : Int) < 0 := by omega
  delta p13 p13_r0 p13_r1 p13_r2 p13_r3 p13_r4 p13_r5 p13_r6 p13_r7
  simp (disch := omega) [oLt, oLe, oLtN, oLeN, nLt, nLe, nLtN, nLeN, hKl, htk, hKr, hKf, hKc, hKfl, hf, hsm, hck, hk1, hk0, hbig, hkb]
  refine XZ_for (fun i : Nat => ⟨[(4, vI l.length), (5, vI k), (7, .il (ints (itP i l)) (itP i l).length false), (35, vI l.length), (36, vI i)], [], 0⟩) (fun i => l.length - i) (fun i => i ≤ l.length) 0 (Nat.zero_le _) (.to [] (by simp [itP])) ?_
  intro i hi N Q' hN hE
  rcases Nat.lt_or_ge i l.length with h | h
  · have hic : (i : Int) < l.length := by omega
    obtain ⟨f1, f2, f3⟩ := it_facts hck i
    have cf := ck_facts f1
    have hs := hk3 i
    have fin : ∀ s', ChgT 0 s' ⟨[(4, vI l.length), (5, vI k), (7, .il (ints (psd (itP i l))) (psd (itP i l)).length false), (35, vI l.length), (36, vI (i + 1 : Nat))], [], 0⟩ → N s' := fun s' hh => hN s' (i + 1) (by omega) h (by rw [itP_succ]; exact hh)
    have hlp := cf.lp
    have hpl := cf.len
    have htl : ∀ x : Nat, l.length - i ≤ x → x < l.length → (itP i l)[x]? = some (x : Int) := by
      have := cf.tl i (by omega)
      unfold Tl at this
      rw [f2] at this
      exact this
    generalize itP i l = now at *
    obtain ⟨a, r, hP⟩ : ∃ a r, psd now = a :: r := by
      cases h : psd now with
      | nil => rw [h] at hpl; simp at hpl; omega
      | cons a r => exact ⟨a, r, rfl⟩
    have hsn : small now = true := by simp [small]; omega
    have hmin : effBig false [vI i, vI l.length] = ret (vI i) := by rw [mn_eff, if_neg (by omega)]
    have hnl : now.length < 8 := by omega
    clear hN hE hf
    rw [hP] at fin hlp hpl
    have hsp : small (a :: r) = true := by simp only [small, decide_eq_true_eq]; omega
    by_cases hki : k ≤ i
    · have hkc : (k : Int) ≤ i := by omega
      rw [show decide (k ≤ i) = true by simpa using hki] at hs
      delta p13_l1 p13_r8 p13_r9 p13_r10 p13_r11 p13_r12
      simp (disch := omega) [oLt, oLe, oLtN, oLeN, nLt, nLe, nLtN, nLeN, hic, hsn, hs, hkc, hmin]
      have hcast : (l.length : Int) - i = ((l.length - i : Nat) : Int) := by omega
      rw [hcast]
      refine XZ_for (fun x : Nat => ⟨[(4, vI l.length), (5, vI k), (7, .il (ints now) now.length false), (9, vI x), (35, vI l.length), (36, vI i)], [], 0⟩) (fun x => l.length - x) (fun x => l.length - i ≤ x ∧ x ≤ l.length) (l.length - i) ⟨Nat.le_refl _, Nat.sub_le _ _⟩ (.to [] (by simp)) ?_
      rintro x ⟨hx1, hx2⟩ N2 Q2 hN2 hE2
      rcases Nat.lt_or_ge x l.length with hx | hx
      · have hxc : (x : Int) < l.length := by omega
        have hg1 := htl x hx1 hx
        have hg2 := (List.getElem?_eq_some_iff.1 hg1).2
        have hxn : x < now.length := by omega
        have hxnc : (x : Int) < now.length := by omega
        delta p13_l0 p13_r13 p13_r14 p13_r15 p13_r16
        simp (disch := omega) [oLt, oLe, oLtN, oLeN, nLt, nLe, nLtN, nLeN, hxc, hg1, hg2, hxn, hxnc]
        exact hN2 _ (x + 1) (by omega) ⟨by omega, hx⟩ (.to [] (by simp))
      · obtain rfl : x = l.length := by omega
        have hxc : ¬ (l.length : Int) < l.length := by omega
        delta p13_l0 p13_r13 p13_r14 p13_r15 p13_r16
        simp (disch := omega) [oLt, oLe, oLtN, oLeN, nLt, nLe, nLtN, nLeN, hxc]
        refine hE2 _ _ _ .refl ?_
        delta p13_r17 p13_r18 p13_r19 p13_r20 p13_r21
        simp (disch := omega) [oLt, oLe, oLtN, oLeN, nLt, nLe, nLtN, nLeN, hsn, f1, hlp, hP, hnl, hsp]
        exact fin _ (.to [] (by simp))
    · have hkc : ¬ (k : Int) ≤ i := by omega
      rw [show decide (k ≤ i) = false by simpa using hki] at hs
      delta p13_l1 p13_r8 p13_r9 p13_r10 p13_r11 p13_r12
      simp (disch := omega) [oLt, oLe, oLtN, oLeN, nLt, nLe, nLtN, nLeN, hic, hsn, hs, hkc, hmin]
      have hcast : (l.length : Int) - i = ((l.length - i : Nat) : Int) := by omega
      rw [hcast]
      refine XZ_for (fun x : Nat => ⟨[(4, vI l.length), (5, vI k), (7, .il (ints now) now.length false), (9, vI x), (35, vI l.length), (36, vI i)], [], 0⟩) (fun x => l.length - x) (fun x => l.length - i ≤ x ∧ x ≤ l.length) (l.length - i) ⟨Nat.le_refl _, Nat.sub_le _ _⟩ (.to [] (by simp)) ?_
      rintro x ⟨hx1, hx2⟩ N2 Q2 hN2 hE2
      rcases Nat.lt_or_ge x l.length with hx | hx
      · have hxc : (x : Int) < l.length := by omega
        have hg1 := htl x hx1 hx
        have hg2 := (List.getElem?_eq_some_iff.1 hg1).2
        have hxn : x < now.length := by omega
        have hxnc : (x : Int) < now.length := by omega
        delta p13_l0 p13_r13 p13_r14 p13_r15 p13_r16
        simp (disch := omega) [oLt, oLe, oLtN, oLeN, nLt, nLe, nLtN, nLeN, hxc, hg1, hg2, hxn, hxnc]
        exact hN2 _ (x + 1) (by omega) ⟨by omega, hx⟩ (.to [] (by simp))
      · obtain rfl : x = l.length := by omega
        have hxc : ¬ (l.length : Int) < l.length := by omega
        delta p13_l0 p13_r13 p13_r14 p13_r15 p13_r16
        simp (disch := omega) [oLt, oLe, oLtN, oLeN, nLt, nLe, nLtN, nLeN, hxc]
        refine hE2 _ _ _ .refl ?_
        delta p13_r17 p13_r18 p13_r19 p13_r20 p13_r21
        simp (disch := omega) [oLt, oLe, oLtN, oLeN, nLt, nLe, nLtN, nLeN, hsn, f1, hlp, hP, hnl, hsp]
        exact fin _ (.to [] (by simp))
  · obtain rfl : i = l.length := by omega
    have hic : ¬ (l.length : Int) < l.length := by omega
    delta p13_l1 p13_r8 p13_r9 p13_r10 p13_r11 p13_r12
    simp (disch := omega) [oLt, oLe, oLtN, oLeN, nLt, nLe, nLtN, nLeN, hic]
    refine hE _ _ _ .refl ?_
    delta p13_r22
    simp (disch := omega) [oLt, oLe, oLtN, oLeN, nLt, nLe, nLtN, nLeN]
    exact hQ _ _ (.p (.inl rfl) (by simp) rfl)
end Go.Sx.Lk
