/- All orders are tried. No conditions. -/
import Derived.Test.YteoiebmbgbgpgaaSxJMBtoMF
import Derived.KernelRfl
import Derived.Test.YteoiebmbgbgpgaaSxJMAtoLT
import Derived.Test.YteoiebmbgbgpgaaSxJSttoSd
set_option linter.unusedVariables false
set_option linter.unusedSimpArgs false
namespace Go.Sx.Lk
open Go Go.Sx Go.Proofs
section
set_option maxRecDepth 100000
theorem kb0 : (perN 0).all ckb = true := by kernel_rfl
theorem kb1 : (perN 1).all ckb = true := by kernel_rfl
theorem kb2 : (perN 2).all ckb = true := by kernel_rfl
theorem kb3 : (perN 3).all ckb = true := by kernel_rfl
theorem kb4 : (perN 4).all ckb = true := by kernel_rfl
theorem kb5 : (perN 5).all ckb = true := by kernel_rfl
theorem kb6 : (perN 6).all ckb = true := by kernel_rfl
theorem kb70 : (allN 6 [1, 2, 3, 4, 5, 6] [0]).all ckb = true := by kernel_rfl
theorem kb71 : (allN 6 [0, 2, 3, 4, 5, 6] [1]).all ckb = true := by kernel_rfl
theorem kb72 : (allN 6 [0, 1, 3, 4, 5, 6] [2]).all ckb = true := by kernel_rfl
end
section
set_option maxRecDepth 100000
theorem kb73 : (allN 6 [0, 1, 2, 4, 5, 6] [3]).all ckb = true := by kernel_rfl
theorem kb74 : (allN 6 [0, 1, 2, 3, 5, 6] [4]).all ckb = true := by kernel_rfl
theorem kb75 : (allN 6 [0, 1, 2, 3, 4, 6] [5]).all ckb = true := by kernel_rfl
theorem kb76 : (allN 6 [0, 1, 2, 3, 4, 5] [6]).all ckb = true := by kernel_rfl
end
section
set_option maxRecDepth 100000
theorem ckbA : ∀ n, n < 8 → (perN n).all ckb = true := by
  intro n hn
  have : n = 0 ∨ n = 1 ∨ n = 2 ∨ n = 3 ∨ n = 4 ∨ n = 5 ∨ n = 6 ∨ n = 7 := by omega
  rcases this with rfl | rfl | rfl | rfl | rfl | rfl | rfl | rfl
  · exact kb0
  · exact kb1
  · exact kb2
  · exact kb3
  · exact kb4
  · exact kb5
  · exact kb6
  · exact per7 kb70 kb71 kb72 kb73 kb74 kb75 kb76
theorem ck2_facts {l : List Int} (h : chkF l = 0) : srtB (psd l) = (brF l).isNone ∧ wyF l = brF l ∧ srtB l = ascB l := by
  obtain ⟨m, rfl, hm⟩ := per_all ckbA h
  simp only [ckb, ckbo, Bool.and_eq_true] at hm
  obtain ⟨⟨h1, h2⟩, h3⟩ := hm
  exact ⟨by rw [psdN_eq, srtN_eq, eqB_eq h2], eqO_eq h1, by rw [srtN_eq, eqB_eq h3]⟩
theorem ps2R_eq : ∀ (f : Nat) (l : List Int) (n : Nat), chkF l = 0 → ps2R f l n = pssR f l n
  | 0, l, n, _ => rfl
  | f + 1, l, n, h => by
    have c := ck_facts h
    rw [ps2R, pssR, ← (ck2_facts h).2.2, c.lp, ps2R_eq f (psd l) (n + 1) c.ok]
theorem sorts_facts {l : List Int} (h : chkF l = 0) : srtB (psd l) = (brF l).isNone ∧ wyF l = brF l ∧ ∀ x, pssF l = some x → ps2F l = some x := by
  obtain ⟨h1, h2, h3⟩ := ck2_facts h
  refine ⟨h1, h2, fun x hx => ?_⟩
  unfold ps2F
  rw [ps2R_eq _ _ _ h]
  exact hx
end
section
set_option maxRecDepth 4000
set_option maxHeartbeats 20000000
def prF (c : Int) (l : List Int) (i j k : Int) : Int := if c ≠ 0 then c else if (inr l i && inr l j && inr l k) = false then 2 else if j ≤ i ∨ k ≤ j then 7 else if brB l i.toNat j.toNat k.toNat = true then 0 else 14
theorem t31z {l : List Int} (u : Bool) {i j k : Int} (hg : small l = true) (hc : chkF l = 0) (hi1 : 0 ≤ i) (hi2 : i < (l.length : Int)) (hj1 : 0 ≤ j) (hj2 : j < (l.length : Int)) (hk1 : 0 ≤ k) (hk2 : k < (l.length : Int)) (hij : ¬ j ≤ i) (hjk : ¬ k ≤ j) : Runs Try.prog 31 0 [.il (ints l) l.length u, vI i, vI j, vI k] (hpF []) (vI (prF 0 l i j k)) 0 (hpF []) := by
  have hlb : l.length ≤ 7 := (chkF_len hc).2
  refine P31.rz (ss := [s23, s70]) ⟨s23_ok, s70_ok, trivial⟩ (by simp) fun Q hQ => ?_
  have gi : inr l i = true := by simp [inr]; omega
  have gj : inr l j = true := by simp [inr]; omega
  have gk : inr l k = true := by simp [inr]; omega
  obtain ⟨i, rfl⟩ := Int.eq_ofNat_of_zero_le hi1
  obtain ⟨j, rfl⟩ := Int.eq_ofNat_of_zero_le hj1
  obtain ⟨k, rfl⟩ := Int.eq_ofNat_of_zero_le hk1
  have hil : i < l.length := by omega
  have hjl : j < l.length := by omega
  have hkl : k < l.length := by omega
  obtain ⟨x, x1, x2, x3⟩ := getD_ex hil
  obtain ⟨y, y1, y2, y3⟩ := getD_ex hjl
  obtain ⟨z, z1, z2, z3⟩ := getD_ex hkl
  have hb : brB l i j k = (decide (z < x) && decide (x < y)) := by simp only [brB, x3, y3, z3]
  have hp : prF 0 l i j k = if brB l i j k = true then 0 else 14 := by simp [prF, gi, gj, gk, hij, hjk]
  rw [hb] at hp
  rw [hp] at hQ
  clear x3 y3 z3 hp hb gi gj gk
  delta p31 p31_r0 p31_r1 p31_r2 p31_r3 p31_r5 p31_r7
  simp (disch := omega) [oLt, oLe, oLtN, oLeN, nLt, nLe, nLtN, nLeN, hg, hc, hi2, hj2, hk2, hij, hjk]
  delta p31_r9
  by_cases h1 : z < x
  · have h1' : ¬ x ≤ z := by omega
    refine zD_cut 8 ?_ ?_ (fun K_ hK => ?_) ?_
    rotate_left 2
    · simp only [List.take_succ_cons, List.take_zero]
      simp (disch := omega) [oLt, oLe, oLtN, oLeN, nLt, nLe, nLtN, nLeN, hi2, hj2, hk2, hil, hjl, hkl, x1, x2, z1, z2]
      exact hK
    simp only [List.drop_succ_cons, List.drop_zero]
    by_cases h2 : x < y
    · have h2' : ¬ y ≤ x := by omega
      refine zD_cut 6 ?_ ?_ (fun K_ hK => ?_) ?_
      rotate_left 2
      · simp only [List.take_succ_cons, List.take_zero]
        simp (disch := omega) [oLt, oLe, oLtN, oLeN, nLt, nLe, nLtN, nLeN, hi2, hj2, hk2, hil, hjl, hkl, x1, x2, z1, z2, h1, h1']
        exact hK
      simp only [List.drop_succ_cons, List.drop_zero]
      refine zD_cut 7 ?_ ?_ (fun K_ hK => ?_) ?_
      rotate_left 2
      · simp only [List.take_succ_cons, List.take_zero]
        simp (disch := omega) [oLt, oLe, oLtN, oLeN, nLt, nLe, nLtN, nLeN, hi2, hj2, hk2, hil, hjl, hkl, x1, x2, y1, y2, h2, h2', h1, h1']
        exact hK
      simp only [List.drop_succ_cons, List.drop_zero]
      refine goD_ok (by decide) ?_
      delta p31_r10 p31_r11
      simp (disch := omega) [oLt, oLe, oLtN, oLeN, nLt, nLe, nLtN, nLeN]
      exact hQ _ _ (.p (.inl rfl) (by simp [h1, h2]) rfl)
    · have h2' : y ≤ x := by omega
      refine zD_cut 6 ?_ ?_ (fun K_ hK => ?_) ?_
      rotate_left 2
      · simp only [List.take_succ_cons, List.take_zero]
        simp (disch := omega) [oLt, oLe, oLtN, oLeN, nLt, nLe, nLtN, nLeN, hi2, hj2, hk2, hil, hjl, hkl, x1, x2, z1, z2, h1, h1']
        exact hK
      simp only [List.drop_succ_cons, List.drop_zero]
      refine zD_cut 7 ?_ ?_ (fun K_ hK => ?_) ?_
      rotate_left 2
      · simp only [List.take_succ_cons, List.take_zero]
        simp (disch := omega) [oLt, oLe, oLtN, oLeN, nLt, nLe, nLtN, nLeN, hi2, hj2, hk2, hil, hjl, hkl, x1, x2, y1, y2, h2, h2', h1, h1']
        exact hK
      simp only [List.drop_succ_cons, List.drop_zero]
      refine goD_ok (by decide) ?_
      delta p31_r10 p31_r11
      simp (disch := omega) [oLt, oLe, oLtN, oLeN, nLt, nLe, nLtN, nLeN]
      exact hQ _ _ (.p (.inl rfl) (by simp [h1, h2]) rfl)
  · have h1' : x ≤ z := by omega
    refine zD_cut 8 ?_ ?_ (fun K_ hK => ?_) ?_
    rotate_left 2
    · simp only [List.take_succ_cons, List.take_zero]
      simp (disch := omega) [oLt, oLe, oLtN, oLeN, nLt, nLe, nLtN, nLeN, hi2, hj2, hk2, hil, hjl, hkl, x1, x2, z1, z2]
      exact hK
    simp only [List.drop_succ_cons, List.drop_zero]
    refine zD_cut 6 ?_ ?_ (fun K_ hK => ?_) ?_
    rotate_left 2
    · simp only [List.take_succ_cons, List.take_zero]
      simp (disch := omega) [oLt, oLe, oLtN, oLeN, nLt, nLe, nLtN, nLeN, hi2, hj2, hk2, hil, hjl, hkl, x1, x2, z1, z2, h1, h1']
      exact hK
    simp only [List.drop_succ_cons, List.drop_zero]
    refine zD_cut 7 ?_ ?_ (fun K_ hK => ?_) ?_
    rotate_left 2
    · simp only [List.take_succ_cons, List.take_zero]
      simp (disch := omega) [oLt, oLe, oLtN, oLeN, nLt, nLe, nLtN, nLeN, h1, h1']
      exact hK
    simp only [List.drop_succ_cons, List.drop_zero]
    refine goD_ok (by decide) ?_
    delta p31_r10 p31_r11
    simp (disch := omega) [oLt, oLe, oLtN, oLeN, nLt, nLe, nLtN, nLeN]
    exact hQ _ _ (.p (.inl rfl) (by simp [h1]) rfl)
end
section
set_option maxRecDepth 4000
set_option maxHeartbeats 20000000
theorem t32z {l : List Int} (u : Bool) {i j k : Int} (hg : small l = true) (hc : chk2F l = 0) (hi1 : 0 ≤ i) (hi2 : i ≤ (l.length : Int) - 1) (hj1 : 0 ≤ j) (hj2 : j ≤ (l.length : Int) - 1) (hk1 : 0 ≤ k) (hk2 : k ≤ (l.length : Int) - 1) (hij : ¬ j ≤ i) (hjk : ¬ k ≤ j) : Runs Try.prog 32 0 [.il (ints l) l.length u, vI i, vI j, vI k] (hpF []) (vI (prF 0 l i j k)) 0 (hpF []) := by
  have hlb : l.length ≤ 7 := (chkF_len ((chk2_eq l).symm.trans hc)).2
  refine P32.rz (ss := [s24, s71, s78]) ⟨s24_ok, s71_ok, s78_ok, trivial⟩ (by simp) fun Q hQ => ?_
  have gi : inr l i = true := by simp [inr]; omega
  have gj : inr l j = true := by simp [inr]; omega
  have gk : inr l k = true := by simp [inr]; omega
  have hp : prF 0 l i j k = if brB l i.toNat j.toNat k.toNat = true then 0 else 14 := by simp [prF, gi, gj, gk, hij, hjk]
  rw [hp] at hQ
  cases hb : brB l i.toNat j.toNat k.toNat with
  | true =>
    delta p32
    refine XZ_step ?_ (fun N Q_ hN => ?_) ?_
    rotate_left
    · delta p32_r0; simp (disch := omega) [oLt, oLe, oLtN, oLeN, nLt, nLe, nLtN, nLeN]
      exact hN
    refine XZ_step ?_ (fun N Q_ hN => ?_) ?_
    rotate_left
    · delta p32_r1; simp (disch := omega) [oLt, oLe, oLtN, oLeN, nLt, nLe, nLtN, nLeN, hg, hc]
      exact hN
    refine XZ_step ?_ (fun N Q_ hN => ?_) ?_
    rotate_left
    · delta p32_r2; simp (disch := omega) [oLt, oLe, oLtN, oLeN, nLt, nLe, nLtN, nLeN]
      exact hN
    refine XZ_step ?_ (fun N Q_ hN => ?_) ?_
    rotate_left
    · refine XZ_regG ?_
      delta p32_r3
      refine zOps_cut 8 ?_ (fun K_ hK => ?_) ?_
      rotate_left
      · simp only [List.take_succ_cons, List.take_zero]
        simp (disch := omega) [oLt, oLe, oLtN, oLeN, nLt, nLe, nLtN, nLeN, hi1, hi2, hj1, hj2, hk1, hk2]
        exact hK
      simp only [List.drop_succ_cons, List.drop_zero]
      refine zOps_cut 6 ?_ (fun K_ hK => ?_) ?_
      rotate_left
      · simp only [List.take_succ_cons, List.take_zero]
        simp (disch := omega) [oLt, oLe, oLtN, oLeN, nLt, nLe, nLtN, nLeN, hi1, hi2, hj1, hj2, hk1, hk2]
        exact hK
      simp only [List.drop_succ_cons, List.drop_zero]
      simp (disch := omega) [oLt, oLe, oLtN, oLeN, nLt, nLe, nLtN, nLeN, hi1, hi2, hj1, hj2, hk1, hk2]
      exact hN
    refine XZ_step ?_ (fun N Q_ hN => ?_) ?_
    rotate_left
    · refine XZ_regG ?_
      delta p32_r5
      refine zOps_cut 7 ?_ (fun K_ hK => ?_) ?_
      rotate_left
      · simp only [List.take_succ_cons, List.take_zero]
        simp (disch := omega) [oLt, oLe, oLtN, oLeN, nLt, nLe, nLtN, nLeN, hij, hjk]
        exact hK
      simp only [List.drop_succ_cons, List.drop_zero]
      simp (disch := omega) [oLt, oLe, oLtN, oLeN, nLt, nLe, nLtN, nLeN, hij, hjk]
      exact hN
    refine XZ_step ?_ (fun N Q_ hN => ?_) ?_
    rotate_left
    · refine XZ_regG ?_
      delta p32_r7 p32_r8
      simp (disch := omega) [oLt, oLe, oLtN, oLeN, nLt, nLe, nLtN, nLeN, hg, gi, gj, gk, hb]
      exact hN
    delta p32_r9
    simp (disch := omega) [oLt, oLe, oLtN, oLeN, nLt, nLe, nLtN, nLeN]
    exact hQ _ _ (.p (.inl rfl) (by simp [hb]) rfl)
  | false =>
    delta p32
    refine XZ_step ?_ (fun N Q_ hN => ?_) ?_
    rotate_left
    · delta p32_r0; simp (disch := omega) [oLt, oLe, oLtN, oLeN, nLt, nLe, nLtN, nLeN]
      exact hN
    refine XZ_step ?_ (fun N Q_ hN => ?_) ?_
    rotate_left
    · delta p32_r1; simp (disch := omega) [oLt, oLe, oLtN, oLeN, nLt, nLe, nLtN, nLeN, hg, hc]
      exact hN
    refine XZ_step ?_ (fun N Q_ hN => ?_) ?_
    rotate_left
    · delta p32_r2; simp (disch := omega) [oLt, oLe, oLtN, oLeN, nLt, nLe, nLtN, nLeN]
      exact hN
    refine XZ_step ?_ (fun N Q_ hN => ?_) ?_
    rotate_left
    · refine XZ_regG ?_
      delta p32_r3
      refine zOps_cut 8 ?_ (fun K_ hK => ?_) ?_
      rotate_left
      · simp only [List.take_succ_cons, List.take_zero]
        simp (disch := omega) [oLt, oLe, oLtN, oLeN, nLt, nLe, nLtN, nLeN, hi1, hi2, hj1, hj2, hk1, hk2]
        exact hK
      simp only [List.drop_succ_cons, List.drop_zero]
      refine zOps_cut 6 ?_ (fun K_ hK => ?_) ?_
      rotate_left
      · simp only [List.take_succ_cons, List.take_zero]
        simp (disch := omega) [oLt, oLe, oLtN, oLeN, nLt, nLe, nLtN, nLeN, hi1, hi2, hj1, hj2, hk1, hk2]
        exact hK
      simp only [List.drop_succ_cons, List.drop_zero]
      simp (disch := omega) [oLt, oLe, oLtN, oLeN, nLt, nLe, nLtN, nLeN, hi1, hi2, hj1, hj2, hk1, hk2]
      exact hN
    refine XZ_step ?_ (fun N Q_ hN => ?_) ?_
    rotate_left
    · refine XZ_regG ?_
      delta p32_r5
      refine zOps_cut 7 ?_ (fun K_ hK => ?_) ?_
      rotate_left
      · simp only [List.take_succ_cons, List.take_zero]
        simp (disch := omega) [oLt, oLe, oLtN, oLeN, nLt, nLe, nLtN, nLeN, hij, hjk]
        exact hK
      simp only [List.drop_succ_cons, List.drop_zero]
      simp (disch := omega) [oLt, oLe, oLtN, oLeN, nLt, nLe, nLtN, nLeN, hij, hjk]
      exact hN
    refine XZ_step ?_ (fun N Q_ hN => ?_) ?_
    rotate_left
    · refine XZ_regG ?_
      delta p32_r7 p32_r8
      simp (disch := omega) [oLt, oLe, oLtN, oLeN, nLt, nLe, nLtN, nLeN, hg, gi, gj, gk, hb]
      exact hN
    delta p32_r9
    simp (disch := omega) [oLt, oLe, oLtN, oLeN, nLt, nLe, nLtN, nLeN]
    exact hQ _ _ (.p (.inl rfl) (by simp [hb]) rfl)
end
section
set_option maxRecDepth 4000
set_option maxHeartbeats 20000000
theorem t31i1 {l : List Int} (u : Bool) {i j k : Int} (hg : small l = true) (hc : chkF l = 0) (hi1 : ¬ 0 ≤ i) : Runs Try.prog 31 0 [.il (ints l) l.length u, vI i, vI j, vI k] (hpF []) (vI (prF 0 l i j k)) 0 (hpF []) := by
  have hlb : l.length ≤ 7 := (chkF_len hc).2
  refine P31.rz (ss := [s23, s70]) ⟨s23_ok, s70_ok, trivial⟩ (by simp) fun Q hQ => ?_
  have hr : prF 0 l i j k = 2 := by
    simp [prF, inr, hi1]
  rw [hr] at hQ
  delta p31 p31_r0 p31_r1 p31_r2 p31_r3 p31_r4 p31_r5 p31_r6 p31_r7 p31_r8 p31_r9 p31_r10 p31_r11
  simp (disch := omega) [oLt, oLe, oLtN, oLeN, nLt, nLe, nLtN, nLeN, hg, hc, hi1]
  exact hQ _ _ (.p (.inl rfl) (by simp) rfl)
theorem t31i2 {l : List Int} (u : Bool) {i j k : Int} (hg : small l = true) (hc : chkF l = 0) (hi1 : 0 ≤ i) (hi2 : ¬ i < (l.length : Int)) : Runs Try.prog 31 0 [.il (ints l) l.length u, vI i, vI j, vI k] (hpF []) (vI (prF 0 l i j k)) 0 (hpF []) := by
  have hlb : l.length ≤ 7 := (chkF_len hc).2
  refine P31.rz (ss := [s23, s70]) ⟨s23_ok, s70_ok, trivial⟩ (by simp) fun Q hQ => ?_
  have hr : prF 0 l i j k = 2 := by
    have : ¬ i < (l.length : Int) := by omega
    simp [prF, inr, hi2, this]
  rw [hr] at hQ
  delta p31 p31_r0 p31_r1 p31_r2 p31_r3 p31_r4 p31_r5 p31_r6 p31_r7 p31_r8 p31_r9 p31_r10 p31_r11
  simp (disch := omega) [oLt, oLe, oLtN, oLeN, nLt, nLe, nLtN, nLeN, hg, hc, hi1, hi2]
  exact hQ _ _ (.p (.inl rfl) (by simp) rfl)
theorem t31j1 {l : List Int} (u : Bool) {i j k : Int} (hg : small l = true) (hc : chkF l = 0) (hi1 : 0 ≤ i) (hi2 : i < (l.length : Int)) (hj1 : ¬ 0 ≤ j) : Runs Try.prog 31 0 [.il (ints l) l.length u, vI i, vI j, vI k] (hpF []) (vI (prF 0 l i j k)) 0 (hpF []) := by
  have hlb : l.length ≤ 7 := (chkF_len hc).2
  refine P31.rz (ss := [s23, s70]) ⟨s23_ok, s70_ok, trivial⟩ (by simp) fun Q hQ => ?_
  have hr : prF 0 l i j k = 2 := by
    simp [prF, inr, hj1]
  rw [hr] at hQ
  delta p31 p31_r0 p31_r1 p31_r2 p31_r3 p31_r4 p31_r5 p31_r6 p31_r7 p31_r8 p31_r9 p31_r10 p31_r11
  simp (disch := omega) [oLt, oLe, oLtN, oLeN, nLt, nLe, nLtN, nLeN, hg, hc, hi1, hi2, hj1]
  exact hQ _ _ (.p (.inl rfl) (by simp) rfl)
theorem t31j2 {l : List Int} (u : Bool) {i j k : Int} (hg : small l = true) (hc : chkF l = 0) (hi1 : 0 ≤ i) (hi2 : i < (l.length : Int)) (hj1 : 0 ≤ j) (hj2 : ¬ j < (l.length : Int)) : Runs Try.prog 31 0 [.il (ints l) l.length u, vI i, vI j, vI k] (hpF []) (vI (prF 0 l i j k)) 0 (hpF []) := by
  have hlb : l.length ≤ 7 := (chkF_len hc).2
  refine P31.rz (ss := [s23, s70]) ⟨s23_ok, s70_ok, trivial⟩ (by simp) fun Q hQ => ?_
  have hr : prF 0 l i j k = 2 := by
    have : ¬ j < (l.length : Int) := by omega
    simp [prF, inr, hj2, this]
  rw [hr] at hQ
  delta p31 p31_r0 p31_r1 p31_r2 p31_r3 p31_r4 p31_r5 p31_r6 p31_r7 p31_r8 p31_r9 p31_r10 p31_r11
  simp (disch := omega) [oLt, oLe, oLtN, oLeN, nLt, nLe, nLtN, nLeN, hg, hc, hi1, hi2, hj1, hj2]
  exact hQ _ _ (.p (.inl rfl) (by simp) rfl)
theorem t31k1 {l : List Int} (u : Bool) {i j k : Int} (hg : small l = true) (hc : chkF l = 0) (hi1 : 0 ≤ i) (hi2 : i < (l.length : Int)) (hj1 : 0 ≤ j) (hj2 : j < (l.length : Int)) (hk1 : ¬ 0 ≤ k) : Runs Try.prog 31 0 [.il (ints l) l.length u, vI i, vI j, vI k] (hpF []) (vI (prF 0 l i j k)) 0 (hpF []) := by
  have hlb : l.length ≤ 7 := (chkF_len hc).2
  refine P31.rz (ss := [s23, s70]) ⟨s23_ok, s70_ok, trivial⟩ (by simp) fun Q hQ => ?_
  have hr : prF 0 l i j k = 2 := by
    simp [prF, inr, hk1]
  rw [hr] at hQ
  delta p31 p31_r0 p31_r1 p31_r2 p31_r3 p31_r4 p31_r5 p31_r6 p31_r7 p31_r8 p31_r9 p31_r10 p31_r11
  simp (disch := omega) [oLt, oLe, oLtN, oLeN, nLt, nLe, nLtN, nLeN, hg, hc, hi1, hi2, hj1, hj2, hk1]
  exact hQ _ _ (.p (.inl rfl) (by simp) rfl)
theorem t31k2 {l : List Int} (u : Bool) {i j k : Int} (hg : small l = true) (hc : chkF l = 0) (hi1 : 0 ≤ i) (hi2 : i < (l.length : Int)) (hj1 : 0 ≤ j) (hj2 : j < (l.length : Int)) (hk1 : 0 ≤ k) (hk2 : ¬ k < (l.length : Int)) : Runs Try.prog 31 0 [.il (ints l) l.length u, vI i, vI j, vI k] (hpF []) (vI (prF 0 l i j k)) 0 (hpF []) := by
  have hlb : l.length ≤ 7 := (chkF_len hc).2
  refine P31.rz (ss := [s23, s70]) ⟨s23_ok, s70_ok, trivial⟩ (by simp) fun Q hQ => ?_
  have hr : prF 0 l i j k = 2 := by
    have : ¬ k < (l.length : Int) := by omega
    simp [prF, inr, hk2, this]
  rw [hr] at hQ
  delta p31 p31_r0 p31_r1 p31_r2 p31_r3 p31_r4 p31_r5 p31_r6 p31_r7 p31_r8 p31_r9 p31_r10 p31_r11
  simp (disch := omega) [oLt, oLe, oLtN, oLeN, nLt, nLe, nLtN, nLeN, hg, hc, hi1, hi2, hj1, hj2, hk1, hk2]
  exact hQ _ _ (.p (.inl rfl) (by simp) rfl)
theorem t31ij {l : List Int} (u : Bool) {i j k : Int} (hg : small l = true) (hc : chkF l = 0) (hi1 : 0 ≤ i) (hi2 : i < (l.length : Int)) (hj1 : 0 ≤ j) (hj2 : j < (l.length : Int)) (hk1 : 0 ≤ k) (hk2 : k < (l.length : Int)) (hij : j ≤ i) : Runs Try.prog 31 0 [.il (ints l) l.length u, vI i, vI j, vI k] (hpF []) (vI (prF 0 l i j k)) 0 (hpF []) := by
  have hlb : l.length ≤ 7 := (chkF_len hc).2
  refine P31.rz (ss := [s23, s70]) ⟨s23_ok, s70_ok, trivial⟩ (by simp) fun Q hQ => ?_
  have hr : prF 0 l i j k = 7 := by
    have gi : inr l i = true := by simp [inr]; omega
    have gj : inr l j = true := by simp [inr]; omega
    have gk : inr l k = true := by simp [inr]; omega
    simp [prF, gi, gj, gk, hij]
  rw [hr] at hQ
  delta p31 p31_r0 p31_r1 p31_r2 p31_r3 p31_r4 p31_r5 p31_r6 p31_r7 p31_r8 p31_r9 p31_r10 p31_r11
  simp (disch := omega) [oLt, oLe, oLtN, oLeN, nLt, nLe, nLtN, nLeN, hg, hc, hi1, hi2, hj1, hj2, hk1, hk2, hij]
  exact hQ _ _ (.p (.inl rfl) (by simp) rfl)
theorem t31jk {l : List Int} (u : Bool) {i j k : Int} (hg : small l = true) (hc : chkF l = 0) (hi1 : 0 ≤ i) (hi2 : i < (l.length : Int)) (hj1 : 0 ≤ j) (hj2 : j < (l.length : Int)) (hk1 : 0 ≤ k) (hk2 : k < (l.length : Int)) (hij : ¬ j ≤ i) (hjk : k ≤ j) : Runs Try.prog 31 0 [.il (ints l) l.length u, vI i, vI j, vI k] (hpF []) (vI (prF 0 l i j k)) 0 (hpF []) := by
  have hlb : l.length ≤ 7 := (chkF_len hc).2
  refine P31.rz (ss := [s23, s70]) ⟨s23_ok, s70_ok, trivial⟩ (by simp) fun Q hQ => ?_
  have hr : prF 0 l i j k = 7 := by
    have gi : inr l i = true := by simp [inr]; omega
    have gj : inr l j = true := by simp [inr]; omega
    have gk : inr l k = true := by simp [inr]; omega
    simp [prF, gi, gj, gk, hij, hjk]
  rw [hr] at hQ
  delta p31 p31_r0 p31_r1 p31_r2 p31_r3 p31_r4 p31_r5 p31_r6 p31_r7 p31_r8 p31_r9 p31_r10 p31_r11
  simp (disch := omega) [oLt, oLe, oLtN, oLeN, nLt, nLe, nLtN, nLeN, hg, hc, hi1, hi2, hj1, hj2, hk1, hk2, hij, hjk]
  exact hQ _ _ (.p (.inl rfl) (by simp) rfl)
def s31 : Sp := spT 31 [.l, .i, .i, .i] fun (l : List Int) (i : Int) (j : Int) (k : Int) => res (small l) (vI (prF (chkF l) l i j k))
@[simp] theorem s31_g : s31.g = 31 := rfl
@[simp] theorem s31_f : s31.f = (spT 31 [.l, .i, .i, .i] fun (l : List Int) (i : Int) (j : Int) (k : Int) => res (small l) (vI (prF (chkF l) l i j k))).f := rfl
theorem s31_ok : s31.ok Try.prog := by
  apply spT_ok
  simp only [OkT, Ty.all, List.nil_append, List.cons_append]
  intro (l : List Int) u (i : Int) (j : Int) (k : Int)
  apply okT_res; intro hg
  by_cases hc : chkF l = 0
  rotate_left
  · have hr : prF (chkF l) l i j k = chkF l := by unfold prF; rw [if_pos hc]
    rw [hr]
    refine P31.rz (ss := [s23, s70]) ⟨s23_ok, s70_ok, trivial⟩ (by simp) fun Q hQ => ?_
    delta p31 p31_r0 p31_r1 p31_r2 p31_r3 p31_r4 p31_r5 p31_r6 p31_r7 p31_r8 p31_r9 p31_r10 p31_r11
    simp (disch := omega) [oLt, oLe, oLtN, oLeN, nLt, nLe, nLtN, nLeN, hg, hc]
    exact hQ _ _ (.p (.inl rfl) (by simp) rfl)
  rw [hc]
  by_cases hi1 : 0 ≤ i
  rotate_left
  · exact t31i1 u hg hc hi1
  by_cases hi2 : i < (l.length : Int)
  rotate_left
  · exact t31i2 u hg hc hi1 hi2
  by_cases hj1 : 0 ≤ j
  rotate_left
  · exact t31j1 u hg hc hi1 hi2 hj1
  by_cases hj2 : j < (l.length : Int)
  rotate_left
  · exact t31j2 u hg hc hi1 hi2 hj1 hj2
  by_cases hk1 : 0 ≤ k
  rotate_left
  · exact t31k1 u hg hc hi1 hi2 hj1 hj2 hk1
  by_cases hk2 : k < (l.length : Int)
  rotate_left
  · exact t31k2 u hg hc hi1 hi2 hj1 hj2 hk1 hk2
  by_cases hij : j ≤ i
  · exact t31ij u hg hc hi1 hi2 hj1 hj2 hk1 hk2 hij
  by_cases hjk : k ≤ j
  · exact t31jk u hg hc hi1 hi2 hj1 hj2 hk1 hk2 hij hjk
  exact t31z u hg hc hi1 hi2 hj1 hj2 hk1 hk2 hij hjk
end
section
set_option maxRecDepth 4000
set_option maxHeartbeats 20000000
theorem t32i1 {l : List Int} (u : Bool) {i j k : Int} (hg : small l = true) (hc : chk2F l = 0) (hi1 : ¬ 0 ≤ i) : Runs Try.prog 32 0 [.il (ints l) l.length u, vI i, vI j, vI k] (hpF []) (vI (prF 0 l i j k)) 0 (hpF []) := by
  have hlb : l.length ≤ 7 := (chkF_len ((chk2_eq l).symm.trans hc)).2
  refine P32.rz (ss := [s24, s71, s78]) ⟨s24_ok, s71_ok, s78_ok, trivial⟩ (by simp) fun Q hQ => ?_
  have hr : prF 0 l i j k = 2 := by
    simp [prF, inr, hi1]
  rw [hr] at hQ
  delta p32
  refine XZ_step ?_ (fun N Q_ hN => ?_) ?_
  rotate_left
  · delta p32_r0; simp (disch := omega) [oLt, oLe, oLtN, oLeN, nLt, nLe, nLtN, nLeN]
    exact hN
  refine XZ_step ?_ (fun N Q_ hN => ?_) ?_
  rotate_left
  · delta p32_r1; simp (disch := omega) [oLt, oLe, oLtN, oLeN, nLt, nLe, nLtN, nLeN, hg, hc]
    exact hN
  refine XZ_step ?_ (fun N Q_ hN => ?_) ?_
  rotate_left
  · delta p32_r2; simp (disch := omega) [oLt, oLe, oLtN, oLeN, nLt, nLe, nLtN, nLeN]
    exact hN
  refine XZ_step ?_ (fun N Q_ hN => ?_) ?_
  rotate_left
  · refine XZ_regG ?_
    delta p32_r3
    refine zOps_cut 8 ?_ (fun K_ hK => ?_) ?_
    rotate_left
    · simp only [List.take_succ_cons, List.take_zero]
      simp (disch := omega) [oLt, oLe, oLtN, oLeN, nLt, nLe, nLtN, nLeN, hi1]
      exact hK
    simp only [List.drop_succ_cons, List.drop_zero]
    refine zOps_cut 6 ?_ (fun K_ hK => ?_) ?_
    rotate_left
    · simp only [List.take_succ_cons, List.take_zero]
      simp (disch := omega) [oLt, oLe, oLtN, oLeN, nLt, nLe, nLtN, nLeN, hi1]
      exact hK
    simp only [List.drop_succ_cons, List.drop_zero]
    delta p32_r4
    simp (disch := omega) [oLt, oLe, oLtN, oLeN, nLt, nLe, nLtN, nLeN, hi1]
    exact hN
  refine XZ_step ?_ (fun N Q_ hN => ?_) ?_
  rotate_left
  · refine XZ_regG ?_
    delta p32_r5
    refine zOps_cut 7 ?_ (fun K_ hK => ?_) ?_
    rotate_left
    · simp only [List.take_succ_cons, List.take_zero]
      simp (disch := omega) [oLt, oLe, oLtN, oLeN, nLt, nLe, nLtN, nLeN, hi1]
      exact hK
    simp only [List.drop_succ_cons, List.drop_zero]
    delta p32_r6
    simp (disch := omega) [oLt, oLe, oLtN, oLeN, nLt, nLe, nLtN, nLeN, hi1]
    exact hN
  refine XZ_step ?_ (fun N Q_ hN => ?_) ?_
  rotate_left
  · refine XZ_regG ?_
    delta p32_r7 p32_r8
    simp (disch := omega) [oLt, oLe, oLtN, oLeN, nLt, nLe, nLtN, nLeN, hi1]
    exact hN
  delta p32_r9
  simp (disch := omega) [oLt, oLe, oLtN, oLeN, nLt, nLe, nLtN, nLeN]
  exact hQ _ _ (.p (.inl rfl) (by simp) rfl)
theorem t32i2 {l : List Int} (u : Bool) {i j k : Int} (hg : small l = true) (hc : chk2F l = 0) (hi1 : 0 ≤ i) (hi2 : ¬ i ≤ (l.length : Int) - 1) : Runs Try.prog 32 0 [.il (ints l) l.length u, vI i, vI j, vI k] (hpF []) (vI (prF 0 l i j k)) 0 (hpF []) := by
  have hlb : l.length ≤ 7 := (chkF_len ((chk2_eq l).symm.trans hc)).2
  refine P32.rz (ss := [s24, s71, s78]) ⟨s24_ok, s71_ok, s78_ok, trivial⟩ (by simp) fun Q hQ => ?_
  have hr : prF 0 l i j k = 2 := by
    have : ¬ i < (l.length : Int) := by omega
    simp [prF, inr, hi2, this]
  rw [hr] at hQ
  delta p32
  refine XZ_step ?_ (fun N Q_ hN => ?_) ?_
  rotate_left
  · delta p32_r0; simp (disch := omega) [oLt, oLe, oLtN, oLeN, nLt, nLe, nLtN, nLeN]
    exact hN
  refine XZ_step ?_ (fun N Q_ hN => ?_) ?_
  rotate_left
  · delta p32_r1; simp (disch := omega) [oLt, oLe, oLtN, oLeN, nLt, nLe, nLtN, nLeN, hg, hc]
    exact hN
  refine XZ_step ?_ (fun N Q_ hN => ?_) ?_
  rotate_left
  · delta p32_r2; simp (disch := omega) [oLt, oLe, oLtN, oLeN, nLt, nLe, nLtN, nLeN]
    exact hN
  refine XZ_step ?_ (fun N Q_ hN => ?_) ?_
  rotate_left
  · refine XZ_regG ?_
    delta p32_r3
    refine zOps_cut 8 ?_ (fun K_ hK => ?_) ?_
    rotate_left
    · simp only [List.take_succ_cons, List.take_zero]
      simp (disch := omega) [oLt, oLe, oLtN, oLeN, nLt, nLe, nLtN, nLeN, hi1, hi2]
      exact hK
    simp only [List.drop_succ_cons, List.drop_zero]
    refine zOps_cut 6 ?_ (fun K_ hK => ?_) ?_
    rotate_left
    · simp only [List.take_succ_cons, List.take_zero]
      simp (disch := omega) [oLt, oLe, oLtN, oLeN, nLt, nLe, nLtN, nLeN, hi1, hi2]
      exact hK
    simp only [List.drop_succ_cons, List.drop_zero]
    delta p32_r4
    simp (disch := omega) [oLt, oLe, oLtN, oLeN, nLt, nLe, nLtN, nLeN, hi1, hi2]
    exact hN
  refine XZ_step ?_ (fun N Q_ hN => ?_) ?_
  rotate_left
  · refine XZ_regG ?_
    delta p32_r5
    refine zOps_cut 7 ?_ (fun K_ hK => ?_) ?_
    rotate_left
    · simp only [List.take_succ_cons, List.take_zero]
      simp (disch := omega) [oLt, oLe, oLtN, oLeN, nLt, nLe, nLtN, nLeN, hi1, hi2]
      exact hK
    simp only [List.drop_succ_cons, List.drop_zero]
    delta p32_r6
    simp (disch := omega) [oLt, oLe, oLtN, oLeN, nLt, nLe, nLtN, nLeN, hi1, hi2]
    exact hN
  refine XZ_step ?_ (fun N Q_ hN => ?_) ?_
  rotate_left
  · refine XZ_regG ?_
    delta p32_r7 p32_r8
    simp (disch := omega) [oLt, oLe, oLtN, oLeN, nLt, nLe, nLtN, nLeN, hi1, hi2]
    exact hN
  delta p32_r9
  simp (disch := omega) [oLt, oLe, oLtN, oLeN, nLt, nLe, nLtN, nLeN]
  exact hQ _ _ (.p (.inl rfl) (by simp) rfl)
theorem t32j1 {l : List Int} (u : Bool) {i j k : Int} (hg : small l = true) (hc : chk2F l = 0) (hi1 : 0 ≤ i) (hi2 : i ≤ (l.length : Int) - 1) (hj1 : ¬ 0 ≤ j) : Runs Try.prog 32 0 [.il (ints l) l.length u, vI i, vI j, vI k] (hpF []) (vI (prF 0 l i j k)) 0 (hpF []) := by
  have hlb : l.length ≤ 7 := (chkF_len ((chk2_eq l).symm.trans hc)).2
  refine P32.rz (ss := [s24, s71, s78]) ⟨s24_ok, s71_ok, s78_ok, trivial⟩ (by simp) fun Q hQ => ?_
  have hr : prF 0 l i j k = 2 := by
    simp [prF, inr, hj1]
  rw [hr] at hQ
  delta p32
  refine XZ_step ?_ (fun N Q_ hN => ?_) ?_
  rotate_left
  · delta p32_r0; simp (disch := omega) [oLt, oLe, oLtN, oLeN, nLt, nLe, nLtN, nLeN]
    exact hN
  refine XZ_step ?_ (fun N Q_ hN => ?_) ?_
  rotate_left
  · delta p32_r1; simp (disch := omega) [oLt, oLe, oLtN, oLeN, nLt, nLe, nLtN, nLeN, hg, hc]
    exact hN
  refine XZ_step ?_ (fun N Q_ hN => ?_) ?_
  rotate_left
  · delta p32_r2; simp (disch := omega) [oLt, oLe, oLtN, oLeN, nLt, nLe, nLtN, nLeN]
    exact hN
  refine XZ_step ?_ (fun N Q_ hN => ?_) ?_
  rotate_left
  · refine XZ_regG ?_
    delta p32_r3
    refine zOps_cut 8 ?_ (fun K_ hK => ?_) ?_
    rotate_left
    · simp only [List.take_succ_cons, List.take_zero]
      simp (disch := omega) [oLt, oLe, oLtN, oLeN, nLt, nLe, nLtN, nLeN, hi1, hi2, hj1]
      exact hK
    simp only [List.drop_succ_cons, List.drop_zero]
    refine zOps_cut 6 ?_ (fun K_ hK => ?_) ?_
    rotate_left
    · simp only [List.take_succ_cons, List.take_zero]
      simp (disch := omega) [oLt, oLe, oLtN, oLeN, nLt, nLe, nLtN, nLeN, hi1, hi2, hj1]
      exact hK
    simp only [List.drop_succ_cons, List.drop_zero]
    delta p32_r4
    simp (disch := omega) [oLt, oLe, oLtN, oLeN, nLt, nLe, nLtN, nLeN, hi1, hi2, hj1]
    exact hN
  refine XZ_step ?_ (fun N Q_ hN => ?_) ?_
  rotate_left
  · refine XZ_regG ?_
    delta p32_r5
    refine zOps_cut 7 ?_ (fun K_ hK => ?_) ?_
    rotate_left
    · simp only [List.take_succ_cons, List.take_zero]
      simp (disch := omega) [oLt, oLe, oLtN, oLeN, nLt, nLe, nLtN, nLeN, hi1, hi2, hj1]
      exact hK
    simp only [List.drop_succ_cons, List.drop_zero]
    delta p32_r6
    simp (disch := omega) [oLt, oLe, oLtN, oLeN, nLt, nLe, nLtN, nLeN, hi1, hi2, hj1]
    exact hN
  refine XZ_step ?_ (fun N Q_ hN => ?_) ?_
  rotate_left
  · refine XZ_regG ?_
    delta p32_r7 p32_r8
    simp (disch := omega) [oLt, oLe, oLtN, oLeN, nLt, nLe, nLtN, nLeN, hi1, hi2, hj1]
    exact hN
  delta p32_r9
  simp (disch := omega) [oLt, oLe, oLtN, oLeN, nLt, nLe, nLtN, nLeN]
  exact hQ _ _ (.p (.inl rfl) (by simp) rfl)
theorem t32j2 {l : List Int} (u : Bool) {i j k : Int} (hg : small l = true) (hc : chk2F l = 0) (hi1 : 0 ≤ i) (hi2 : i ≤ (l.length : Int) - 1) (hj1 : 0 ≤ j) (hj2 : ¬ j ≤ (l.length : Int) - 1) : Runs Try.prog 32 0 [.il (ints l) l.length u, vI i, vI j, vI k] (hpF []) (vI (prF 0 l i j k)) 0 (hpF []) := by
  have hlb : l.length ≤ 7 := (chkF_len ((chk2_eq l).symm.trans hc)).2
  refine P32.rz (ss := [s24, s71, s78]) ⟨s24_ok, s71_ok, s78_ok, trivial⟩ (by simp) fun Q hQ => ?_
  have hr : prF 0 l i j k = 2 := by
    have : ¬ j < (l.length : Int) := by omega
    simp [prF, inr, hj2, this]
  rw [hr] at hQ
  delta p32
  refine XZ_step ?_ (fun N Q_ hN => ?_) ?_
  rotate_left
  · delta p32_r0; simp (disch := omega) [oLt, oLe, oLtN, oLeN, nLt, nLe, nLtN, nLeN]
    exact hN
  refine XZ_step ?_ (fun N Q_ hN => ?_) ?_
  rotate_left
  · delta p32_r1; simp (disch := omega) [oLt, oLe, oLtN, oLeN, nLt, nLe, nLtN, nLeN, hg, hc]
    exact hN
  refine XZ_step ?_ (fun N Q_ hN => ?_) ?_
  rotate_left
  · delta p32_r2; simp (disch := omega) [oLt, oLe, oLtN, oLeN, nLt, nLe, nLtN, nLeN]
    exact hN
  refine XZ_step ?_ (fun N Q_ hN => ?_) ?_
  rotate_left
  · refine XZ_regG ?_
    delta p32_r3
    refine zOps_cut 8 ?_ (fun K_ hK => ?_) ?_
    rotate_left
    · simp only [List.take_succ_cons, List.take_zero]
      simp (disch := omega) [oLt, oLe, oLtN, oLeN, nLt, nLe, nLtN, nLeN, hi1, hi2, hj1, hj2]
      exact hK
    simp only [List.drop_succ_cons, List.drop_zero]
    refine zOps_cut 6 ?_ (fun K_ hK => ?_) ?_
    rotate_left
    · simp only [List.take_succ_cons, List.take_zero]
      simp (disch := omega) [oLt, oLe, oLtN, oLeN, nLt, nLe, nLtN, nLeN, hi1, hi2, hj1, hj2]
      exact hK
    simp only [List.drop_succ_cons, List.drop_zero]
    delta p32_r4
    simp (disch := omega) [oLt, oLe, oLtN, oLeN, nLt, nLe, nLtN, nLeN, hi1, hi2, hj1, hj2]
    exact hN
  refine XZ_step ?_ (fun N Q_ hN => ?_) ?_
  rotate_left
  · refine XZ_regG ?_
    delta p32_r5
    refine zOps_cut 7 ?_ (fun K_ hK => ?_) ?_
    rotate_left
    · simp only [List.take_succ_cons, List.take_zero]
      simp (disch := omega) [oLt, oLe, oLtN, oLeN, nLt, nLe, nLtN, nLeN, hi1, hi2, hj1, hj2]
      exact hK
    simp only [List.drop_succ_cons, List.drop_zero]
    delta p32_r6
    simp (disch := omega) [oLt, oLe, oLtN, oLeN, nLt, nLe, nLtN, nLeN, hi1, hi2, hj1, hj2]
    exact hN
  refine XZ_step ?_ (fun N Q_ hN => ?_) ?_
  rotate_left
  · refine XZ_regG ?_
    delta p32_r7 p32_r8
    simp (disch := omega) [oLt, oLe, oLtN, oLeN, nLt, nLe, nLtN, nLeN, hi1, hi2, hj1, hj2]
    exact hN
  delta p32_r9
  simp (disch := omega) [oLt, oLe, oLtN, oLeN, nLt, nLe, nLtN, nLeN]
  exact hQ _ _ (.p (.inl rfl) (by simp) rfl)
theorem t32k1 {l : List Int} (u : Bool) {i j k : Int} (hg : small l = true) (hc : chk2F l = 0) (hi1 : 0 ≤ i) (hi2 : i ≤ (l.length : Int) - 1) (hj1 : 0 ≤ j) (hj2 : j ≤ (l.length : Int) - 1) (hk1 : ¬ 0 ≤ k) : Runs Try.prog 32 0 [.il (ints l) l.length u, vI i, vI j, vI k] (hpF []) (vI (prF 0 l i j k)) 0 (hpF []) := by
  have hlb : l.length ≤ 7 := (chkF_len ((chk2_eq l).symm.trans hc)).2
  refine P32.rz (ss := [s24, s71, s78]) ⟨s24_ok, s71_ok, s78_ok, trivial⟩ (by simp) fun Q hQ => ?_
  have hr : prF 0 l i j k = 2 := by
    simp [prF, inr, hk1]
  rw [hr] at hQ
  delta p32
  refine XZ_step ?_ (fun N Q_ hN => ?_) ?_
  rotate_left
  · delta p32_r0; simp (disch := omega) [oLt, oLe, oLtN, oLeN, nLt, nLe, nLtN, nLeN]
    exact hN
  refine XZ_step ?_ (fun N Q_ hN => ?_) ?_
  rotate_left
  · delta p32_r1; simp (disch := omega) [oLt, oLe, oLtN, oLeN, nLt, nLe, nLtN, nLeN, hg, hc]
    exact hN
  refine XZ_step ?_ (fun N Q_ hN => ?_) ?_
  rotate_left
  · delta p32_r2; simp (disch := omega) [oLt, oLe, oLtN, oLeN, nLt, nLe, nLtN, nLeN]
    exact hN
  refine XZ_step ?_ (fun N Q_ hN => ?_) ?_
  rotate_left
  · refine XZ_regG ?_
    delta p32_r3
    refine zOps_cut 8 ?_ (fun K_ hK => ?_) ?_
    rotate_left
    · simp only [List.take_succ_cons, List.take_zero]
      simp (disch := omega) [oLt, oLe, oLtN, oLeN, nLt, nLe, nLtN, nLeN, hi1, hi2, hj1, hj2, hk1]
      exact hK
    simp only [List.drop_succ_cons, List.drop_zero]
    refine zOps_cut 6 ?_ (fun K_ hK => ?_) ?_
    rotate_left
    · simp only [List.take_succ_cons, List.take_zero]
      simp (disch := omega) [oLt, oLe, oLtN, oLeN, nLt, nLe, nLtN, nLeN, hi1, hi2, hj1, hj2, hk1]
      exact hK
    simp only [List.drop_succ_cons, List.drop_zero]
    delta p32_r4
    simp (disch := omega) [oLt, oLe, oLtN, oLeN, nLt, nLe, nLtN, nLeN, hi1, hi2, hj1, hj2, hk1]
    exact hN
  refine XZ_step ?_ (fun N Q_ hN => ?_) ?_
  rotate_left
  · refine XZ_regG ?_
    delta p32_r5
    refine zOps_cut 7 ?_ (fun K_ hK => ?_) ?_
    rotate_left
    · simp only [List.take_succ_cons, List.take_zero]
      simp (disch := omega) [oLt, oLe, oLtN, oLeN, nLt, nLe, nLtN, nLeN, hi1, hi2, hj1, hj2, hk1]
      exact hK
    simp only [List.drop_succ_cons, List.drop_zero]
    delta p32_r6
    simp (disch := omega) [oLt, oLe, oLtN, oLeN, nLt, nLe, nLtN, nLeN, hi1, hi2, hj1, hj2, hk1]
    exact hN
  refine XZ_step ?_ (fun N Q_ hN => ?_) ?_
  rotate_left
  · refine XZ_regG ?_
    delta p32_r7 p32_r8
    simp (disch := omega) [oLt, oLe, oLtN, oLeN, nLt, nLe, nLtN, nLeN, hi1, hi2, hj1, hj2, hk1]
    exact hN
  delta p32_r9
  simp (disch := omega) [oLt, oLe, oLtN, oLeN, nLt, nLe, nLtN, nLeN]
  exact hQ _ _ (.p (.inl rfl) (by simp) rfl)
theorem t32k2 {l : List Int} (u : Bool) {i j k : Int} (hg : small l = true) (hc : chk2F l = 0) (hi1 : 0 ≤ i) (hi2 : i ≤ (l.length : Int) - 1) (hj1 : 0 ≤ j) (hj2 : j ≤ (l.length : Int) - 1) (hk1 : 0 ≤ k) (hk2 : ¬ k ≤ (l.length : Int) - 1) : Runs Try.prog 32 0 [.il (ints l) l.length u, vI i, vI j, vI k] (hpF []) (vI (prF 0 l i j k)) 0 (hpF []) := by
  have hlb : l.length ≤ 7 := (chkF_len ((chk2_eq l).symm.trans hc)).2
  refine P32.rz (ss := [s24, s71, s78]) ⟨s24_ok, s71_ok, s78_ok, trivial⟩ (by simp) fun Q hQ => ?_
  have hr : prF 0 l i j k = 2 := by
    have : ¬ k < (l.length : Int) := by omega
    simp [prF, inr, hk2, this]
  rw [hr] at hQ
  delta p32
  refine XZ_step ?_ (fun N Q_ hN => ?_) ?_
  rotate_left
  · delta p32_r0; simp (disch := omega) [oLt, oLe, oLtN, oLeN, nLt, nLe, nLtN, nLeN]
    exact hN
  refine XZ_step ?_ (fun N Q_ hN => ?_) ?_
  rotate_left
  · delta p32_r1; simp (disch := omega) [oLt, oLe, oLtN, oLeN, nLt, nLe, nLtN, nLeN, hg, hc]
    exact hN
  refine XZ_step ?_ (fun N Q_ hN => ?_) ?_
  rotate_left
  · delta p32_r2; simp (disch := omega) [oLt, oLe, oLtN, oLeN, nLt, nLe, nLtN, nLeN]
    exact hN
  refine XZ_step ?_ (fun N Q_ hN => ?_) ?_
  rotate_left
  · refine XZ_regG ?_
    delta p32_r3
    refine zOps_cut 8 ?_ (fun K_ hK => ?_) ?_
    rotate_left
    · simp only [List.take_succ_cons, List.take_zero]
      simp (disch := omega) [oLt, oLe, oLtN, oLeN, nLt, nLe, nLtN, nLeN, hi1, hi2, hj1, hj2, hk1, hk2]
      exact hK
    simp only [List.drop_succ_cons, List.drop_zero]
    refine zOps_cut 6 ?_ (fun K_ hK => ?_) ?_
    rotate_left
    · simp only [List.take_succ_cons, List.take_zero]
      simp (disch := omega) [oLt, oLe, oLtN, oLeN, nLt, nLe, nLtN, nLeN, hi1, hi2, hj1, hj2, hk1, hk2]
      exact hK
    simp only [List.drop_succ_cons, List.drop_zero]
    delta p32_r4
    simp (disch := omega) [oLt, oLe, oLtN, oLeN, nLt, nLe, nLtN, nLeN, hi1, hi2, hj1, hj2, hk1, hk2]
    exact hN
  refine XZ_step ?_ (fun N Q_ hN => ?_) ?_
  rotate_left
  · refine XZ_regG ?_
    delta p32_r5
    refine zOps_cut 7 ?_ (fun K_ hK => ?_) ?_
    rotate_left
    · simp only [List.take_succ_cons, List.take_zero]
      simp (disch := omega) [oLt, oLe, oLtN, oLeN, nLt, nLe, nLtN, nLeN, hi1, hi2, hj1, hj2, hk1, hk2]
      exact hK
    simp only [List.drop_succ_cons, List.drop_zero]
    delta p32_r6
    simp (disch := omega) [oLt, oLe, oLtN, oLeN, nLt, nLe, nLtN, nLeN, hi1, hi2, hj1, hj2, hk1, hk2]
    exact hN
  refine XZ_step ?_ (fun N Q_ hN => ?_) ?_
  rotate_left
  · refine XZ_regG ?_
    delta p32_r7 p32_r8
    simp (disch := omega) [oLt, oLe, oLtN, oLeN, nLt, nLe, nLtN, nLeN, hi1, hi2, hj1, hj2, hk1, hk2]
    exact hN
  delta p32_r9
  simp (disch := omega) [oLt, oLe, oLtN, oLeN, nLt, nLe, nLtN, nLeN]
  exact hQ _ _ (.p (.inl rfl) (by simp) rfl)
theorem t32ij {l : List Int} (u : Bool) {i j k : Int} (hg : small l = true) (hc : chk2F l = 0) (hi1 : 0 ≤ i) (hi2 : i ≤ (l.length : Int) - 1) (hj1 : 0 ≤ j) (hj2 : j ≤ (l.length : Int) - 1) (hk1 : 0 ≤ k) (hk2 : k ≤ (l.length : Int) - 1) (hij : j ≤ i) : Runs Try.prog 32 0 [.il (ints l) l.length u, vI i, vI j, vI k] (hpF []) (vI (prF 0 l i j k)) 0 (hpF []) := by
  have hlb : l.length ≤ 7 := (chkF_len ((chk2_eq l).symm.trans hc)).2
  refine P32.rz (ss := [s24, s71, s78]) ⟨s24_ok, s71_ok, s78_ok, trivial⟩ (by simp) fun Q hQ => ?_
  have hr : prF 0 l i j k = 7 := by
    have gi : inr l i = true := by simp [inr]; omega
    have gj : inr l j = true := by simp [inr]; omega
    have gk : inr l k = true := by simp [inr]; omega
    simp [prF, gi, gj, gk, hij]
  rw [hr] at hQ
  delta p32
  refine XZ_step ?_ (fun N Q_ hN => ?_) ?_
  rotate_left
  · delta p32_r0; simp (disch := omega) [oLt, oLe, oLtN, oLeN, nLt, nLe, nLtN, nLeN]
    exact hN
  refine XZ_step ?_ (fun N Q_ hN => ?_) ?_
  rotate_left
  · delta p32_r1; simp (disch := omega) [oLt, oLe, oLtN, oLeN, nLt, nLe, nLtN, nLeN, hg, hc]
    exact hN
  refine XZ_step ?_ (fun N Q_ hN => ?_) ?_
  rotate_left
  · delta p32_r2; simp (disch := omega) [oLt, oLe, oLtN, oLeN, nLt, nLe, nLtN, nLeN]
    exact hN
  refine XZ_step ?_ (fun N Q_ hN => ?_) ?_
  rotate_left
  · refine XZ_regG ?_
    delta p32_r3
    refine zOps_cut 8 ?_ (fun K_ hK => ?_) ?_
    rotate_left
    · simp only [List.take_succ_cons, List.take_zero]
      simp (disch := omega) [oLt, oLe, oLtN, oLeN, nLt, nLe, nLtN, nLeN, hi1, hi2, hj1, hj2, hk1, hk2, hij]
      exact hK
    simp only [List.drop_succ_cons, List.drop_zero]
    refine zOps_cut 6 ?_ (fun K_ hK => ?_) ?_
    rotate_left
    · simp only [List.take_succ_cons, List.take_zero]
      simp (disch := omega) [oLt, oLe, oLtN, oLeN, nLt, nLe, nLtN, nLeN, hi1, hi2, hj1, hj2, hk1, hk2, hij]
      exact hK
    simp only [List.drop_succ_cons, List.drop_zero]
    delta p32_r4
    simp (disch := omega) [oLt, oLe, oLtN, oLeN, nLt, nLe, nLtN, nLeN, hi1, hi2, hj1, hj2, hk1, hk2, hij]
    exact hN
  refine XZ_step ?_ (fun N Q_ hN => ?_) ?_
  rotate_left
  · refine XZ_regG ?_
    delta p32_r5
    refine zOps_cut 7 ?_ (fun K_ hK => ?_) ?_
    rotate_left
    · simp only [List.take_succ_cons, List.take_zero]
      simp (disch := omega) [oLt, oLe, oLtN, oLeN, nLt, nLe, nLtN, nLeN, hi1, hi2, hj1, hj2, hk1, hk2, hij]
      exact hK
    simp only [List.drop_succ_cons, List.drop_zero]
    delta p32_r6
    simp (disch := omega) [oLt, oLe, oLtN, oLeN, nLt, nLe, nLtN, nLeN, hi1, hi2, hj1, hj2, hk1, hk2, hij]
    exact hN
  refine XZ_step ?_ (fun N Q_ hN => ?_) ?_
  rotate_left
  · refine XZ_regG ?_
    delta p32_r7 p32_r8
    simp (disch := omega) [oLt, oLe, oLtN, oLeN, nLt, nLe, nLtN, nLeN, hi1, hi2, hj1, hj2, hk1, hk2, hij]
    exact hN
  delta p32_r9
  simp (disch := omega) [oLt, oLe, oLtN, oLeN, nLt, nLe, nLtN, nLeN]
  exact hQ _ _ (.p (.inl rfl) (by simp) rfl)
theorem t32jk {l : List Int} (u : Bool) {i j k : Int} (hg : small l = true) (hc : chk2F l = 0) (hi1 : 0 ≤ i) (hi2 : i ≤ (l.length : Int) - 1) (hj1 : 0 ≤ j) (hj2 : j ≤ (l.length : Int) - 1) (hk1 : 0 ≤ k) (hk2 : k ≤ (l.length : Int) - 1) (hij : ¬ j ≤ i) (hjk : k ≤ j) : Runs Try.prog 32 0 [.il (ints l) l.length u, vI i, vI j, vI k] (hpF []) (vI (prF 0 l i j k)) 0 (hpF []) := by
  have hlb : l.length ≤ 7 := (chkF_len ((chk2_eq l).symm.trans hc)).2
  refine P32.rz (ss := [s24, s71, s78]) ⟨s24_ok, s71_ok, s78_ok, trivial⟩ (by simp) fun Q hQ => ?_
  have hr : prF 0 l i j k = 7 := by
    have gi : inr l i = true := by simp [inr]; omega
    have gj : inr l j = true := by simp [inr]; omega
    have gk : inr l k = true := by simp [inr]; omega
    simp [prF, gi, gj, gk, hij, hjk]
  rw [hr] at hQ
  delta p32
  refine XZ_step ?_ (fun N Q_ hN => ?_) ?_
  rotate_left
  · delta p32_r0; simp (disch := omega) [oLt, oLe, oLtN, oLeN, nLt, nLe, nLtN, nLeN]
    exact hN
  refine XZ_step ?_ (fun N Q_ hN => ?_) ?_
  rotate_left
  · delta p32_r1; simp (disch := omega) [oLt, oLe, oLtN, oLeN, nLt, nLe, nLtN, nLeN, hg, hc]
    exact hN
  refine XZ_step ?_ (fun N Q_ hN => ?_) ?_
  rotate_left
  · delta p32_r2; simp (disch := omega) [oLt, oLe, oLtN, oLeN, nLt, nLe, nLtN, nLeN]
    exact hN
  refine XZ_step ?_ (fun N Q_ hN => ?_) ?_
  rotate_left
  · refine XZ_regG ?_
    delta p32_r3
    refine zOps_cut 8 ?_ (fun K_ hK => ?_) ?_
    rotate_left
    · simp only [List.take_succ_cons, List.take_zero]
      simp (disch := omega) [oLt, oLe, oLtN, oLeN, nLt, nLe, nLtN, nLeN, hi1, hi2, hj1, hj2, hk1, hk2, hij, hjk]
      exact hK
    simp only [List.drop_succ_cons, List.drop_zero]
    refine zOps_cut 6 ?_ (fun K_ hK => ?_) ?_
    rotate_left
    · simp only [List.take_succ_cons, List.take_zero]
      simp (disch := omega) [oLt, oLe, oLtN, oLeN, nLt, nLe, nLtN, nLeN, hi1, hi2, hj1, hj2, hk1, hk2, hij, hjk]
      exact hK
    simp only [List.drop_succ_cons, List.drop_zero]
    delta p32_r4
    simp (disch := omega) [oLt, oLe, oLtN, oLeN, nLt, nLe, nLtN, nLeN, hi1, hi2, hj1, hj2, hk1, hk2, hij, hjk]
    exact hN
  refine XZ_step ?_ (fun N Q_ hN => ?_) ?_
  rotate_left
  · refine XZ_regG ?_
    delta p32_r5
    refine zOps_cut 7 ?_ (fun K_ hK => ?_) ?_
    rotate_left
    · simp only [List.take_succ_cons, List.take_zero]
      simp (disch := omega) [oLt, oLe, oLtN, oLeN, nLt, nLe, nLtN, nLeN, hi1, hi2, hj1, hj2, hk1, hk2, hij, hjk]
      exact hK
    simp only [List.drop_succ_cons, List.drop_zero]
    delta p32_r6
    simp (disch := omega) [oLt, oLe, oLtN, oLeN, nLt, nLe, nLtN, nLeN, hi1, hi2, hj1, hj2, hk1, hk2, hij, hjk]
    exact hN
  refine XZ_step ?_ (fun N Q_ hN => ?_) ?_
  rotate_left
  · refine XZ_regG ?_
    delta p32_r7 p32_r8
    simp (disch := omega) [oLt, oLe, oLtN, oLeN, nLt, nLe, nLtN, nLeN, hi1, hi2, hj1, hj2, hk1, hk2, hij, hjk]
    exact hN
  delta p32_r9
  simp (disch := omega) [oLt, oLe, oLtN, oLeN, nLt, nLe, nLtN, nLeN]
  exact hQ _ _ (.p (.inl rfl) (by simp) rfl)
def s32 : Sp := spT 32 [.l, .i, .i, .i] fun (l : List Int) (i : Int) (j : Int) (k : Int) => res (small l) (vI (prF (chk2F l) l i j k))
@[simp] theorem s32_g : s32.g = 32 := rfl
@[simp] theorem s32_f : s32.f = (spT 32 [.l, .i, .i, .i] fun (l : List Int) (i : Int) (j : Int) (k : Int) => res (small l) (vI (prF (chk2F l) l i j k))).f := rfl
theorem s32_ok : s32.ok Try.prog := by
  apply spT_ok
  simp only [OkT, Ty.all, List.nil_append, List.cons_append]
  intro (l : List Int) u (i : Int) (j : Int) (k : Int)
  apply okT_res; intro hg
  by_cases hc : chk2F l = 0
  rotate_left
  · have hr : prF (chk2F l) l i j k = chk2F l := by unfold prF; rw [if_pos hc]
    rw [hr]
    refine P32.rz (ss := [s24, s71, s78]) ⟨s24_ok, s71_ok, s78_ok, trivial⟩ (by simp) fun Q hQ => ?_
    obtain ⟨e, he⟩ : ∃ e, chk2F l = e := ⟨_, rfl⟩
    have hne : ¬ e = 0 := fun h => hc (he.trans h)
    rw [he] at hQ
    delta p32
    refine XZ_step ?_ (fun N Q_ hN => ?_) ?_
    rotate_left
    · delta p32_r0; simp (disch := omega) [oLt, oLe, oLtN, oLeN, nLt, nLe, nLtN, nLeN]
      exact hN
    refine XZ_step ?_ (fun N Q_ hN => ?_) ?_
    rotate_left
    · delta p32_r1; simp (disch := omega) [oLt, oLe, oLtN, oLeN, nLt, nLe, nLtN, nLeN, hg, he]
      exact hN
    refine XZ_step ?_ (fun N Q_ hN => ?_) ?_
    rotate_left
    · delta p32_r2; simp (disch := omega) [oLt, oLe, oLtN, oLeN, nLt, nLe, nLtN, nLeN]
      exact hN
    refine XZ_step ?_ (fun N Q_ hN => ?_) ?_
    rotate_left
    · refine XZ_regG ?_
      delta p32_r3
      refine zOps_cut 3 ?_ (fun K_ hK => ?_) ?_
      rotate_left
      · simp only [List.take_succ_cons, List.take_zero]
        simp (disch := omega) [oLt, oLe, oLtN, oLeN, nLt, nLe, nLtN, nLeN, hne]
        exact hK
      simp only [List.drop_succ_cons, List.drop_zero]
      refine zOps_cut 6 ?_ (fun K_ hK => ?_) ?_
      rotate_left
      · simp only [List.take_succ_cons, List.take_zero]
        simp (disch := omega) [oLt, oLe, oLtN, oLeN, nLt, nLe, nLtN, nLeN, hne]
        exact hK
      simp only [List.drop_succ_cons, List.drop_zero]
      refine zOps_cut 6 ?_ (fun K_ hK => ?_) ?_
      rotate_left
      · simp only [List.take_succ_cons, List.take_zero]
        simp (disch := omega) [oLt, oLe, oLtN, oLeN, nLt, nLe, nLtN, nLeN, hne]
        exact hK
      simp only [List.drop_succ_cons, List.drop_zero]
      simp (disch := omega) [oLt, oLe, oLtN, oLeN, nLt, nLe, nLtN, nLeN, hne]
      exact hN
    refine XZ_step ?_ (fun N Q_ hN => ?_) ?_
    rotate_left
    · refine XZ_regG ?_
      delta p32_r5
      refine zOps_cut 3 ?_ (fun K_ hK => ?_) ?_
      rotate_left
      · simp only [List.take_succ_cons, List.take_zero]
        simp (disch := omega) [oLt, oLe, oLtN, oLeN, nLt, nLe, nLtN, nLeN, hne]
        exact hK
      simp only [List.drop_succ_cons, List.drop_zero]
      refine zOps_cut 4 ?_ (fun K_ hK => ?_) ?_
      rotate_left
      · simp only [List.take_succ_cons, List.take_zero]
        simp (disch := omega) [oLt, oLe, oLtN, oLeN, nLt, nLe, nLtN, nLeN, hne]
        exact hK
      simp only [List.drop_succ_cons, List.drop_zero]
      simp (disch := omega) [oLt, oLe, oLtN, oLeN, nLt, nLe, nLtN, nLeN, hne]
      exact hN
    refine XZ_step ?_ (fun N Q_ hN => ?_) ?_
    rotate_left
    · refine XZ_regG ?_
      delta p32_r7
      refine zOps_cut 3 ?_ (fun K_ hK => ?_) ?_
      rotate_left
      · simp only [List.take_succ_cons, List.take_zero]
        simp (disch := omega) [oLt, oLe, oLtN, oLeN, nLt, nLe, nLtN, nLeN, hne]
        exact hK
      simp only [List.drop_succ_cons, List.drop_zero]
      simp (disch := omega) [oLt, oLe, oLtN, oLeN, nLt, nLe, nLtN, nLeN, hne]
      exact hN
    delta p32_r9
    simp (disch := omega) [oLt, oLe, oLtN, oLeN, nLt, nLe, nLtN, nLeN]
    exact hQ _ _ (.p (.inl rfl) (by simp) rfl)
  rw [hc]
  by_cases hi1 : 0 ≤ i
  rotate_left
  · exact t32i1 u hg hc hi1
  by_cases hi2 : i ≤ (l.length : Int) - 1
  rotate_left
  · exact t32i2 u hg hc hi1 hi2
  by_cases hj1 : 0 ≤ j
  rotate_left
  · exact t32j1 u hg hc hi1 hi2 hj1
  by_cases hj2 : j ≤ (l.length : Int) - 1
  rotate_left
  · exact t32j2 u hg hc hi1 hi2 hj1 hj2
  by_cases hk1 : 0 ≤ k
  rotate_left
  · exact t32k1 u hg hc hi1 hi2 hj1 hj2 hk1
  by_cases hk2 : k ≤ (l.length : Int) - 1
  rotate_left
  · exact t32k2 u hg hc hi1 hi2 hj1 hj2 hk1 hk2
  by_cases hij : j ≤ i
  · exact t32ij u hg hc hi1 hi2 hj1 hj2 hk1 hk2 hij
  by_cases hjk : k ≤ j
  · exact t32jk u hg hc hi1 hi2 hj1 hj2 hk1 hk2 hij hjk
  exact t32z u hg hc hi1 hi2 hj1 hj2 hk1 hk2 hij hjk
end
end Go.Sx.Lk
