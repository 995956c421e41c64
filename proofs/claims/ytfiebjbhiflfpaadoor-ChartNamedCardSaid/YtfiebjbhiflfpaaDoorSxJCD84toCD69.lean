/- What functions of the chart layer return: all lists that a step leads around (84; printed by mkCyc.py). No conditions. -/
import Derived.Test.YtfiebjbhiflfpaaDoorSxJCAtoCD
set_option linter.unusedVariables false
set_option linter.unusedSimpArgs false
set_option maxRecDepth 4000
namespace Go.Sx.Ch
open Go Go.Sx Go.Proofs

set_option maxHeartbeats 2000000 in
theorem in68_ok84 {T : List Int} {n k : Nat} {out : List (List Int)} {L : List Int} {M' : List Bool} {s0 : ST} {Q : Exit → ST → Prop} (hT : t34 T = true) (hn : n ≤ 16) (hs : ∀ k : Nat, k < n → 0 ≤ alongC T k ∧ alongC T k ≤ n - 1) (hk : k < n) (ho : out.length ≤ 16)
    {M : List Bool} (hM : M.length = 16) (hL : orb (alongC T) k 16 k = some L) (hM' : setM M L = M') (hs0 : ChgT 0 s0 (in68 (.fn (.func 84) [.agg (ints T)] []) n k M out k []))
    (hQ : Q (.exit 1000001) (st68 (.fn (.func 84) [.agg (ints T)] []) n k M' (out ++ [L]))) : XZ (rZ (spc [s84])) 0 (.loop p68_l0) s0 Q := by
  refine XZ_for (fun p : Nat × Int × List Int × List Bool => in68 (.fn (.func 84) [.agg (ints T)] []) n k p.2.2.2 out p.2.1 p.2.2.1) (fun p => p.1)
    (fun p => 0 ≤ p.2.1 ∧ p.2.1 ≤ n - 1 ∧ p.2.2.2.length = 16 ∧ p.2.2.1.length + p.1 ≤ 16 ∧ ∃ r, orb (alongC T) k p.1 p.2.1 = some r ∧ p.2.2.1 ++ r = L ∧ setM p.2.2.2 r = M') (16, k, [], M) ⟨by simp, by simp only; omega, hM, by simp, L, hL, by simp, hM'⟩ hs0 ?_
  rintro ⟨f, e, acc, M1⟩ ⟨h0, h1, h2, h3, r, hr, hacc, hset⟩ N Q' hN hE
  simp only at h0 h1 h2 h3 hr hacc hset ⊢
  cases f with
  | zero => cases hr
  | succ f =>
    obtain ⟨m, rfl⟩ := Int.eq_ofNat_of_zero_le h0
    have hm : m < n := by omega
    have hm16 : m < 16 := by omega
    have hmc : (m : Int) < 16 := by omega
    have hw : within 0 (m : Int) 15 = true := within_iff.2 ⟨by omega, by omega⟩
    have hv := hs m hm
    simp only [orb] at hr
    obtain ⟨v, hve⟩ : ∃ v, alongC T m = v := ⟨_, rfl⟩
    have hve2 := hve
    simp only [alongC] at hve2
    rw [hve] at hr hv
    by_cases hvk : v = k
    · rw [if_pos hvk] at hr
      cases hr
      have hvk' : ¬ v ≠ k := fun h => h hvk
      subst hacc
      rw [setM_cons, Int.toNat_natCast] at hset
      simp only [setM, List.foldl_nil] at hset
      subst hset
      rcases out with _ | ⟨o, orr⟩
      · rcases acc with _ | ⟨a, ar⟩
        · simp only [in68, fA, fH, fN, gA, gH, gN]
          delta p68_l0 p68_r9 p68_r10 p68_r11 p68_r12 p68_r13
          simp (disch := omega) [oLt, oLe, oLtN, oLeN, nLt, nLe, nLtN, nLeN, hm, hm16, hmc, hw, hT, hve2, hvk, h2]
          exact hE _ _ _ (.frz 7 (by simp; rfl) (by simp) (.tot [6, 5] (by simp [st68, fA, fH, fN]))) hQ
        · simp only [List.length_cons] at h3
          simp only [in68, fA, fH, fN, gA, gH, gN]
          delta p68_l0 p68_r9 p68_r10 p68_r11 p68_r12 p68_r13
          simp (disch := omega) [oLt, oLe, oLtN, oLeN, nLt, nLe, nLtN, nLeN, hm, hm16, hmc, hw, hT, hve2, hvk, h2]
          exact hE _ _ _ (.frz 8 (by simp; rfl) (by simp) (.tot [6, 5] (by simp [st68, fA, fH, fN]))) hQ
      · rcases acc with _ | ⟨a, ar⟩
        · simp only [List.length_cons] at ho
          simp only [in68, fA, fH, fN, gA, gH, gN]
          delta p68_l0 p68_r9 p68_r10 p68_r11 p68_r12 p68_r13
          simp (disch := omega) [oLt, oLe, oLtN, oLeN, nLt, nLe, nLtN, nLeN, hm, hm16, hmc, hw, hT, hve2, hvk, h2, ho]
          exact hE _ _ _ (.frz 8 (by simp; rfl) (by simp) (.tot [6, 5] (by simp [st68, fA, fH, fN]))) hQ
        · simp only [List.length_cons] at ho h3
          simp only [in68, fA, fH, fN, gA, gH, gN]
          delta p68_l0 p68_r9 p68_r10 p68_r11 p68_r12 p68_r13
          simp (disch := omega) [oLt, oLe, oLtN, oLeN, nLt, nLe, nLtN, nLeN, hm, hm16, hmc, hw, hT, hve2, hvk, h2, ho]
          exact hE _ _ _ (.frz 9 (by simp; rfl) (by simp) (.tot [6, 5] (by simp [st68, fA, fH, fN]))) hQ
    · rw [if_neg hvk] at hr
      obtain ⟨r', hr', rfl⟩ : ∃ r', orb (alongC T) k f v = some r' ∧ r = (m : Int) :: r' := by
        obtain ⟨r', h, e⟩ := Option.map_eq_some_iff.1 hr; exact ⟨r', h, e.symm⟩
      rw [setM_cons, Int.toNat_natCast] at hset
      have fin : ∀ s', ChgT 0 s' (in68 (.fn (.func 84) [.agg (ints T)] []) n k (M1.set m true) out v (acc ++ [(m : Int)])) → N s' := fun s' hh =>
        hN s' (f, v, acc ++ [(m : Int)], M1.set m true) (Nat.lt_succ_self f) ⟨hv.1, hv.2, by simp [h2], by simp; omega, r', hr', by simp [hacc], hset⟩ hh
      clear hN
      rcases out with _ | ⟨o, orr⟩
      · rcases acc with _ | ⟨a, ar⟩
        · simp only [in68, fA, fH, fN, gA, gH, gN]
          delta p68_l0 p68_r9 p68_r10 p68_r11 p68_r12 p68_r13
          simp (disch := omega) [oLt, oLe, oLtN, oLeN, nLt, nLe, nLtN, nLeN, hm, hm16, hmc, hw, hT, hve2, hvk, h2]
          exact fin _ (.tot [6, 8] (by simp [in68, fA, fH, fN, gA, gH, gN]))
        · simp only [List.length_cons] at h3
          simp only [in68, fA, fH, fN, gA, gH, gN]
          delta p68_l0 p68_r9 p68_r10 p68_r11 p68_r12 p68_r13
          simp (disch := omega) [oLt, oLe, oLtN, oLeN, nLt, nLe, nLtN, nLeN, hm, hm16, hmc, hw, hT, hve2, hvk, h2]
          exact fin _ (.tot [6, 8] (by simp [in68, fA, fH, fN, gA, gH, gN]))
      · simp only [List.length_cons] at ho
        rcases acc with _ | ⟨a, ar⟩
        · simp only [in68, fA, fH, fN, gA, gH, gN]
          delta p68_l0 p68_r9 p68_r10 p68_r11 p68_r12 p68_r13
          simp (disch := omega) [oLt, oLe, oLtN, oLeN, nLt, nLe, nLtN, nLeN, hm, hm16, hmc, hw, hT, hve2, hvk, h2]
          exact fin _ (.tot [6, 5, 8] (by simp [in68, fA, fH, fN, gA, gH, gN]))
        · simp only [List.length_cons] at h3
          simp only [in68, fA, fH, fN, gA, gH, gN]
          delta p68_l0 p68_r9 p68_r10 p68_r11 p68_r12 p68_r13
          simp (disch := omega) [oLt, oLe, oLtN, oLeN, nLt, nLe, nLtN, nLeN, hm, hm16, hmc, hw, hT, hve2, hvk, h2]
          exact fin _ (.tot [6, 5, 8] (by simp [in68, fA, fH, fN, gA, gH, gN]))
set_option maxHeartbeats 2000000 in
theorem cyc84_runs {C T : List Int} {n : Nat} (hC : t34 C = true) (hT : t34 T = true) (hn : C.getD 0 0 = n) (hg : okS (alongC T) n = true) :
    Runs Tryd.prog 68 0 [.agg (ints C), .fn (.func 84) [.agg (ints T)] []] (hpF []) (.il (lls (cyc (alongC T) n)) (cyc (alongC T) n).length false) 0 (hpF []) := by
  obtain ⟨h16, hs⟩ := okS_iff.1 hg
  have h34 : C.length = 34 := by simpa [t34] using hC
  have h0 : C[0]? = some (n : Int) := by
    rw [List.getElem?_eq_getElem (by omega)]
    simpa [List.getD_eq_getElem?_getD, h34] using hn
  have h0' : C[0] = (n : Int) := (List.getElem?_eq_some_iff.1 h0).2
  refine P68.rz (ss := [s84]) ⟨s84_ok, trivial⟩ (by simp) fun Q hQ => ?_
  delta p68 p68_r0 p68_r1 p68_r2 p68_r3
  simp (disch := omega) [oLt, oLe, oLtN, oLeN, nLt, nLe, nLtN, nLeN, h0, h0', h34]
  refine XZ_for (fun k : Nat => st68 (.fn (.func 84) [.agg (ints T)] []) n k (cycN (alongC T) k).1 (cycN (alongC T) k).2) (fun k => n - k) (fun k => k ≤ n) 0 (by simp) (.tot [6] (by simp [st68, cycN, fA, fH, fN])) ?_
  intro k hk N Q' hN hE
  obtain ⟨hMl, hol⟩ := cycN_len (alongC T) k
  rcases Nat.lt_or_ge k n with h | h
  · have hkc : (k : Int) < n := by omega
    have hk16 : (k : Int) < 16 := by omega
    have hk16' : k < 16 := by omega
    obtain ⟨-, L, hL⟩ := hs k h
    have hnext := cycN_succ (alongC T) k
    obtain ⟨b, hb⟩ : ∃ b, (cycN (alongC T) k).1[k]? = some b := ⟨(cycN (alongC T) k).1[k], by rw [List.getElem?_eq_getElem]⟩
    have hb' : (cycN (alongC T) k).1.getD k false = b := by simp [List.getD_eq_getElem?_getD, hb]
    unfold cycS at hnext
    rw [hb', hL] at hnext
    generalize hM : (cycN (alongC T) k).1 = M at *
    generalize ho : (cycN (alongC T) k).2 = out at *
    have hbe : M[k] = b := (List.getElem?_eq_some_iff.1 hb).2
    cases b with
    | true =>
      rw [if_pos rfl] at hnext
      have fin : ∀ s', ChgT 0 s' (st68 (.fn (.func 84) [.agg (ints T)] []) n ((k + 1 : Nat)) M out) → N s' := fun s' hh => hN s' (k + 1) (by omega) h (by rw [hnext, hM, ho]; exact hh)
      rcases out with _ | ⟨o, orr⟩
      · simp only [st68, fA, fH, fN]
        delta p68_l1 p68_r4 p68_r5 p68_r6 p68_r7 p68_r8
        simp (disch := omega) [oLt, oLe, oLtN, oLeN, nLt, nLe, nLtN, nLeN, hkc, hk16, hk16', hb, hbe, hMl]
        delta p68_r14
        simp (disch := omega) [oLt, oLe, oLtN, oLeN, nLt, nLe, nLtN, nLeN]
        exact fin _ (.tot [6] (by simp [st68, fA, fH, fN]))
      · simp only [st68, fA, fH, fN]
        delta p68_l1 p68_r4 p68_r5 p68_r6 p68_r7 p68_r8
        simp (disch := omega) [oLt, oLe, oLtN, oLeN, nLt, nLe, nLtN, nLeN, hkc, hk16, hk16', hb, hbe, hMl]
        delta p68_r14
        simp (disch := omega) [oLt, oLe, oLtN, oLeN, nLt, nLe, nLtN, nLeN]
        exact fin _ (.tot [6, 5] (by simp [st68, fA, fH, fN]))
    | false =>
      rw [if_neg (by simp)] at hnext
      simp only [Option.getD_some] at hnext
      have fin : ∀ s', ChgT 0 s' (st68 (.fn (.func 84) [.agg (ints T)] []) n ((k + 1 : Nat)) (setM M L) (out ++ [L])) → N s' := fun s' hh => hN s' (k + 1) (by omega) h (by rw [hnext]; exact hh)
      rcases out with _ | ⟨o, orr⟩
      · simp only [st68, fA, fH, fN]
        delta p68_l1 p68_r4 p68_r5 p68_r6 p68_r7 p68_r8
        simp (disch := omega) [oLt, oLe, oLtN, oLeN, nLt, nLe, nLtN, nLeN, hkc, hk16, hk16', hb, hbe, hMl]
        refine in68_ok84 (out := []) hT h16 (fun k hk => (hs k hk).1) h (by simp) hMl hL rfl (.tot [6] (by simp [in68, fA, fH, fN, gA, gH, gN])) ?_
        simp only [inBE, thenE, if_true, st68, fA, fH, fN, List.nil_append]
        delta p68_r14
        simp (disch := omega) [oLt, oLe, oLtN, oLeN, nLt, nLe, nLtN, nLeN]
        exact fin _ (.tot [6, 5] (by simp [st68, fA, fH, fN]))
      · simp only [st68, fA, fH, fN]
        delta p68_l1 p68_r4 p68_r5 p68_r6 p68_r7 p68_r8
        simp (disch := omega) [oLt, oLe, oLtN, oLeN, nLt, nLe, nLtN, nLeN, hkc, hk16, hk16', hb, hbe, hMl]
        refine in68_ok84 (out := o :: orr) hT h16 (fun k hk => (hs k hk).1) h (by simp at hol ⊢; omega) hMl hL rfl (.tot [6, 5] (by simp [in68, fA, fH, fN, gA, gH, gN])) ?_
        simp only [inBE, thenE, if_true, st68, fA, fH, fN, List.cons_append]
        delta p68_r14
        simp (disch := omega) [oLt, oLe, oLtN, oLeN, nLt, nLe, nLtN, nLeN]
        exact fin _ (.tot [6, 5] (by simp [st68, fA, fH, fN]))
  · have hkc : ¬ (k : Int) < n := by omega
    obtain rfl : k = n := by omega
    have hcyc : (cycN (alongC T) k).2 = cyc (alongC T) k := rfl
    generalize (cycN (alongC T) k).1 = M at *
    rw [hcyc]
    clear hcyc
    generalize cyc (alongC T) k = out at *
    rcases out with _ | ⟨o, orr⟩
    · simp only [st68, fA, fH, fN]
      delta p68_l1 p68_r4 p68_r5 p68_r6 p68_r7 p68_r8
      simp (disch := omega) [oLt, oLe, oLtN, oLeN, nLt, nLe, nLtN, nLeN, hkc]
      refine hE _ _ _ .refl ?_
      delta p68_r15
      simp (disch := omega) [oLt, oLe, oLtN, oLeN, nLt, nLe, nLtN, nLeN]
      exact hQ _ _ (.fz [4] _ (.inl rfl) (by simp; rfl) (by simp) (by simp))
    · simp only [st68, fA, fH, fN]
      delta p68_l1 p68_r4 p68_r5 p68_r6 p68_r7 p68_r8
      simp (disch := omega) [oLt, oLe, oLtN, oLeN, nLt, nLe, nLtN, nLeN, hkc]
      refine hE _ _ _ .refl ?_
      delta p68_r15
      simp (disch := omega) [oLt, oLe, oLtN, oLeN, nLt, nLe, nLtN, nLeN]
      exact hQ _ _ (.fz [4] _ (.inl rfl) (by simp; rfl) (by simp) (by simp))
end Go.Sx.Ch
set_option maxRecDepth 4000
namespace Go.Sx.Ch
open Go Go.Sx Go.Proofs

set_option maxHeartbeats 2000000 in
theorem in68_ok69 {T : List Int} {n k : Nat} {out : List (List Int)} {L : List Int} {M' : List Bool} {s0 : ST} {Q : Exit → ST → Prop} (hT : T.length = 16) (hn : n ≤ 16) (hs : ∀ k : Nat, k < n → 0 ≤ backC T k ∧ backC T k ≤ n - 1) (hk : k < n) (ho : out.length ≤ 16)
    {M : List Bool} (hM : M.length = 16) (hL : orb (backC T) k 16 k = some L) (hM' : setM M L = M') (hs0 : ChgT 0 s0 (in68 (.fn (.func 69) [] [.elt (ints T) 0]) n k M out k []))
    (hQ : Q (.exit 1000001) (st68 (.fn (.func 69) [] [.elt (ints T) 0]) n k M' (out ++ [L]))) : XZ (rZ (spc [s69])) 0 (.loop p68_l0) s0 Q := by
  refine XZ_for (fun p : Nat × Int × List Int × List Bool => in68 (.fn (.func 69) [] [.elt (ints T) 0]) n k p.2.2.2 out p.2.1 p.2.2.1) (fun p => p.1)
    (fun p => 0 ≤ p.2.1 ∧ p.2.1 ≤ n - 1 ∧ p.2.2.2.length = 16 ∧ p.2.2.1.length + p.1 ≤ 16 ∧ ∃ r, orb (backC T) k p.1 p.2.1 = some r ∧ p.2.2.1 ++ r = L ∧ setM p.2.2.2 r = M') (16, k, [], M) ⟨by simp, by simp only; omega, hM, by simp, L, hL, by simp, hM'⟩ hs0 ?_
  rintro ⟨f, e, acc, M1⟩ ⟨h0, h1, h2, h3, r, hr, hacc, hset⟩ N Q' hN hE
  simp only at h0 h1 h2 h3 hr hacc hset ⊢
  cases f with
  | zero => cases hr
  | succ f =>
    obtain ⟨m, rfl⟩ := Int.eq_ofNat_of_zero_le h0
    have hm : m < n := by omega
    have hm16 : m < 16 := by omega
    have hmc : (m : Int) < 16 := by omega
    have hw : within 0 (m : Int) 15 = true := within_iff.2 ⟨by omega, by omega⟩
    have hv := hs m hm
    simp only [orb] at hr
    obtain ⟨v, hve⟩ : ∃ v, backC T m = v := ⟨_, rfl⟩
    have hve2 : T[m]? = some v := by rw [← hve]; simp [backC, List.getD_eq_getElem?_getD, hT, hm16]
    have hve3 : T[m] = v := (List.getElem?_eq_some_iff.1 hve2).2
    rw [hve] at hr hv
    by_cases hvk : v = k
    · rw [if_pos hvk] at hr
      cases hr
      have hvk' : ¬ v ≠ k := fun h => h hvk
      subst hacc
      rw [setM_cons, Int.toNat_natCast] at hset
      simp only [setM, List.foldl_nil] at hset
      subst hset
      rcases out with _ | ⟨o, orr⟩
      · rcases acc with _ | ⟨a, ar⟩
        · simp only [in68, fA, fH, fN, gA, gH, gN]
          delta p68_l0 p68_r9 p68_r10 p68_r11 p68_r12 p68_r13
          simp (disch := omega) [oLt, oLe, oLtN, oLeN, nLt, nLe, nLtN, nLeN, hm, hm16, hmc, hw, hT, hve2, hve3, hvk, h2]
          exact hE _ _ _ (.frz 7 (by simp; rfl) (by simp) (.tot [6, 5] (by simp [st68, fA, fH, fN]))) hQ
        · simp only [List.length_cons] at h3
          simp only [in68, fA, fH, fN, gA, gH, gN]
          delta p68_l0 p68_r9 p68_r10 p68_r11 p68_r12 p68_r13
          simp (disch := omega) [oLt, oLe, oLtN, oLeN, nLt, nLe, nLtN, nLeN, hm, hm16, hmc, hw, hT, hve2, hve3, hvk, h2]
          exact hE _ _ _ (.frz 8 (by simp; rfl) (by simp) (.tot [6, 5] (by simp [st68, fA, fH, fN]))) hQ
      · rcases acc with _ | ⟨a, ar⟩
        · simp only [List.length_cons] at ho
          simp only [in68, fA, fH, fN, gA, gH, gN]
          delta p68_l0 p68_r9 p68_r10 p68_r11 p68_r12 p68_r13
          simp (disch := omega) [oLt, oLe, oLtN, oLeN, nLt, nLe, nLtN, nLeN, hm, hm16, hmc, hw, hT, hve2, hve3, hvk, h2, ho]
          exact hE _ _ _ (.frz 8 (by simp; rfl) (by simp) (.tot [6, 5] (by simp [st68, fA, fH, fN]))) hQ
        · simp only [List.length_cons] at ho h3
          simp only [in68, fA, fH, fN, gA, gH, gN]
          delta p68_l0 p68_r9 p68_r10 p68_r11 p68_r12 p68_r13
          simp (disch := omega) [oLt, oLe, oLtN, oLeN, nLt, nLe, nLtN, nLeN, hm, hm16, hmc, hw, hT, hve2, hve3, hvk, h2, ho]
          exact hE _ _ _ (.frz 9 (by simp; rfl) (by simp) (.tot [6, 5] (by simp [st68, fA, fH, fN]))) hQ
    · rw [if_neg hvk] at hr
      obtain ⟨r', hr', rfl⟩ : ∃ r', orb (backC T) k f v = some r' ∧ r = (m : Int) :: r' := by
        obtain ⟨r', h, e⟩ := Option.map_eq_some_iff.1 hr; exact ⟨r', h, e.symm⟩
      rw [setM_cons, Int.toNat_natCast] at hset
      have fin : ∀ s', ChgT 0 s' (in68 (.fn (.func 69) [] [.elt (ints T) 0]) n k (M1.set m true) out v (acc ++ [(m : Int)])) → N s' := fun s' hh =>
        hN s' (f, v, acc ++ [(m : Int)], M1.set m true) (Nat.lt_succ_self f) ⟨hv.1, hv.2, by simp [h2], by simp; omega, r', hr', by simp [hacc], hset⟩ hh
      clear hN
      rcases out with _ | ⟨o, orr⟩
      · rcases acc with _ | ⟨a, ar⟩
        · simp only [in68, fA, fH, fN, gA, gH, gN]
          delta p68_l0 p68_r9 p68_r10 p68_r11 p68_r12 p68_r13
          simp (disch := omega) [oLt, oLe, oLtN, oLeN, nLt, nLe, nLtN, nLeN, hm, hm16, hmc, hw, hT, hve2, hve3, hvk, h2]
          exact fin _ (.tot [6, 8] (by simp [in68, fA, fH, fN, gA, gH, gN]))
        · simp only [List.length_cons] at h3
          simp only [in68, fA, fH, fN, gA, gH, gN]
          delta p68_l0 p68_r9 p68_r10 p68_r11 p68_r12 p68_r13
          simp (disch := omega) [oLt, oLe, oLtN, oLeN, nLt, nLe, nLtN, nLeN, hm, hm16, hmc, hw, hT, hve2, hve3, hvk, h2]
          exact fin _ (.tot [6, 8] (by simp [in68, fA, fH, fN, gA, gH, gN]))
      · simp only [List.length_cons] at ho
        rcases acc with _ | ⟨a, ar⟩
        · simp only [in68, fA, fH, fN, gA, gH, gN]
          delta p68_l0 p68_r9 p68_r10 p68_r11 p68_r12 p68_r13
          simp (disch := omega) [oLt, oLe, oLtN, oLeN, nLt, nLe, nLtN, nLeN, hm, hm16, hmc, hw, hT, hve2, hve3, hvk, h2]
          exact fin _ (.tot [6, 5, 8] (by simp [in68, fA, fH, fN, gA, gH, gN]))
        · simp only [List.length_cons] at h3
          simp only [in68, fA, fH, fN, gA, gH, gN]
          delta p68_l0 p68_r9 p68_r10 p68_r11 p68_r12 p68_r13
          simp (disch := omega) [oLt, oLe, oLtN, oLeN, nLt, nLe, nLtN, nLeN, hm, hm16, hmc, hw, hT, hve2, hve3, hvk, h2]
          exact fin _ (.tot [6, 5, 8] (by simp [in68, fA, fH, fN, gA, gH, gN]))
set_option maxHeartbeats 2000000 in
theorem cyc69_runs {C T : List Int} {n : Nat} (hC : t34 C = true) (hT : T.length = 16) (hn : C.getD 0 0 = n) (hg : okS (backC T) n = true) :
    Runs Tryd.prog 68 0 [.agg (ints C), .fn (.func 69) [] [.elt (ints T) 0]] (hpF []) (.il (lls (cyc (backC T) n)) (cyc (backC T) n).length false) 0 (hpF []) := by
  obtain ⟨h16, hs⟩ := okS_iff.1 hg
  have h34 : C.length = 34 := by simpa [t34] using hC
  have h0 : C[0]? = some (n : Int) := by
    rw [List.getElem?_eq_getElem (by omega)]
    simpa [List.getD_eq_getElem?_getD, h34] using hn
  have h0' : C[0] = (n : Int) := (List.getElem?_eq_some_iff.1 h0).2
  refine P68.rz (ss := [s69]) ⟨s69_ok, trivial⟩ (by simp) fun Q hQ => ?_
  delta p68 p68_r0 p68_r1 p68_r2 p68_r3
  simp (disch := omega) [oLt, oLe, oLtN, oLeN, nLt, nLe, nLtN, nLeN, h0, h0', h34]
  refine XZ_for (fun k : Nat => st68 (.fn (.func 69) [] [.elt (ints T) 0]) n k (cycN (backC T) k).1 (cycN (backC T) k).2) (fun k => n - k) (fun k => k ≤ n) 0 (by simp) (.tot [6] (by simp [st68, cycN, fA, fH, fN])) ?_
  intro k hk N Q' hN hE
  obtain ⟨hMl, hol⟩ := cycN_len (backC T) k
  rcases Nat.lt_or_ge k n with h | h
  · have hkc : (k : Int) < n := by omega
    have hk16 : (k : Int) < 16 := by omega
    have hk16' : k < 16 := by omega
    obtain ⟨-, L, hL⟩ := hs k h
    have hnext := cycN_succ (backC T) k
    obtain ⟨b, hb⟩ : ∃ b, (cycN (backC T) k).1[k]? = some b := ⟨(cycN (backC T) k).1[k], by rw [List.getElem?_eq_getElem]⟩
    have hb' : (cycN (backC T) k).1.getD k false = b := by simp [List.getD_eq_getElem?_getD, hb]
    unfold cycS at hnext
    rw [hb', hL] at hnext
    generalize hM : (cycN (backC T) k).1 = M at *
    generalize ho : (cycN (backC T) k).2 = out at *
    have hbe : M[k] = b := (List.getElem?_eq_some_iff.1 hb).2
    cases b with
    | true =>
      rw [if_pos rfl] at hnext
      have fin : ∀ s', ChgT 0 s' (st68 (.fn (.func 69) [] [.elt (ints T) 0]) n ((k + 1 : Nat)) M out) → N s' := fun s' hh => hN s' (k + 1) (by omega) h (by rw [hnext, hM, ho]; exact hh)
      rcases out with _ | ⟨o, orr⟩
      · simp only [st68, fA, fH, fN]
        delta p68_l1 p68_r4 p68_r5 p68_r6 p68_r7 p68_r8
        simp (disch := omega) [oLt, oLe, oLtN, oLeN, nLt, nLe, nLtN, nLeN, hkc, hk16, hk16', hb, hbe, hMl]
        delta p68_r14
        simp (disch := omega) [oLt, oLe, oLtN, oLeN, nLt, nLe, nLtN, nLeN]
        exact fin _ (.tot [6] (by simp [st68, fA, fH, fN]))
      · simp only [st68, fA, fH, fN]
        delta p68_l1 p68_r4 p68_r5 p68_r6 p68_r7 p68_r8
        simp (disch := omega) [oLt, oLe, oLtN, oLeN, nLt, nLe, nLtN, nLeN, hkc, hk16, hk16', hb, hbe, hMl]
        delta p68_r14
        simp (disch := omega) [oLt, oLe, oLtN, oLeN, nLt, nLe, nLtN, nLeN]
        exact fin _ (.tot [6, 5] (by simp [st68, fA, fH, fN]))
    | false =>
      rw [if_neg (by simp)] at hnext
      simp only [Option.getD_some] at hnext
      have fin : ∀ s', ChgT 0 s' (st68 (.fn (.func 69) [] [.elt (ints T) 0]) n ((k + 1 : Nat)) (setM M L) (out ++ [L])) → N s' := fun s' hh => hN s' (k + 1) (by omega) h (by rw [hnext]; exact hh)
      rcases out with _ | ⟨o, orr⟩
      · simp only [st68, fA, fH, fN]
        delta p68_l1 p68_r4 p68_r5 p68_r6 p68_r7 p68_r8
        simp (disch := omega) [oLt, oLe, oLtN, oLeN, nLt, nLe, nLtN, nLeN, hkc, hk16, hk16', hb, hbe, hMl]
        refine in68_ok69 (out := []) hT h16 (fun k hk => (hs k hk).1) h (by simp) hMl hL rfl (.tot [6] (by simp [in68, fA, fH, fN, gA, gH, gN])) ?_
        simp only [inBE, thenE, if_true, st68, fA, fH, fN, List.nil_append]
        delta p68_r14
        simp (disch := omega) [oLt, oLe, oLtN, oLeN, nLt, nLe, nLtN, nLeN]
        exact fin _ (.tot [6, 5] (by simp [st68, fA, fH, fN]))
      · simp only [st68, fA, fH, fN]
        delta p68_l1 p68_r4 p68_r5 p68_r6 p68_r7 p68_r8
        simp (disch := omega) [oLt, oLe, oLtN, oLeN, nLt, nLe, nLtN, nLeN, hkc, hk16, hk16', hb, hbe, hMl]
        refine in68_ok69 (out := o :: orr) hT h16 (fun k hk => (hs k hk).1) h (by simp at hol ⊢; omega) hMl hL rfl (.tot [6, 5] (by simp [in68, fA, fH, fN, gA, gH, gN])) ?_
        simp only [inBE, thenE, if_true, st68, fA, fH, fN, List.cons_append]
        delta p68_r14
        simp (disch := omega) [oLt, oLe, oLtN, oLeN, nLt, nLe, nLtN, nLeN]
        exact fin _ (.tot [6, 5] (by simp [st68, fA, fH, fN]))
  · have hkc : ¬ (k : Int) < n := by omega
    obtain rfl : k = n := by omega
    have hcyc : (cycN (backC T) k).2 = cyc (backC T) k := rfl
    generalize (cycN (backC T) k).1 = M at *
    rw [hcyc]
    clear hcyc
    generalize cyc (backC T) k = out at *
    rcases out with _ | ⟨o, orr⟩
    · simp only [st68, fA, fH, fN]
      delta p68_l1 p68_r4 p68_r5 p68_r6 p68_r7 p68_r8
      simp (disch := omega) [oLt, oLe, oLtN, oLeN, nLt, nLe, nLtN, nLeN, hkc]
      refine hE _ _ _ .refl ?_
      delta p68_r15
      simp (disch := omega) [oLt, oLe, oLtN, oLeN, nLt, nLe, nLtN, nLeN]
      exact hQ _ _ (.fz [4] _ (.inl rfl) (by simp; rfl) (by simp) (by simp))
    · simp only [st68, fA, fH, fN]
      delta p68_l1 p68_r4 p68_r5 p68_r6 p68_r7 p68_r8
      simp (disch := omega) [oLt, oLe, oLtN, oLeN, nLt, nLe, nLtN, nLeN, hkc]
      refine hE _ _ _ .refl ?_
      delta p68_r15
      simp (disch := omega) [oLt, oLe, oLtN, oLeN, nLt, nLe, nLtN, nLeN]
      exact hQ _ _ (.fz [4] _ (.inl rfl) (by simp; rfl) (by simp) (by simp))
end Go.Sx.Ch
