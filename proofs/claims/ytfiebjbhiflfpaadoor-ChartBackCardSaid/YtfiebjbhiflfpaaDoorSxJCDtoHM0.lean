/- What functions of the chart layer return: all lists that a step leads around. No conditions. -/
import Derived.Test.YtfiebjbhiflfpaaDoorSxJCAtoCC
import Derived.Test.YtfiebjbhiflfpaaDoorSxJNtoNq
import Derived.KernelRfl
import Derived.Test.YtfiebjbhiflfpaaDoorProg
set_option linter.unusedVariables false
set_option linter.unusedSimpArgs false
namespace Go.Sx.Ch
open Go Go.Sx Go.Proofs
section
set_option maxRecDepth 4000
set_option maxHeartbeats 2000000 in
theorem cyc71_runs {C T : List Int} {n : Nat} (hC : t34 C = true) (hT : t34 T = true) (hn : C.getD 0 0 = n) (hg : okS (afterC T) n = true) :
    Runs Tryd.prog 68 0 [.agg (ints C), .fn (.func 71) [.agg (ints T)] []] (hpF []) (.il (lls (cyc (afterC T) n)) (cyc (afterC T) n).length false) 0 (hpF []) := by
  obtain ⟨h16, hs⟩ := okS_iff.1 hg
  have h34 : C.length = 34 := by simpa [t34] using hC
  have h0 : C[0]? = some (n : Int) := by
    rw [List.getElem?_eq_getElem (by omega)]
    simpa [List.getD_eq_getElem?_getD, h34] using hn
  have h0' : C[0] = (n : Int) := (List.getElem?_eq_some_iff.1 h0).2
  refine P68.rz (ss := [s71]) ⟨s71_ok, trivial⟩ (by simp) fun Q hQ => ?_
  delta p68 p68_r0 p68_r1 p68_r2 p68_r3
  simp (disch := omega) [oLt, oLe, oLtN, oLeN, nLt, nLe, nLtN, nLeN, h0, h0', h34]
  refine XZ_for (fun k : Nat => st68 (.fn (.func 71) [.agg (ints T)] []) n k (cycN (afterC T) k).1 (cycN (afterC T) k).2) (fun k => n - k) (fun k => k ≤ n) 0 (by simp) (.tot [6] (by simp [st68, cycN, fA, fH, fN])) ?_
  intro k hk N Q' hN hE
  obtain ⟨hMl, hol⟩ := cycN_len (afterC T) k
  rcases Nat.lt_or_ge k n with h | h
  · have hkc : (k : Int) < n := by omega
    have hk16 : (k : Int) < 16 := by omega
    have hk16' : k < 16 := by omega
    obtain ⟨-, L, hL⟩ := hs k h
    have hnext := cycN_succ (afterC T) k
    obtain ⟨b, hb⟩ : ∃ b, (cycN (afterC T) k).1[k]? = some b := ⟨(cycN (afterC T) k).1[k], by rw [List.getElem?_eq_getElem]⟩
    have hb' : (cycN (afterC T) k).1.getD k false = b := by simp [List.getD_eq_getElem?_getD, hb]
    unfold cycS at hnext
    rw [hb', hL] at hnext
    generalize hM : (cycN (afterC T) k).1 = M at *
    generalize ho : (cycN (afterC T) k).2 = out at *
    have hbe : M[k] = b := (List.getElem?_eq_some_iff.1 hb).2
    cases b with
    | true =>
      rw [if_pos rfl] at hnext
      have fin : ∀ s', ChgT 0 s' (st68 (.fn (.func 71) [.agg (ints T)] []) n ((k + 1 : Nat)) M out) → N s' := fun s' hh => hN s' (k + 1) (by omega) h (by rw [hnext, hM, ho]; exact hh)
      rcases out with _ | ⟨o, orr⟩
      · simp only [st68, fA, fH, fN]
        delta p68_l1 p68_r4 p68_r5 p68_r6 p68_r7 p68_r8
        simp (disch := omega) [oLt, oLe, oLtN, oLeN, nLt, nLe, nLtN, nLeN, hkc, hk16, hk16', hb, hbe, hMl]
        delta p68_r14
        simp (disch := omega) [oLt, oLe, oLtN, oLeN, nLt, nLe, nLtN, nLeN]
        exact fin _ (.tot [6] (by simp [st68, fA, fH, fN]))
      · simp only [st68, fA, fH, fN]
        delta p68_l1 p68_r4 p68_r5 p68_r6 p68_r7 p68_r8
        simp (disch := omega) [oLt, oLe, oLtN, oLeN, nLt, nLe, nLtN, nLeN, hkc, hk16, hk16', hb, hbe, hMl]
        delta p68_r14
        simp (disch := omega) [oLt, oLe, oLtN, oLeN, nLt, nLe, nLtN, nLeN]
        exact fin _ (.tot [6, 5] (by simp [st68, fA, fH, fN]))
    | false =>
      rw [if_neg (by simp)] at hnext
      simp only [Option.getD_some] at hnext
      have fin : ∀ s', ChgT 0 s' (st68 (.fn (.func 71) [.agg (ints T)] []) n ((k + 1 : Nat)) (setM M L) (out ++ [L])) → N s' := fun s' hh => hN s' (k + 1) (by omega) h (by rw [hnext]; exact hh)
      rcases out with _ | ⟨o, orr⟩
      · simp only [st68, fA, fH, fN]
        delta p68_l1 p68_r4 p68_r5 p68_r6 p68_r7 p68_r8
        simp (disch := omega) [oLt, oLe, oLtN, oLeN, nLt, nLe, nLtN, nLeN, hkc, hk16, hk16', hb, hbe, hMl]
        refine in68_ok (out := []) hT h16 (fun k hk => (hs k hk).1) h (by simp) hMl hL rfl (.tot [6] (by simp [in68, fA, fH, fN, gA, gH, gN])) ?_
        simp only [inBE, thenE, if_true, st68, fA, fH, fN, List.nil_append]
        delta p68_r14
        simp (disch := omega) [oLt, oLe, oLtN, oLeN, nLt, nLe, nLtN, nLeN]
        exact fin _ (.tot [6, 5] (by simp [st68, fA, fH, fN]))
      · simp only [st68, fA, fH, fN]
        delta p68_l1 p68_r4 p68_r5 p68_r6 p68_r7 p68_r8
        simp (disch := omega) [oLt, oLe, oLtN, oLeN, nLt, nLe, nLtN, nLeN, hkc, hk16, hk16', hb, hbe, hMl]
        refine in68_ok (out := o :: orr) hT h16 (fun k hk => (hs k hk).1) h (by simp at hol ⊢; omega) hMl hL rfl (.tot [6, 5] (by simp [in68, fA, fH, fN, gA, gH, gN])) ?_
        simp only [inBE, thenE, if_true, st68, fA, fH, fN, List.cons_append]
        delta p68_r14
        simp (disch := omega) [oLt, oLe, oLtN, oLeN, nLt, nLe, nLtN, nLeN]
        exact fin _ (.tot [6, 5] (by simp [st68, fA, fH, fN]))
  · have hkc : ¬ (k : Int) < n := by omega
    obtain rfl : k = n := by omega
    have hcyc : (cycN (afterC T) k).2 = cyc (afterC T) k := rfl
    generalize (cycN (afterC T) k).1 = M at *
    rw [hcyc]
    clear hcyc
    generalize cyc (afterC T) k = out at *
    rcases out with _ | ⟨o, orr⟩
    · simp only [st68, fA, fH, fN]
      delta p68_l1 p68_r4 p68_r5 p68_r6 p68_r7 p68_r8
      simp (disch := omega) [oLt, oLe, oLtN, oLeN, nLt, nLe, nLtN, nLeN, hkc]
      refine hE _ _ _ .refl ?_
      delta p68_r15
      simp (disch := omega) [oLt, oLe, oLtN, oLeN, nLt, nLe, nLtN, nLeN]
      exact hQ _ _ (.fz [4] _ (.inl rfl) (by simp; rfl) (by simp) (by simp))
    · simp only [st68, fA, fH, fN]
      delta p68_l1 p68_r4 p68_r5 p68_r6 p68_r7 p68_r8
      simp (disch := omega) [oLt, oLe, oLtN, oLeN, nLt, nLe, nLtN, nLeN, hkc]
      refine hE _ _ _ .refl ?_
      delta p68_r15
      simp (disch := omega) [oLt, oLe, oLtN, oLeN, nLt, nLe, nLtN, nLeN]
      exact hQ _ _ (.fz [4] _ (.inl rfl) (by simp; rfl) (by simp) (by simp))
end
section
set_option maxRecDepth 4000
set_option maxHeartbeats 2000000 in
theorem in68_ok84 {T : List Int} {n k : Nat} {out : List (List Int)} {L : List Int} {M' : List Bool} {s0 : ST} {Q : Exit → ST → Prop} (hT : t34 T = true) (hn : n ≤ 16) (hs : ∀ k : Nat, k < n → 0 ≤ alongC T k ∧ alongC T k ≤ n - 1) (hk : k < n) (ho : out.length ≤ 16)
    {M : List Bool} (hM : M.length = 16) (hL : orb (alongC T) k 16 k = some L) (hM' : setM M L = M') (hs0 : ChgT 0 s0 (in68 (.fn (.func 84) [.agg (ints T)] []) n k M out k []))
    (hQ : Q (.exit 1000001) (st68 (.fn (.func 84) [.agg (ints T)] []) n k M' (out ++ [L]))) : XZ (rZ (spc [s84])) 0 (.loop p68_l0) s0 Q := by
  refine XZ_for (fun p : Nat × Int × List Int × List Bool => in68 (.fn (.func 84) [.agg (ints T)] []) n k p.2.2.2 out p.2.1 p.2.2.1) (fun p => p.1)
    (fun p => 0 ≤ p.2.1 ∧ p.2.1 ≤ n - 1 ∧ p.2.2.2.length = 16 ∧ p.2.2.1.length + p.1 ≤ 16 ∧ ∃ r, orb (alongC T) k p.1 p.2.1 = some r ∧ p.2.2.1 ++ r = L ∧ setM p.2.2.2 r = M') (16, k, [], M) ⟨by simp, by simp only; omega, hM, by simp, L, hL, by simp, hM'⟩ hs0 ?_
  rintro ⟨f, e, acc, M1⟩ ⟨h0, h1, h2, h3, r, hr, hacc, hset⟩ N Q' hN hE
  simp only at h0 h1 h2 h3 hr hacc hset ⊢
  cases f with
  | zero => cases hr
  | succ f =>
    obtain ⟨m, rfl⟩ := Int.eq_ofNat_of_zero_le h0
    have hm : m < n := by omega
    have hm16 : m < 16 := by omega
    have hmc : (m : Int) < 16 := by omega
    have hw : within 0 (m : Int) 15 = true := within_iff.2 ⟨by omega, by omega⟩
    have hv := hs m hm
    simp only [orb] at hr
    obtain ⟨v, hve⟩ : ∃ v, alongC T m = v := ⟨_, rfl⟩
    have hve2 := hve
    simp only [alongC] at hve2
    rw [hve] at hr hv
    by_cases hvk : v = k
    · rw [if_pos hvk] at hr
      cases hr
      have hvk' : ¬ v ≠ k := fun h => h hvk
      subst hacc
      rw [setM_cons, Int.toNat_natCast] at hset
      simp only [setM, List.foldl_nil] at hset
      subst hset
      rcases out with _ | ⟨o, orr⟩
      · rcases acc with _ | ⟨a, ar⟩
        · simp only [in68, fA, fH, fN, gA, gH, gN]
          delta p68_l0 p68_r9 p68_r10 p68_r11 p68_r12 p68_r13
          simp (disch := omega) [oLt, oLe, oLtN, oLeN, nLt, nLe, nLtN, nLeN, hm, hm16, hmc, hw, hT, hve2, hvk, h2]
          exact hE _ _ _ (.frz 7 (by simp; rfl) (by simp) (.tot [6, 5] (by simp [st68, fA, fH, fN]))) hQ
        · simp only [List.length_cons] at h3
          simp only [in68, fA, fH, fN, gA, gH, gN]
          delta p68_l0 p68_r9 p68_r10 p68_r11 p68_r12 p68_r13
          simp (disch := omega) [oLt, oLe, oLtN, oLeN, nLt, nLe, nLtN, nLeN, hm, hm16, hmc, hw, hT, hve2, hvk, h2]
          exact hE _ _ _ (.frz 8 (by simp; rfl) (by simp) (.tot [6, 5] (by simp [st68, fA, fH, fN]))) hQ
      · rcases acc with _ | ⟨a, ar⟩
        · simp only [List.length_cons] at ho
          simp only [in68, fA, fH, fN, gA, gH, gN]
          delta p68_l0 p68_r9 p68_r10 p68_r11 p68_r12 p68_r13
          simp (disch := omega) [oLt, oLe, oLtN, oLeN, nLt, nLe, nLtN, nLeN, hm, hm16, hmc, hw, hT, hve2, hvk, h2, ho]
          exact hE _ _ _ (.frz 8 (by simp; rfl) (by simp) (.tot [6, 5] (by simp [st68, fA, fH, fN]))) hQ
        · simp only [List.length_cons] at ho h3
          simp only [in68, fA, fH, fN, gA, gH, gN]
          delta p68_l0 p68_r9 p68_r10 p68_r11 p68_r12 p68_r13
          simp (disch := omega) [oLt, oLe, oLtN, oLeN, nLt, nLe, nLtN, nLeN, hm, hm16, hmc, hw, hT, hve2, hvk, h2, ho]
          exact hE _ _ _ (.frz 9 (by simp; rfl) (by simp) (.tot [6, 5] (by simp [st68, fA, fH, fN]))) hQ
    · rw [if_neg hvk] at hr
      obtain ⟨r', hr', rfl⟩ : ∃ r', orb (alongC T) k f v = some r' ∧ r = (m : Int) :: r' := by
        obtain ⟨r', h, e⟩ := Option.map_eq_some_iff.1 hr; exact ⟨r', h, e.symm⟩
      rw [setM_cons, Int.toNat_natCast] at hset
      have fin : ∀ s', ChgT 0 s' (in68 (.fn (.func 84) [.agg (ints T)] []) n k (M1.set m true) out v (acc ++ [(m : Int)])) → N s' := fun s' hh =>
        hN s' (f, v, acc ++ [(m : Int)], M1.set m true) (Nat.lt_succ_self f) ⟨hv.1, hv.2, by simp [h2], by simp; omega, r', hr', by simp [hacc], hset⟩ hh
      clear hN
      rcases out with _ | ⟨o, orr⟩
      · rcases acc with _ | ⟨a, ar⟩
        · simp only [in68, fA, fH, fN, gA, gH, gN]
          delta p68_l0 p68_r9 p68_r10 p68_r11 p68_r12 p68_r13
          simp (disch := omega) [oLt, oLe, oLtN, oLeN, nLt, nLe, nLtN, nLeN, hm, hm16, hmc, hw, hT, hve2, hvk, h2]
          exact fin _ (.tot [6, 8] (by simp [in68, fA, fH, fN, gA, gH, gN]))
        · simp only [List.length_cons] at h3
          simp only [in68, fA, fH, fN, gA, gH, gN]
          delta p68_l0 p68_r9 p68_r10 p68_r11 p68_r12 p68_r13
          simp (disch := omega) [oLt, oLe, oLtN, oLeN, nLt, nLe, nLtN, nLeN, hm, hm16, hmc, hw, hT, hve2, hvk, h2]
          exact fin _ (.tot [6, 8] (by simp [in68, fA, fH, fN, gA, gH, gN]))
      · simp only [List.length_cons] at ho
        rcases acc with _ | ⟨a, ar⟩
        · simp only [in68, fA, fH, fN, gA, gH, gN]
          delta p68_l0 p68_r9 p68_r10 p68_r11 p68_r12 p68_r13
          simp (disch := omega) [oLt, oLe, oLtN, oLeN, nLt, nLe, nLtN, nLeN, hm, hm16, hmc, hw, hT, hve2, hvk, h2]
          exact fin _ (.tot [6, 5, 8] (by simp [in68, fA, fH, fN, gA, gH, gN]))
        · simp only [List.length_cons] at h3
          simp only [in68, fA, fH, fN, gA, gH, gN]
          delta p68_l0 p68_r9 p68_r10 p68_r11 p68_r12 p68_r13
          simp (disch := omega) [oLt, oLe, oLtN, oLeN, nLt, nLe, nLtN, nLeN, hm, hm16, hmc, hw, hT, hve2, hvk, h2]
          exact fin _ (.tot [6, 5, 8] (by simp [in68, fA, fH, fN, gA, gH, gN]))
set_option maxHeartbeats 2000000 in
theorem cyc84_runs {C T : List Int} {n : Nat} (hC : t34 C = true) (hT : t34 T = true) (hn : C.getD 0 0 = n) (hg : okS (alongC T) n = true) :
    Runs Tryd.prog 68 0 [.agg (ints C), .fn (.func 84) [.agg (ints T)] []] (hpF []) (.il (lls (cyc (alongC T) n)) (cyc (alongC T) n).length false) 0 (hpF []) := by
  obtain ⟨h16, hs⟩ := okS_iff.1 hg
  have h34 : C.length = 34 := by simpa [t34] using hC
  have h0 : C[0]? = some (n : Int) := by
    rw [List.getElem?_eq_getElem (by omega)]
    simpa [List.getD_eq_getElem?_getD, h34] using hn
  have h0' : C[0] = (n : Int) := (List.getElem?_eq_some_iff.1 h0).2
  refine P68.rz (ss := [s84]) ⟨s84_ok, trivial⟩ (by simp) fun Q hQ => ?_
  delta p68 p68_r0 p68_r1 p68_r2 p68_r3
  simp (disch := omega) [oLt, oLe, oLtN, oLeN, nLt, nLe, nLtN, nLeN, h0, h0', h34]
  refine XZ_for (fun k : Nat => st68 (.fn (.func 84) [.agg (ints T)] []) n k (cycN (alongC T) k).1 (cycN (alongC T) k).2) (fun k => n - k) (fun k => k ≤ n) 0 (by simp) (.tot [6] (by simp [st68, cycN, fA, fH, fN])) ?_
  intro k hk N Q' hN hE
  obtain ⟨hMl, hol⟩ := cycN_len (alongC T) k
  rcases Nat.lt_or_ge k n with h | h
  · have hkc : (k : Int) < n := by omega
    have hk16 : (k : Int) < 16 := by omega
    have hk16' : k < 16 := by omega
    obtain ⟨-, L, hL⟩ := hs k h
    have hnext := cycN_succ (alongC T) k
    obtain ⟨b, hb⟩ : ∃ b, (cycN (alongC T) k).1[k]? = some b := ⟨(cycN (alongC T) k).1[k], by rw [List.getElem?_eq_getElem]⟩
    have hb' : (cycN (alongC T) k).1.getD k false = b := by simp [List.getD_eq_getElem?_getD, hb]
    unfold cycS at hnext
    rw [hb', hL] at hnext
    generalize hM : (cycN (alongC T) k).1 = M at *
    generalize ho : (cycN (alongC T) k).2 = out at *
    have hbe : M[k] = b := (List.getElem?_eq_some_iff.1 hb).2
    cases b with
    | true =>
      rw [if_pos rfl] at hnext
      have fin : ∀ s', ChgT 0 s' (st68 (.fn (.func 84) [.agg (ints T)] []) n ((k + 1 : Nat)) M out) → N s' := fun s' hh => hN s' (k + 1) (by omega) h (by rw [hnext, hM, ho]; exact hh)
      rcases out with _ | ⟨o, orr⟩
      · simp only [st68, fA, fH, fN]
        delta p68_l1 p68_r4 p68_r5 p68_r6 p68_r7 p68_r8
        simp (disch := omega) [oLt, oLe, oLtN, oLeN, nLt, nLe, nLtN, nLeN, hkc, hk16, hk16', hb, hbe, hMl]
        delta p68_r14
        simp (disch := omega) [oLt, oLe, oLtN, oLeN, nLt, nLe, nLtN, nLeN]
        exact fin _ (.tot [6] (by simp [st68, fA, fH, fN]))
      · simp only [st68, fA, fH, fN]
        delta p68_l1 p68_r4 p68_r5 p68_r6 p68_r7 p68_r8
        simp (disch := omega) [oLt, oLe, oLtN, oLeN, nLt, nLe, nLtN, nLeN, hkc, hk16, hk16', hb, hbe, hMl]
        delta p68_r14
        simp (disch := omega) [oLt, oLe, oLtN, oLeN, nLt, nLe, nLtN, nLeN]
        exact fin _ (.tot [6, 5] (by simp [st68, fA, fH, fN]))
    | false =>
      rw [if_neg (by simp)] at hnext
      simp only [Option.getD_some] at hnext
      have fin : ∀ s', ChgT 0 s' (st68 (.fn (.func 84) [.agg (ints T)] []) n ((k + 1 : Nat)) (setM M L) (out ++ [L])) → N s' := fun s' hh => hN s' (k + 1) (by omega) h (by rw [hnext]; exact hh)
      rcases out with _ | ⟨o, orr⟩
      · simp only [st68, fA, fH, fN]
        delta p68_l1 p68_r4 p68_r5 p68_r6 p68_r7 p68_r8
        simp (disch := omega) [oLt, oLe, oLtN, oLeN, nLt, nLe, nLtN, nLeN, hkc, hk16, hk16', hb, hbe, hMl]
        refine in68_ok84 (out := []) hT h16 (fun k hk => (hs k hk).1) h (by simp) hMl hL rfl (.tot [6] (by simp [in68, fA, fH, fN, gA, gH, gN])) ?_
        simp only [inBE, thenE, if_true, st68, fA, fH, fN, List.nil_append]
        delta p68_r14
        simp (disch := omega) [oLt, oLe, oLtN, oLeN, nLt, nLe, nLtN, nLeN]
        exact fin _ (.tot [6, 5] (by simp [st68, fA, fH, fN]))
      · simp only [st68, fA, fH, fN]
        delta p68_l1 p68_r4 p68_r5 p68_r6 p68_r7 p68_r8
        simp (disch := omega) [oLt, oLe, oLtN, oLeN, nLt, nLe, nLtN, nLeN, hkc, hk16, hk16', hb, hbe, hMl]
        refine in68_ok84 (out := o :: orr) hT h16 (fun k hk => (hs k hk).1) h (by simp at hol ⊢; omega) hMl hL rfl (.tot [6, 5] (by simp [in68, fA, fH, fN, gA, gH, gN])) ?_
        simp only [inBE, thenE, if_true, st68, fA, fH, fN, List.cons_append]
        delta p68_r14
        simp (disch := omega) [oLt, oLe, oLtN, oLeN, nLt, nLe, nLtN, nLeN]
        exact fin _ (.tot [6, 5] (by simp [st68, fA, fH, fN]))
  · have hkc : ¬ (k : Int) < n := by omega
    obtain rfl : k = n := by omega
    have hcyc : (cycN (alongC T) k).2 = cyc (alongC T) k := rfl
    generalize (cycN (alongC T) k).1 = M at *
    rw [hcyc]
    clear hcyc
    generalize cyc (alongC T) k = out at *
    rcases out with _ | ⟨o, orr⟩
    · simp only [st68, fA, fH, fN]
      delta p68_l1 p68_r4 p68_r5 p68_r6 p68_r7 p68_r8
      simp (disch := omega) [oLt, oLe, oLtN, oLeN, nLt, nLe, nLtN, nLeN, hkc]
      refine hE _ _ _ .refl ?_
      delta p68_r15
      simp (disch := omega) [oLt, oLe, oLtN, oLeN, nLt, nLe, nLtN, nLeN]
      exact hQ _ _ (.fz [4] _ (.inl rfl) (by simp; rfl) (by simp) (by simp))
    · simp only [st68, fA, fH, fN]
      delta p68_l1 p68_r4 p68_r5 p68_r6 p68_r7 p68_r8
      simp (disch := omega) [oLt, oLe, oLtN, oLeN, nLt, nLe, nLtN, nLeN, hkc]
      refine hE _ _ _ .refl ?_
      delta p68_r15
      simp (disch := omega) [oLt, oLe, oLtN, oLeN, nLt, nLe, nLtN, nLeN]
      exact hQ _ _ (.fz [4] _ (.inl rfl) (by simp; rfl) (by simp) (by simp))
end
section
set_option maxRecDepth 4000
set_option maxHeartbeats 2000000 in
theorem in68_ok69 {T : List Int} {n k : Nat} {out : List (List Int)} {L : List Int} {M' : List Bool} {s0 : ST} {Q : Exit → ST → Prop} (hT : T.length = 16) (hn : n ≤ 16) (hs : ∀ k : Nat, k < n → 0 ≤ backC T k ∧ backC T k ≤ n - 1) (hk : k < n) (ho : out.length ≤ 16)
    {M : List Bool} (hM : M.length = 16) (hL : orb (backC T) k 16 k = some L) (hM' : setM M L = M') (hs0 : ChgT 0 s0 (in68 (.fn (.func 69) [] [.elt (ints T) 0]) n k M out k []))
    (hQ : Q (.exit 1000001) (st68 (.fn (.func 69) [] [.elt (ints T) 0]) n k M' (out ++ [L]))) : XZ (rZ (spc [s69])) 0 (.loop p68_l0) s0 Q := by
  refine XZ_for (fun p : Nat × Int × List Int × List Bool => in68 (.fn (.func 69) [] [.elt (ints T) 0]) n k p.2.2.2 out p.2.1 p.2.2.1) (fun p => p.1)
    (fun p => 0 ≤ p.2.1 ∧ p.2.1 ≤ n - 1 ∧ p.2.2.2.length = 16 ∧ p.2.2.1.length + p.1 ≤ 16 ∧ ∃ r, orb (backC T) k p.1 p.2.1 = some r ∧ p.2.2.1 ++ r = L ∧ setM p.2.2.2 r = M') (16, k, [], M) ⟨by simp, by simp only; omega, hM, by simp, L, hL, by simp, hM'⟩ hs0 ?_
  rintro ⟨f, e, acc, M1⟩ ⟨h0, h1, h2, h3, r, hr, hacc, hset⟩ N Q' hN hE
  simp only at h0 h1 h2 h3 hr hacc hset ⊢
  cases f with
  | zero => cases hr
  | succ f =>
    obtain ⟨m, rfl⟩ := Int.eq_ofNat_of_zero_le h0
    have hm : m < n := by omega
    have hm16 : m < 16 := by omega
    have hmc : (m : Int) < 16 := by omega
    have hw : within 0 (m : Int) 15 = true := within_iff.2 ⟨by omega, by omega⟩
    have hv := hs m hm
    simp only [orb] at hr
    obtain ⟨v, hve⟩ : ∃ v, backC T m = v := ⟨_, rfl⟩
    have hve2 : T[m]? = some v := by rw [← hve]; simp [backC, List.getD_eq_getElem?_getD, hT, hm16]
    have hve3 : T[m] = v := (List.getElem?_eq_some_iff.1 hve2).2
    rw [hve] at hr hv
    by_cases hvk : v = k
    · rw [if_pos hvk] at hr
      cases hr
      have hvk' : ¬ v ≠ k := fun h => h hvk
      subst hacc
      rw [setM_cons, Int.toNat_natCast] at hset
      simp only [setM, List.foldl_nil] at hset
      subst hset
      rcases out with _ | ⟨o, orr⟩
      · rcases acc with _ | ⟨a, ar⟩
        · simp only [in68, fA, fH, fN, gA, gH, gN]
          delta p68_l0 p68_r9 p68_r10 p68_r11 p68_r12 p68_r13
          simp (disch := omega) [oLt, oLe, oLtN, oLeN, nLt, nLe, nLtN, nLeN, hm, hm16, hmc, hw, hT, hve2, hve3, hvk, h2]
          exact hE _ _ _ (.frz 7 (by simp; rfl) (by simp) (.tot [6, 5] (by simp [st68, fA, fH, fN]))) hQ
        · simp only [List.length_cons] at h3
          simp only [in68, fA, fH, fN, gA, gH, gN]
          delta p68_l0 p68_r9 p68_r10 p68_r11 p68_r12 p68_r13
          simp (disch := omega) [oLt, oLe, oLtN, oLeN, nLt, nLe, nLtN, nLeN, hm, hm16, hmc, hw, hT, hve2, hve3, hvk, h2]
          exact hE _ _ _ (.frz 8 (by simp; rfl) (by simp) (.tot [6, 5] (by simp [st68, fA, fH, fN]))) hQ
      · rcases acc with _ | ⟨a, ar⟩
        · simp only [List.length_cons] at ho
          simp only [in68, fA, fH, fN, gA, gH, gN]
          delta p68_l0 p68_r9 p68_r10 p68_r11 p68_r12 p68_r13
          simp (disch := omega) [oLt, oLe, oLtN, oLeN, nLt, nLe, nLtN, nLeN, hm, hm16, hmc, hw, hT, hve2, hve3, hvk, h2, ho]
          exact hE _ _ _ (.frz 8 (by simp; rfl) (by simp) (.tot [6, 5] (by simp [st68, fA, fH, fN]))) hQ
        · simp only [List.length_cons] at ho h3
          simp only [in68, fA, fH, fN, gA, gH, gN]
          delta p68_l0 p68_r9 p68_r10 p68_r11 p68_r12 p68_r13
          simp (disch := omega) [oLt, oLe, oLtN, oLeN, nLt, nLe, nLtN, nLeN, hm, hm16, hmc, hw, hT, hve2, hve3, hvk, h2, ho]
          exact hE _ _ _ (.frz 9 (by simp; rfl) (by simp) (.tot [6, 5] (by simp [st68, fA, fH, fN]))) hQ
    · rw [if_neg hvk] at hr
      obtain ⟨r', hr', rfl⟩ : ∃ r', orb (backC T) k f v = some r' ∧ r = (m : Int) :: r' := by
        obtain ⟨r', h, e⟩ := Option.map_eq_some_iff.1 hr; exact ⟨r', h, e.symm⟩
      rw [setM_cons, Int.toNat_natCast] at hset
      have fin : ∀ s', ChgT 0 s' (in68 (.fn (.func 69) [] [.elt (ints T) 0]) n k (M1.set m true) out v (acc ++ [(m : Int)])) → N s' := fun s' hh =>
        hN s' (f, v, acc ++ [(m : Int)], M1.set m true) (Nat.lt_succ_self f) ⟨hv.1, hv.2, by simp [h2], by simp; omega, r', hr', by simp [hacc], hset⟩ hh
      clear hN
      rcases out with _ | ⟨o, orr⟩
      · rcases acc with _ | ⟨a, ar⟩
        · simp only [in68, fA, fH, fN, gA, gH, gN]
          delta p68_l0 p68_r9 p68_r10 p68_r11 p68_r12 p68_r13
          simp (disch := omega) [oLt, oLe, oLtN, oLeN, nLt, nLe, nLtN, nLeN, hm, hm16, hmc, hw, hT, hve2, hve3, hvk, h2]
          exact fin _ (.tot [6, 8] (by simp [in68, fA, fH, fN, gA, gH, gN]))
        · simp only [List.length_cons] at h3
          simp only [in68, fA, fH, fN, gA, gH, gN]
          delta p68_l0 p68_r9 p68_r10 p68_r11 p68_r12 p68_r13
          simp (disch := omega) [oLt, oLe, oLtN, oLeN, nLt, nLe, nLtN, nLeN, hm, hm16, hmc, hw, hT, hve2, hve3, hvk, h2]
          exact fin _ (.tot [6, 8] (by simp [in68, fA, fH, fN, gA, gH, gN]))
      · simp only [List.length_cons] at ho
        rcases acc with _ | ⟨a, ar⟩
        · simp only [in68, fA, fH, fN, gA, gH, gN]
          delta p68_l0 p68_r9 p68_r10 p68_r11 p68_r12 p68_r13
          simp (disch := omega) [oLt, oLe, oLtN, oLeN, nLt, nLe, nLtN, nLeN, hm, hm16, hmc, hw, hT, hve2, hve3, hvk, h2]
          exact fin _ (.tot [6, 5, 8] (by simp [in68, fA, fH, fN, gA, gH, gN]))
        · simp only [List.length_cons] at h3
          simp only [in68, fA, fH, fN, gA, gH, gN]
          delta p68_l0 p68_r9 p68_r10 p68_r11 p68_r12 p68_r13
          simp (disch := omega) [oLt, oLe, oLtN, oLeN, nLt, nLe, nLtN, nLeN, hm, hm16, hmc, hw, hT, hve2, hve3, hvk, h2]
          exact fin _ (.tot [6, 5, 8] (by simp [in68, fA, fH, fN, gA, gH, gN]))
set_option maxHeartbeats 2000000 in
theorem cyc69_runs {C T : List Int} {n : Nat} (hC : t34 C = true) (hT : T.length = 16) (hn : C.getD 0 0 = n) (hg : okS (backC T) n = true) :
    Runs Tryd.prog 68 0 [.agg (ints C), .fn (.func 69) [] [.elt (ints T) 0]] (hpF []) (.il (lls (cyc (backC T) n)) (cyc (backC T) n).length false) 0 (hpF []) := by
  obtain ⟨h16, hs⟩ := okS_iff.1 hg
  have h34 : C.length = 34 := by simpa [t34] using hC
  have h0 : C[0]? = some (n : Int) := by
    rw [List.getElem?_eq_getElem (by omega)]
    simpa [List.getD_eq_getElem?_getD, h34] using hn
  have h0' : C[0] = (n : Int) := (List.getElem?_eq_some_iff.1 h0).2
  refine P68.rz (ss := [s69]) ⟨s69_ok, trivial⟩ (by simp) fun Q hQ => ?_
  delta p68 p68_r0 p68_r1 p68_r2 p68_r3
  simp (disch := omega) [oLt, oLe, oLtN, oLeN, nLt, nLe, nLtN, nLeN, h0, h0', h34]
  refine XZ_for (fun k : Nat => st68 (.fn (.func 69) [] [.elt (ints T) 0]) n k (cycN (backC T) k).1 (cycN (backC T) k).2) (fun k => n - k) (fun k => k ≤ n) 0 (by simp) (.tot [6] (by simp [st68, cycN, fA, fH, fN])) ?_
  intro k hk N Q' hN hE
  obtain ⟨hMl, hol⟩ := cycN_len (backC T) k
  rcases Nat.lt_or_ge k n with h | h
  · have hkc : (k : Int) < n := by omega
    have hk16 : (k : Int) < 16 := by omega
    have hk16' : k < 16 := by omega
    obtain ⟨-, L, hL⟩ := hs k h
    have hnext := cycN_succ (backC T) k
    obtain ⟨b, hb⟩ : ∃ b, (cycN (backC T) k).1[k]? = some b := ⟨(cycN (backC T) k).1[k], by rw [List.getElem?_eq_getElem]⟩
    have hb' : (cycN (backC T) k).1.getD k false = b := by simp [List.getD_eq_getElem?_getD, hb]
    unfold cycS at hnext
    rw [hb', hL] at hnext
    generalize hM : (cycN (backC T) k).1 = M at *
    generalize ho : (cycN (backC T) k).2 = out at *
    have hbe : M[k] = b := (List.getElem?_eq_some_iff.1 hb).2
    cases b with
    | true =>
      rw [if_pos rfl] at hnext
      have fin : ∀ s', ChgT 0 s' (st68 (.fn (.func 69) [] [.elt (ints T) 0]) n ((k + 1 : Nat)) M out) → N s' := fun s' hh => hN s' (k + 1) (by omega) h (by rw [hnext, hM, ho]; exact hh)
      rcases out with _ | ⟨o, orr⟩
      · simp only [st68, fA, fH, fN]
        delta p68_l1 p68_r4 p68_r5 p68_r6 p68_r7 p68_r8
        simp (disch := omega) [oLt, oLe, oLtN, oLeN, nLt, nLe, nLtN, nLeN, hkc, hk16, hk16', hb, hbe, hMl]
        delta p68_r14
        simp (disch := omega) [oLt, oLe, oLtN, oLeN, nLt, nLe, nLtN, nLeN]
        exact fin _ (.tot [6] (by simp [st68, fA, fH, fN]))
      · simp only [st68, fA, fH, fN]
        delta p68_l1 p68_r4 p68_r5 p68_r6 p68_r7 p68_r8
        simp (disch := omega) [oLt, oLe, oLtN, oLeN, nLt, nLe, nLtN, nLeN, hkc, hk16, hk16', hb, hbe, hMl]
        delta p68_r14
        simp (disch := omega) [oLt, oLe, oLtN, oLeN, nLt, nLe, nLtN, nLeN]
        exact fin _ (.tot [6, 5] (by simp [st68, fA, fH, fN]))
    | false =>
      rw [if_neg (by simp)] at hnext
      simp only [Option.getD_some] at hnext
      have fin : ∀ s', ChgT 0 s' (st68 (.fn (.func 69) [] [.elt (ints T) 0]) n ((k + 1 : Nat)) (setM M L) (out ++ [L])) → N s' := fun s' hh => hN s' (k + 1) (by omega) h (by rw [hnext]; exact hh)
      rcases out with _ | ⟨o, orr⟩
      · simp only [st68, fA, fH, fN]
        delta p68_l1 p68_r4 p68_r5 p68_r6 p68_r7 p68_r8
        simp (disch := omega) [oLt, oLe, oLtN, oLeN, nLt, nLe, nLtN, nLeN, hkc, hk16, hk16', hb, hbe, hMl]
        refine in68_ok69 (out := []) hT h16 (fun k hk => (hs k hk).1) h (by simp) hMl hL rfl (.tot [6] (by simp [in68, fA, fH, fN, gA, gH, gN])) ?_
        simp only [inBE, thenE, if_true, st68, fA, fH, fN, List.nil_append]
        delta p68_r14
        simp (disch := omega) [oLt, oLe, oLtN, oLeN, nLt, nLe, nLtN, nLeN]
        exact fin _ (.tot [6, 5] (by simp [st68, fA, fH, fN]))
      · simp only [st68, fA, fH, fN]
        delta p68_l1 p68_r4 p68_r5 p68_r6 p68_r7 p68_r8
        simp (disch := omega) [oLt, oLe, oLtN, oLeN, nLt, nLe, nLtN, nLeN, hkc, hk16, hk16', hb, hbe, hMl]
        refine in68_ok69 (out := o :: orr) hT h16 (fun k hk => (hs k hk).1) h (by simp at hol ⊢; omega) hMl hL rfl (.tot [6, 5] (by simp [in68, fA, fH, fN, gA, gH, gN])) ?_
        simp only [inBE, thenE, if_true, st68, fA, fH, fN, List.cons_append]
        delta p68_r14
        simp (disch := omega) [oLt, oLe, oLtN, oLeN, nLt, nLe, nLtN, nLeN]
        exact fin _ (.tot [6, 5] (by simp [st68, fA, fH, fN]))
  · have hkc : ¬ (k : Int) < n := by omega
    obtain rfl : k = n := by omega
    have hcyc : (cycN (backC T) k).2 = cyc (backC T) k := rfl
    generalize (cycN (backC T) k).1 = M at *
    rw [hcyc]
    clear hcyc
    generalize cyc (backC T) k = out at *
    rcases out with _ | ⟨o, orr⟩
    · simp only [st68, fA, fH, fN]
      delta p68_l1 p68_r4 p68_r5 p68_r6 p68_r7 p68_r8
      simp (disch := omega) [oLt, oLe, oLtN, oLeN, nLt, nLe, nLtN, nLeN, hkc]
      refine hE _ _ _ .refl ?_
      delta p68_r15
      simp (disch := omega) [oLt, oLe, oLtN, oLeN, nLt, nLe, nLtN, nLeN]
      exact hQ _ _ (.fz [4] _ (.inl rfl) (by simp; rfl) (by simp) (by simp))
    · simp only [st68, fA, fH, fN]
      delta p68_l1 p68_r4 p68_r5 p68_r6 p68_r7 p68_r8
      simp (disch := omega) [oLt, oLe, oLtN, oLeN, nLt, nLe, nLtN, nLeN, hkc]
      refine hE _ _ _ .refl ?_
      delta p68_r15
      simp (disch := omega) [oLt, oLe, oLtN, oLeN, nLt, nLe, nLtN, nLeN]
      exact hQ _ _ (.fz [4] _ (.inl rfl) (by simp; rfl) (by simp) (by simp))
end
section
def stepOf : AV → Option (Int → Int)
  | .fn (.func g) [.agg c] [] => match unints c with
    | some T => if t34 T then (if g = 71 then some (afterC T) else if g = 84 then some (alongC T) else none) else none
    | none => none
  | .fn (.func g) [] [.elt c 0] => match unints c with
    | some T => if T.length = 16 then (if g = 69 then some (backC T) else none) else none
    | none => none
  | _ => none
@[simp] theorem stepOf_71 (T : List Int) : stepOf (.fn (.func 71) [.agg (ints T)] []) = if t34 T then some (afterC T) else none := by simp [stepOf]
@[simp] theorem stepOf_84 (T : List Int) : stepOf (.fn (.func 84) [.agg (ints T)] []) = if t34 T then some (alongC T) else none := by simp [stepOf]
@[simp] theorem stepOf_69 (T : List Int) : stepOf (.fn (.func 69) [] [.elt (ints T) 0]) = if T.length = 16 then some (backC T) else none := by simp [stepOf]
theorem stepOf_inv {f : AV} {σ : Int → Int} (h : stepOf f = some σ) : (∃ T, t34 T = true ∧ f = .fn (.func 71) [.agg (ints T)] [] ∧ σ = afterC T) ∨ (∃ T, t34 T = true ∧ f = .fn (.func 84) [.agg (ints T)] [] ∧ σ = alongC T) ∨
    ∃ T : List Int, T.length = 16 ∧ f = .fn (.func 69) [] [.elt (ints T) 0] ∧ σ = backC T := by
  unfold stepOf at h
  split at h
  · split at h
    · rename_i T hT
      split at h
      · rename_i ht
        split at h
        · rename_i hg; cases h; exact .inl ⟨T, ht, by rw [hg, unints_inv hT], rfl⟩
        · split at h
          · rename_i hg; cases h; exact .inr (.inl ⟨T, ht, by rw [hg, unints_inv hT], rfl⟩)
          · cases h
      · cases h
    · cases h
  · split at h
    · rename_i T hT
      split at h
      · rename_i ht
        split at h
        · rename_i hg; cases h; exact .inr (.inr ⟨T, ht, by rw [hg, unints_inv hT], rfl⟩)
        · cases h
      · cases h
    · cases h
  · cases h
def cycF (C : List Int) (f : AV) : Out3 := match stepOf f with
  | some σ => res (t34 C && decide (0 ≤ endsC C) && okS σ (endsC C).toNat) (.il (lls (cyc σ (endsC C).toNat)) (cyc σ (endsC C).toNat).length false)
  | none => none
def s68 : Sp := spT 68 [.tb, .av] cycF
@[simp] theorem s68_g : s68.g = 68 := rfl
@[simp] theorem s68_f : s68.f = (spT 68 [.tb, .av] cycF).f := rfl
theorem s68_ok : s68.ok Tryd.prog := by
  apply spT_ok
  simp only [OkT, Ty.all, List.nil_append, List.cons_append]
  intro (C : List Int) (f : AV) r h' k' hh
  unfold cycF at hh
  split at hh
  · rename_i σ hs
    obtain ⟨hg, rfl, rfl, rfl⟩ := res_inv hh
    simp only [Bool.and_eq_true, decide_eq_true_eq] at hg
    obtain ⟨⟨h34, h0⟩, hok⟩ := hg
    have hn : C.getD 0 0 = ((endsC C).toNat : Int) := by show endsC C = _; omega
    rcases stepOf_inv hs with ⟨T, hT, rfl, rfl⟩ | ⟨T, hT, rfl, rfl⟩ | ⟨T, hT, rfl, rfl⟩
    · simpa only [hp_eq] using cyc71_runs h34 hT hn hok
    · simpa only [hp_eq] using cyc84_runs h34 hT hn hok
    · simpa only [hp_eq] using cyc69_runs h34 hT hn hok
  · cases hh
end
section
set_option maxRecDepth 4000
theorem tab_ends {L : List (List Int)} (h : chk L = 0) (hs : smM L = true) : (tabF L).length = 34 ∧ endsC (tabF L) = total L := by
  have hg := chk_g70 h hs
  simp only [g70, Bool.and_eq_true] at hg
  obtain ⟨h1, h2, -⟩ := tabF_facts hg.1.1
  exact ⟨h1, h2⟩
def nilA : AV := .agg [.v (.slice none 0 0)]
def faceL (L : List (List Int)) : List (List Int) := if chk L = 0 then cyc (alongC (tabF L)) (total L) else []
def facV (L : List (List Int)) : AV := .tup [.il (lls (faceL L)) (faceL L).length false, vI (chk L)]
def g33 (L : List (List Int)) : Bool := smM L && (decide (¬ chk L = 0) || okS (alongC (tabF L)) (total L))
set_option maxHeartbeats 2000000
def s33 : Sp := spT 33 [.mp] fun (L : List (List Int)) => res (g33 L) (facV L)
@[simp] theorem s33_g : s33.g = 33 := rfl
@[simp] theorem s33_f : s33.f = (spT 33 [.mp] fun (L : List (List Int)) => res (g33 L) (facV L)).f := rfl
theorem s33_ok : s33.ok Tryd.prog := by
  apply spT_ok
  simp only [OkT, Ty.all, List.nil_append, List.cons_append]
  intro (L : List (List Int)) u
  apply okT_res; intro hg
  refine P33.rz (ss := [s67, s68]) ⟨s67_ok, s68_ok, trivial⟩ (by simp) fun Q hQ => ?_
  delta p33 p33_r0 p33_r1 p33_r2 p33_r3 p33_r4
  simp only [g33, Bool.and_eq_true, Bool.or_eq_true, decide_eq_true_eq] at hg
  obtain ⟨hs, hg⟩ := hg
  by_cases hc : chk L = 0
  · obtain ⟨h34, he⟩ := tab_ends hc hs
    have hok : okS (alongC (tabF L)) (total L) = true := hg.resolve_left (fun h => h hc)
    have hT : t34 (tabF L) = true := by simp [t34, h34]
    have hen : endsC (tabF L) = ((total L : Nat) : Int) := he
    have ht : (tabF L).take 34 = tabF L := List.take_of_length_le (by omega)
    have hv : openV L = .tup [.agg (ints (tabF L)), vI 0] := by unfold openV; rw [hc]; rfl
    have hsp : splice (ints Z34) 0 (ints (tabF L)) = ints (tabF L) := splice_all (by simp [h34, z34_len])
    have hF : cyc (alongC (tabF L)) (total L) = faceL L := by unfold faceL; rw [if_pos hc]
    have hr : facV L = .tup [.il (lls (faceL L)) (faceL L).length false, vI 0] := by unfold facV; rw [hc]
    have hcy : cycF (tabF L) (.fn (.func 84) [.agg (ints (tabF L))] []) = res true (.il (lls (faceL L)) (faceL L).length false) := by
      unfold cycF; simp only [stepOf_84, hT, if_true, hen, Int.toNat_natCast, hok, hF, Bool.and_true, Bool.true_and]
      rw [decide_eq_true (by omega)]
    generalize faceL L = F at *
    generalize tabF L = C at *
    rw [hr] at hQ
    simp (disch := omega) [oLt, oLe, oLtN, oLeN, nLt, nLe, nLtN, nLeN, hs, hv, zl, hsp, h34, z34_len, ht, hcy, effMkfn]
    exact hQ _ _ (.fz [2, 3] _ (.inl rfl) (by simp; rfl) (by simp) (by simp))
  · have hv : openV L = .tup [.agg (ints Z34), vI (chk L)] := by unfold openV; rw [if_neg hc]
    have hr : facV L = .tup [.il [] 0 false, vI (chk L)] := by unfold facV faceL; rw [if_neg hc]; rfl
    rw [hr] at hQ
    generalize chk L = c at *
    simp (disch := omega) [oLt, oLe, oLtN, oLeN, nLt, nLe, nLtN, nLeN, hs, hv, zl, zz, z34_len, hc]
    exact hQ _ _ (.fz [2, 3] _ (.inl rfl) (by simp; rfl) (by simp) (by simp))
end
section
theorem Prm.congr {σ τ : Int → Int} {n : Nat} (h : Prm σ n) (e : ∀ m : Nat, m < n → τ m = σ m) : Prm τ n :=
  ⟨fun k hk => by rw [e k hk]; exact h.rng k hk, fun i j hi hj hh => h.inj i j hi hj (by rw [← e i hi, ← e j hj]; exact hh)⟩
theorem Cov.along {G n} (h : Cov G n) (hn : n % 2 = 0) : Prm (alongC (tabF G)) n := by
  have e : ∀ m : Nat, m < n → alongC (tabF G) m = afterC (tabF G) (onat m : Int) := fun m hm => by
    have := h.le
    unfold alongC; rw [oth_onat m (by omega)]
  refine ⟨fun k hk => ?_, fun i j hi hj hh => ?_⟩
  · rw [e k hk]; exact h.prm.rng _ (onat_lt hn hk)
  · rw [e i hi, e j hj] at hh
    exact onat_inj (h.prm.inj _ _ (onat_lt hn hi) (onat_lt hn hj) hh)
theorem g33_ok {L : List (List Int)} (hs : smM L = true) : g33 L = true := by
  simp only [g33, Bool.and_eq_true, Bool.or_eq_true, decide_eq_true_eq]
  refine ⟨hs, ?_⟩
  by_cases hc : chk L = 0
  · obtain ⟨h16, -, hev⟩ := chk_zero hc
    exact .inr (((chk_cov hc).along hev).ok h16)
  · exact .inl hc
theorem orb_congr {σ τ : Int → Int} {n : Nat} (h : Prm σ n) (e : ∀ m : Nat, m < n → τ m = σ m) {a : Int} : ∀ (f m : Nat), m < n → orb τ a f m = orb σ a f m
  | 0, m, _ => rfl
  | f + 1, m, hm => by
    simp only [orb]
    rw [e m hm]
    obtain ⟨h0, h1⟩ := h.rng m hm
    obtain ⟨q, hq⟩ := Int.eq_ofNat_of_zero_le h0
    rw [hq, orb_congr h e f q (by omega)]
theorem cycN_cong2 {σ τ : Int → Int} {n : Nat} (h : Prm σ n) (e : ∀ m : Nat, m < n → τ m = σ m) : ∀ k, k ≤ n → cycN τ k = cycN σ k
  | 0, _ => rfl
  | k + 1, hk => by
    rw [cycN_succ, cycN_succ, cycN_cong2 h e k (by omega)]
    unfold cycS
    rw [orb_congr h e 16 k (by omega)]
end
section
set_option maxRecDepth 4000
theorem idxR_mem {x : Int} : ∀ {l : List Int} {i : Int}, 0 ≤ i → (0 ≤ idxR x l i ↔ x ∈ l)
  | [], i, h => by simp [idxR]
  | y :: r, i, h => by
    simp only [idxR]
    split
    · rename_i e; simp [e, h]
    · rename_i e
      have e' : ¬ x = y := fun h => e h.symm
      rw [idxR_mem (show 0 ≤ i + 1 by omega)]; simp [e']
theorem idxL_mem {l : List Int} {x : Int} : 0 ≤ idxL l x ↔ x ∈ l := idxR_mem (by decide)
theorem ptR_mem {x : Int} : ∀ {L : List (List Int)} {i : Int}, 0 ≤ i → (0 ≤ ptR x L i ↔ x ∈ L.flatten)
  | [], i, h => by simp [ptR]
  | l :: L, i, h => by
    simp only [ptR, List.flatten_cons, List.mem_append]
    split
    · rename_i e; simp [h, idxL_mem.1 e]
    · rename_i e
      rw [ptR_mem (show 0 ≤ i + 1 by omega)]
      have : ¬ x ∈ l := fun h => e (idxL_mem.2 h)
      simp [this]
end
section
set_option maxRecDepth 4000
def bstI (l : List Int) (b i : Nat) : Nat := if l.getD i 0 < l.getD b 0 then i else b
def bstN (l : List Int) (n : Nat) : Nat := (List.range n).foldl (bstI l) 0
theorem bstN_succ (l : List Int) (n : Nat) : bstN l (n + 1) = bstI l (bstN l n) n := by simp [bstN, List.range_succ, List.foldl_append]
theorem bstN_lt (l : List Int) (n : Nat) : bstN l (n + 1) ≤ n := by
  induction n with
  | zero => rw [bstN_succ]; unfold bstI; split <;> simp [bstN]
  | succ n ih => rw [bstN_succ]; unfold bstI; split <;> omega
def leastF (l : List Int) : List Int := l.drop (bstN l l.length) ++ l.take (bstN l l.length)
set_option maxHeartbeats 2000000
end
section
set_option maxRecDepth 4000
theorem bstN_le (l : List Int) : bstN l l.length ≤ l.length := by
  cases h : l.length with
  | zero => simp [bstN]
  | succ m => have := bstN_lt l m; omega
theorem leastF_len (l : List Int) : (leastF l).length = l.length := by
  have := bstN_le l
  simp [leastF]; omega
def tidI (e : Nat) (acc : List (List Int)) (l : List Int) : List (List Int) := if ¬ l.length = 0 ∧ (leastF l).getD 0 0 = e then acc ++ [leastF l] else acc
def tidE (G : List (List Int)) (acc : List (List Int)) (e : Nat) : List (List Int) := G.foldl (tidI e) acc
def tidyF (G : List (List Int)) (n : Nat) : List (List Int) := (List.range n).foldl (tidE G) []
theorem tidyF_succ (G : List (List Int)) (n : Nat) : tidyF G (n + 1) = tidE G (tidyF G n) n := by simp [tidyF, List.range_succ, List.foldl_append]
set_option maxHeartbeats 1000000
end
section
set_option maxRecDepth 4000
def facS (σ : Int → Int) (s : List Int × List (List Int)) (k : Nat) : List Int × List (List Int) :=
  if (k : Int) ∈ s.1 then s else (s.1 ++ (orb σ k 16 k).getD [], s.2 ++ [(orb σ k 16 k).getD []])
def facN (σ : Int → Int) (n : Nat) : List Int × List (List Int) := (List.range n).foldl (facS σ) ([], [])
theorem facN_succ (σ : Int → Int) (n : Nat) : facN σ (n + 1) = facS σ (facN σ n) n := by simp [facN, List.range_succ, List.foldl_append]
set_option maxHeartbeats 1000000
end
section
theorem Cov.ptL {G n} (h : Cov G n) {m : Nat} (hm : m < n) : 0 ≤ Go.Sx.Ch.ptL G m := (ptR_mem (by decide)).2 (h.cover hm)
theorem Cov.look {G n} (h : Cov G n) {m : Nat} (hm : m < n) : afterR G m = afterC (tabF G) m := by
  obtain ⟨k, l, h1, h2, h3⟩ := ptL_at (h.ptL hm)
  obtain ⟨j, j1, j2, j3⟩ := idxL_at h3
  have hl := List.mem_of_getElem? h1
  have e : G.getD (Go.Sx.Ch.ptL G m).toNat [] = l := by rw [h2, Int.toNat_natCast, List.getD_eq_getElem?_getD, h1]; rfl
  have hmod : (((j : Int) + 1) % (l.length : Int)).toNat = (j + 1) % l.length := by
    have : ((j : Int) + 1) % (l.length : Int) = (((j + 1) % l.length : Nat) : Int) := by rw [Int.natCast_emod]; rfl
    rw [this, Int.toNat_natCast]
  rw [h.after hl j1 j3]
  unfold afterR
  rw [e, j2, hmod]
end
section
theorem orb_in {σ : Int → Int} {n : Nat} (h : Prm σ n) {a : Int} : ∀ {f m : Nat} {l : List Int}, m < n → orb σ a f m = some l → ∀ x ∈ l, 0 ≤ x ∧ x < n
  | 0, m, l, _, hl => by cases hl
  | f + 1, m, l, hm, hl => by
    simp only [orb] at hl
    split at hl
    · cases hl
      intro x hx
      simp at hx; omega
    · obtain ⟨r, hr, rfl⟩ := Option.map_eq_some_iff.1 hl
      obtain ⟨h0, h1⟩ := h.rng m hm
      obtain ⟨q, hq⟩ := Int.eq_ofNat_of_zero_le h0
      rw [hq] at hr
      intro x hx
      rcases List.mem_cons.1 hx with rfl | hx
      · omega
      · exact orb_in h (by omega) hr x hx
theorem setM_get {m : Nat} : ∀ {l : List Int} {M : List Bool} {b : Bool}, (∀ x ∈ l, 0 ≤ x) → M[m]? = some b → (setM M l)[m]? = some (b || decide ((m : Int) ∈ l))
  | [], M, b, _, h => by simpa [setM] using h
  | x :: l, M, b, hx, h => by
    rw [setM_cons]
    have hm := (List.getElem?_eq_some_iff.1 h).1
    have h0 := hx x List.mem_cons_self
    have h1 : (M.set x.toNat true)[m]? = some (b || decide ((m : Int) = x)) := by
      rw [List.getElem?_set]
      by_cases e : x.toNat = m
      · have : (m : Int) = x := by omega
        simp [e, hm, this]
      · have : ¬ (m : Int) = x := by omega
        rw [if_neg e, h]; simp [this]
    rw [setM_get (fun y hy => hx y (List.mem_cons_of_mem _ hy)) h1]
    simp [Bool.or_assoc]
theorem cyc_fac {σ : Int → Int} {n : Nat} (h : Prm σ n) (hn : n ≤ 16) : ∀ k, k ≤ n → (cycN σ k).2 = (facN σ k).2 ∧ ∀ m : Nat, m < 16 → (cycN σ k).1[m]? = some (decide ((m : Int) ∈ (facN σ k).1))
  | 0, _ => ⟨rfl, fun m hm => by rw [show (cycN σ 0).1 = List.replicate 16 false from rfl, List.getElem?_replicate, if_pos hm]; simp [facN]⟩
  | k + 1, hk => by
    obtain ⟨h1, h2⟩ := cyc_fac h hn k (by omega)
    rw [cycN_succ, facN_succ]
    have hb : (cycN σ k).1.getD k false = decide ((k : Int) ∈ (facN σ k).1) := by rw [List.getD_eq_getElem?_getD, h2 k (by omega)]; rfl
    unfold cycS facS
    rw [hb]
    by_cases hmem : (k : Int) ∈ (facN σ k).1
    · rw [if_pos (by simp [hmem]), if_pos hmem]; exact ⟨h1, h2⟩
    · rw [if_neg (by simp [hmem]), if_neg hmem]
      obtain ⟨-, l, hl⟩ := (okS_iff.1 (h.ok hn)).2 k (by omega)
      rw [hl, Option.getD_some]
      refine ⟨by simp only [h1], fun m hm => ?_⟩
      simp only
      rw [setM_get (fun x hx => (orb_in h (by omega) hl x hx).1) (h2 m hm)]
      simp
end
section
theorem leastF_get {l : List Int} {i : Nat} (hi : i < l.length) : (leastF l)[i]? = l[(bstN l l.length + i) % l.length]? := by
  have hb := bstN_le l
  have hb' : bstN l l.length < l.length := by
    obtain ⟨m, hm⟩ : ∃ m, l.length = m + 1 := ⟨l.length - 1, by omega⟩
    have := bstN_lt l m
    rw [hm]; omega
  unfold leastF
  generalize bstN l l.length = b at *
  rcases Nat.lt_or_ge (b + i) l.length with h | h
  · rw [Nat.mod_eq_of_lt h, List.getElem?_append_left (by simp; omega), List.getElem?_drop]
  · rw [Nat.mod_eq_sub_mod h, Nat.mod_eq_of_lt (by omega), List.getElem?_append_right (by simp; omega), List.length_drop, List.getElem?_take, if_pos (by omega)]
    congr 1; omega
theorem orb_list {G : List (List Int)} {n : Nat} (h : Cov G n) {l : List Int} (hl : l ∈ G) {a : Int} (ha : (leastF l)[0]? = some a) : ∀ {f i : Nat} {x : Int}, i < l.length → l.length ≤ i + f → (leastF l)[i]? = some x → orb (afterC (tabF G)) a f x = some ((leastF l).drop i)
  | 0, i, x, hi, hf, _ => by omega
  | f + 1, i, x, hi, hf, hx => by
    have hlen := leastF_len l
    have hlp : 0 < l.length := by omega
    have hx' := hx
    rw [leastF_get hi] at hx'
    have hk : (bstN l l.length + i) % l.length < l.length := Nat.mod_lt _ hlp
    have hmem : x ∈ l := List.mem_of_getElem? hx'
    have hr := h.rng x (List.mem_flatten.2 ⟨l, hl, hmem⟩)
    obtain ⟨m, rfl⟩ := Int.eq_ofNat_of_zero_le hr.1
    have hs := h.after hl hk hx'
    have hnx : ((bstN l l.length + i) % l.length + 1) % l.length = (bstN l l.length + (i + 1)) % l.length := by rw [Nat.mod_add_mod]; rfl
    rw [hnx] at hs
    have hd : (leastF l).drop i = (m : Int) :: (leastF l).drop (i + 1) := by
      have hi' : i < (leastF l).length := by omega
      rw [List.drop_eq_getElem_cons hi', (List.getElem?_eq_some_iff.1 hx).2]
    simp only [orb]
    rcases Nat.lt_or_ge (i + 1) l.length with h1 | h1
    · have hi1 : i + 1 < (leastF l).length := by omega
      have hy : (leastF l)[i + 1]? = some (leastF l)[i + 1] := List.getElem?_eq_getElem hi1
      have hy' := hy
      rw [leastF_get h1] at hy'
      rw [List.getD_eq_getElem?_getD, hy', Option.getD_some] at hs
      have hne : ¬ (leastF l)[i + 1] = a := fun e => by
        have hz := ha
        rw [leastF_get hlp] at hz
        rw [e] at hy'
        have := nd_inj (h.ndl hl) hy' hz
        have hb' : bstN l l.length < l.length := by
          obtain ⟨m, hm⟩ : ∃ m, l.length = m + 1 := ⟨l.length - 1, by omega⟩
          have := bstN_lt l m
          rw [hm]; omega
        have hz0 : (bstN l l.length + 0) % l.length = bstN l l.length := Nat.mod_eq_of_lt hb'
        rw [hz0] at this
        rcases Nat.lt_or_ge (bstN l l.length + (i + 1)) l.length with h2 | h2
        · rw [Nat.mod_eq_of_lt h2] at this; omega
        · rw [Nat.mod_eq_sub_mod h2, Nat.mod_eq_of_lt (by omega)] at this; omega
      rw [hs, if_neg hne, orb_list h hl ha h1 (by omega) hy, hd]
      rfl
    · have e1 : i + 1 = l.length := by omega
      have hz := ha
      rw [leastF_get hlp, Nat.add_zero] at hz
      rw [e1, Nat.add_mod_right, List.getD_eq_getElem?_getD, hz, Option.getD_some] at hs
      rw [hs, if_pos rfl, hd, e1, ← hlen, List.drop_length]
theorem orb_least {G : List (List Int)} {n : Nat} (h : Cov G n) {l : List Int} (hl : l ∈ G) {a : Int} (h0 : 0 < l.length) (h16 : l.length ≤ 16) (ha : (leastF l)[0]? = some a) : orb (afterC (tabF G)) a 16 a = some (leastF l) := by
  have := orb_list h hl ha (f := 16) (i := 0) h0 (by omega) ha
  simpa using this
end
section
theorem bstN_min (l : List Int) : ∀ n i, i < n → l.getD (bstN l n) 0 ≤ l.getD i 0
  | 0, i, h => by omega
  | n + 1, i, h => by
    rw [bstN_succ]; unfold bstI
    rcases Nat.lt_or_ge i n with hi | hi
    · have := bstN_min l n i hi
      split
      · rename_i hlt; omega
      · exact this
    · obtain rfl : i = n := by omega
      split
      · exact Int.le_refl _
      · rename_i hlt; omega
def hd (l : List Int) : Int := (leastF l).getD 0 0
theorem hd_facts {l : List Int} (h0 : 0 < l.length) : (leastF l)[0]? = some (hd l) ∧ hd l ∈ l ∧ ∀ x ∈ l, hd l ≤ x := by
  have hb' : bstN l l.length < l.length := by
    obtain ⟨m, hm⟩ : ∃ m, l.length = m + 1 := ⟨l.length - 1, by omega⟩
    have := bstN_lt l m
    rw [hm]; omega
  have e : (leastF l)[0]? = l[bstN l l.length]? := by rw [leastF_get h0, Nat.add_zero, Nat.mod_eq_of_lt hb']
  have e2 : l[bstN l l.length]? = some l[bstN l l.length] := List.getElem?_eq_getElem hb'
  have e3 : hd l = l[bstN l l.length] := by unfold hd; rw [List.getD_eq_getElem?_getD, e, e2]; rfl
  refine ⟨by rw [e, e2, e3], by rw [e3]; exact List.getElem_mem hb', fun x hx => ?_⟩
  obtain ⟨i, hi, rfl⟩ := List.getElem_of_mem hx
  have := bstN_min l l.length i hi
  rw [List.getD_eq_getElem?_getD, List.getD_eq_getElem?_getD, e2, List.getElem?_eq_getElem hi] at this
  rw [e3]; exact this
theorem tid_none {e : Nat} : ∀ {G acc : List (List Int)}, (∀ l ∈ G, 0 < l.length → hd l ≠ e) → G.foldl (tidI e) acc = acc
  | [], acc, _ => rfl
  | l :: G, acc, h => by
    simp only [List.foldl_cons]
    have : tidI e acc l = acc := by
      unfold tidI
      rw [if_neg]
      rintro ⟨h1, h2⟩
      exact h l List.mem_cons_self (by omega) h2
    rw [this]
    exact tid_none fun l' hl' => h l' (List.mem_cons_of_mem _ hl')
def metG (G : List (List Int)) (e m : Nat) : Bool := G.any fun l => decide ((m : Int) ∈ l) && decide (hd l < e)
theorem metG_iff {G : List (List Int)} {e m : Nat} : metG G e m = true ↔ ∃ l ∈ G, (m : Int) ∈ l ∧ hd l < e := by
  simp [metG, List.any_eq_true]
theorem tidy_cyc {G : List (List Int)} {n : Nat} (h : Cov G n) : ∀ e, e ≤ n → tidyF G e = (cycN (afterC (tabF G)) e).2 ∧ ∀ m : Nat, m < 16 → (cycN (afterC (tabF G)) e).1[m]? = some (metG G e m)
  | 0, _ => by
    refine ⟨rfl, fun m hm => ?_⟩
    have hz : metG G 0 m = false := by
      cases hh : metG G 0 m with
      | false => rfl
      | true =>
        obtain ⟨l, hl, h1, h2⟩ := metG_iff.1 hh
        have h3 := (hd_facts (List.length_pos_of_mem h1)).2.1
        have := h.rng _ (List.mem_flatten.2 ⟨l, hl, h3⟩)
        omega
    rw [show (cycN (afterC (tabF G)) 0).1 = List.replicate 16 false from rfl, List.getElem?_replicate, if_pos hm, hz]
  | e + 1, he => by
    obtain ⟨h1, h2⟩ := tidy_cyc h e (by omega)
    have hn := h.le
    obtain ⟨l, k, hl, hk, hkm⟩ := h.place (m := e) (by omega)
    have hel : (e : Int) ∈ l := List.mem_of_getElem? hkm
    have hlp : 0 < l.length := by omega
    obtain ⟨d1, d2, d3⟩ := hd_facts hlp
    have hle := d3 _ hel
    have hll : l.length ≤ 16 := by
      have := total_mem hl
      rw [h.len] at this; omega
    have only : ∀ l' ∈ G, (e : Int) ∈ l' → l' = l := fun l' hl' hx => h.same hl' hl hx hel
    have hhead : ∀ l' ∈ G, 0 < l'.length → hd l' = e → l' = l := fun l' hl' hp e1 => only l' hl' (by rw [← e1]; exact (hd_facts hp).2.1)
    have hb : (cycN (afterC (tabF G)) e).1.getD e false = metG G e e := by rw [List.getD_eq_getElem?_getD, h2 e (by omega)]; rfl
    rw [tidyF_succ, cycN_succ]
    unfold cycS
    rw [hb]
    by_cases hmu : hd l < e
    · have hmet : metG G e e = true := metG_iff.2 ⟨l, hl, hel, hmu⟩
      rw [if_pos hmet]
      refine ⟨?_, fun m hm => ?_⟩
      · unfold tidE
        rw [tid_none (fun l' hl' hp e1 => by have := hhead l' hl' hp e1; subst this; omega), h1]
      · rw [h2 m hm]
        congr 1
        rw [Bool.eq_iff_iff, metG_iff, metG_iff]
        constructor
        · rintro ⟨l', q1, q2, q3⟩; exact ⟨l', q1, q2, by omega⟩
        · rintro ⟨l', q1, q2, q3⟩
          refine ⟨l', q1, q2, ?_⟩
          apply Classical.byContradiction
          intro hno
          have := hhead l' q1 (List.length_pos_of_mem q2) (by omega)
          subst this; omega
    · have hmu' : hd l = e := by omega
      have hmet : ¬ metG G e e = true := fun hh => by
        obtain ⟨l', q1, q2, q3⟩ := metG_iff.1 hh
        have := only l' q1 q2
        subst this; omega
      rw [if_neg hmet]
      rw [hmu'] at d1
      rw [orb_least h hl hlp hll d1, Option.getD_some]
      refine ⟨?_, fun m hm => ?_⟩
      · obtain ⟨A, B, hG⟩ := List.append_of_mem hl
        have hnd := h.nd
        rw [hG, List.flatten_append, List.flatten_cons] at hnd
        obtain ⟨-, n2, n3⟩ := List.nodup_append.1 hnd
        obtain ⟨-, -, n5⟩ := List.nodup_append.1 n2
        have hA : ∀ l' ∈ A, 0 < l'.length → hd l' ≠ e := fun l' hl' hp e1 =>
          n3 e (List.mem_flatten.2 ⟨l', hl', by rw [← e1]; exact (hd_facts hp).2.1⟩) e (List.mem_append_left _ hel) rfl
        have hB : ∀ l' ∈ B, 0 < l'.length → hd l' ≠ e := fun l' hl' hp e1 =>
          n5 e hel e (List.mem_flatten.2 ⟨l', hl', by rw [← e1]; exact (hd_facts hp).2.1⟩) rfl
        unfold tidE
        rw [hG, List.foldl_append, List.foldl_cons, tid_none hA, tid_none hB, ← hG]
        unfold tidI
        rw [if_pos ⟨by omega, hmu'⟩, h1]
      · have hml : ∀ x, x ∈ leastF l ↔ x ∈ l := fun x => by
          unfold leastF
          rw [List.mem_append, or_comm, ← List.mem_append, List.take_append_drop]
        simp only
        rw [setM_get (fun x hx => (h.rng x (List.mem_flatten.2 ⟨l, hl, (hml x).1 hx⟩)).1) (h2 m hm)]
        congr 1
        rw [Bool.eq_iff_iff, Bool.or_eq_true, metG_iff, metG_iff, decide_eq_true_eq, hml]
        constructor
        · rintro (⟨l', q1, q2, q3⟩ | q)
          · exact ⟨l', q1, q2, by omega⟩
          · exact ⟨l, hl, q, by omega⟩
        · rintro ⟨l', q1, q2, q3⟩
          by_cases hlt : hd l' < e
          · exact .inl ⟨l', q1, q2, hlt⟩
          · have := hhead l' q1 (List.length_pos_of_mem q2) (by omega)
            subst this; exact .inr q2
end
section
set_option maxRecDepth 4000
@[simp] theorem bin_eff (P : Program) (ρ : Operand → AV) (op : BinOp) (t : TypeId) (x y : Operand) : SOp.eff P ρ (.bin op t x y) = effPlain2 P (fun u v => do eqGuard op t x y u v; binOp op t u v) (ρ x) (ρ y) := rfl
end
section
set_option maxRecDepth 4000
def atC (C : List Int) (e : Int) : Int := C.getD (17 + e.toNat) 0
def ptsC (C : List Int) : Int := C.getD 33 0
theorem tabI_at_ne {l C : List Int} {m : Nat} {k : Nat} (hl : in16 l = true) (hk : k < l.length) (hm : m < 16) (hne : l[k]? ≠ some (m : Int)) : (tabI l C k).getD (17 + m) 0 = C.getD (17 + m) 0 := by
  obtain ⟨q, hq, h1, h2⟩ := in16_get hl hk
  simp only [tabI, h2, Int.toNat_natCast]
  have hqm : q ≠ m := fun e => hne (by rw [h1, e])
  rw [getD_set_ne (by omega), getD_set_ne (by omega)]
theorem tabE_at_skip {l C : List Int} {m : Nat} (hl : in16 l = true) (hm : m < 16) (hnot : (m : Int) ∉ l) : ∀ j, j ≤ l.length → ((List.range j).foldl (tabI l) C).getD (17 + m) 0 = C.getD (17 + m) 0
  | 0, _ => rfl
  | j + 1, hj => by
    rw [List.range_succ, List.foldl_append]
    simp only [List.foldl_cons, List.foldl_nil]
    rw [tabI_at_ne hl (by omega) hm (fun e => hnot (List.mem_of_getElem? e))]
    exact tabE_at_skip hl hm hnot j (by omega)
theorem tabE_at {l C : List Int} {m k : Nat} (hl : in16 l = true) (hnd : l.Nodup) (hC : C.length = 34) (hm : m < 16) (hk : k < l.length) (hkm : l[k]? = some (m : Int)) :
    ∀ j, j ≤ l.length → k < j → ((List.range j).foldl (tabI l) C).getD (17 + m) 0 = C.getD 33 0
  | 0, _, h => by omega
  | j + 1, hj, hkj => by
    rw [List.range_succ, List.foldl_append]
    simp only [List.foldl_cons, List.foldl_nil]
    by_cases e : j = k
    · subst e
      have hg : l.getD j 0 = (m : Int) := by rw [List.getD_eq_getElem?_getD, hkm]; rfl
      simp only [tabI, hg, Int.toNat_natCast]
      rw [getD_set_eq (by rw [List.length_set, tabE_len]; omega)]
      exact (tabE_keep hl (List.range j) C fun k hk => by have := List.mem_range.1 hk; omega).2
    · rw [tabI_at_ne hl (by omega) hm (fun h => e ?_)]
      · exact tabE_at hl hnd hC hm hk hkm j (by omega) (by omega)
      · exact nd_inj hnd h hkm
theorem tabL_at_skip {l C : List Int} {m : Nat} (hl : in16 l = true) (hm : m < 16) (hnot : (m : Int) ∉ l) : (tabL C l).getD (17 + m) 0 = C.getD (17 + m) 0 := by
  unfold tabL
  split
  · rfl
  · rw [getD_set_ne (by omega), getD_set_ne (by omega)]
    exact tabE_at_skip hl hm hnot _ (Nat.le_refl _)
theorem tabL_at {l C : List Int} {m k : Nat} (hl : in16 l = true) (hnd : l.Nodup) (hC : C.length = 34) (hm : m < 16) (hk : k < l.length) (hkm : l[k]? = some (m : Int)) : (tabL C l).getD (17 + m) 0 = C.getD 33 0 := by
  unfold tabL
  rw [if_neg (by omega), getD_set_ne (by omega), getD_set_ne (by omega)]
  exact tabE_at hl hnd hC hm hk hkm _ (Nat.le_refl _) hk
theorem tabs_at_skip {m : Nat} (hm : m < 16) : ∀ {B : List (List Int)} {C : List Int}, B.all in16 = true → (m : Int) ∉ B.flatten → (B.foldl tabL C).getD (17 + m) 0 = C.getD (17 + m) 0
  | [], C, _, _ => rfl
  | l :: B, C, h, hn => by
    simp only [List.all_cons, Bool.and_eq_true] at h
    rw [List.flatten_cons, List.mem_append, not_or] at hn
    simp only [List.foldl_cons]
    rw [tabs_at_skip hm h.2 hn.2, tabL_at_skip h.1 hm hn.1]
theorem tabs_pts : ∀ {B : List (List Int)} {C : List Int}, B.all in16 = true → C.length = 34 → (∀ l ∈ B, l.length ≠ 0) → (B.foldl tabL C).getD 33 0 = C.getD 33 0 + B.length
  | [], C, _, _, _ => by simp
  | l :: B, C, h, hC, h0 => by
    simp only [List.all_cons, Bool.and_eq_true] at h
    simp only [List.foldl_cons]
    obtain ⟨h1, -, h3⟩ := tabL_facts (C := C) h.1 hC
    rw [tabs_pts h.2 h1 (fun l hl => h0 l (List.mem_cons_of_mem _ hl)), h3, if_neg (h0 l List.mem_cons_self), List.length_cons]
    omega
theorem pts_eq {L : List (List Int)} (h : L.all in16 = true) (h0 : ∀ l ∈ L, l.length ≠ 0) : ptsC (tabF L) = L.length := by
  unfold ptsC tabF
  rw [tabs_pts h rfl h0]
  have : Z34.getD 33 0 = 0 := by decide
  omega
theorem ptR_app {x : Int} {l : List Int} {B : List (List Int)} (hl : 0 ≤ idxL l x) : ∀ {A : List (List Int)} {i : Int}, (∀ a ∈ A, ¬ 0 ≤ idxL a x) → ptR x (A ++ l :: B) i = i + A.length
  | [], i, _ => by simp [ptR, hl]
  | a :: A, i, h => by
    simp only [List.cons_append, ptR]
    rw [if_neg (h a List.mem_cons_self), ptR_app hl (fun a ha => h a (List.mem_cons_of_mem _ ha)), List.length_cons]
    omega
theorem Cov.at {L : List (List Int)} {n : Nat} (h : Cov L n) (h0 : ∀ l ∈ L, l.length ≠ 0) {k m : Nat} {l : List Int} (hk : L[k]? = some l) (hm : (m : Int) ∈ l) : atC (tabF L) m = k ∧ Go.Sx.Ch.ptL L m = k := by
  obtain ⟨hkl, hkk⟩ := List.getElem?_eq_some_iff.1 hk
  have hs : L = L.take k ++ l :: L.drop (k + 1) := by
    rw [← hkk, ← List.drop_eq_getElem_cons hkl, List.take_append_drop]
  obtain ⟨j, hj, hjm⟩ := List.getElem_of_mem hm
  have h16 := h.h16
  have hnd := h.nd
  have hin := h.rng m (List.mem_flatten.2 ⟨l, List.mem_of_getElem? hk, hm⟩)
  have hlt : m < 16 := by have := h.le; omega
  generalize hA : L.take k = A at hs
  generalize L.drop (k + 1) = B at hs
  have hAl : A.length = k := by rw [← hA, List.length_take]; omega
  subst hs
  have hA16 : A.all in16 = true := List.all_eq_true.2 fun x hx => List.all_eq_true.1 h16 x (by simp [hx])
  have hB16 : B.all in16 = true := List.all_eq_true.2 fun x hx => List.all_eq_true.1 h16 x (by simp [hx])
  have hl16 : in16 l = true := List.all_eq_true.1 h16 l (by simp)
  rw [List.flatten_append, List.flatten_cons] at hnd
  obtain ⟨-, h2, hAn⟩ := List.nodup_append.1 hnd
  obtain ⟨h3, -, h5⟩ := List.nodup_append.1 h2
  refine ⟨?_, ?_⟩
  · have e : tabF (A ++ l :: B) = B.foldl tabL (tabL (tabF A) l) := by simp [tabF, List.foldl_append]
    unfold atC
    rw [e, Int.toNat_natCast, tabs_at_skip hlt hB16 (fun h => h5 _ hm _ h rfl), tabL_at hl16 h3 (tabF_facts hA16).1 hlt hj (by rw [List.getElem?_eq_getElem hj, hjm])]
    have := pts_eq hA16 (fun l hl => h0 l (by simp [hl]))
    unfold ptsC at this
    rw [this, hAl]
  · unfold Go.Sx.Ch.ptL
    rw [ptR_app (idxL_mem.2 hm) (fun a ha hx => hAn _ (List.mem_flatten.2 ⟨a, ha, idxL_mem.1 hx⟩) _ (List.mem_append_left _ hm) rfl), hAl]
    omega
theorem Cov.pnt {L : List (List Int)} {n : Nat} (h : Cov L n) (h0 : ∀ l ∈ L, l.length ≠ 0) {m : Nat} (hm : m < n) : ∃ k l, L[k]? = some l ∧ (m : Int) ∈ l ∧ atC (tabF L) m = ((k : Nat) : Int) ∧ Go.Sx.Ch.ptL L m = k := by
  obtain ⟨l, i, hl, hi, him⟩ := h.place hm
  obtain ⟨k, hk, hkl⟩ := List.getElem_of_mem hl
  have hkk : L[k]? = some l := by rw [List.getElem?_eq_getElem hk, hkl]
  have hmem := List.mem_of_getElem? him
  exact ⟨k, l, hkk, hmem, h.at h0 hkk hmem⟩
theorem chk_ne {L : List (List Int)} (h : chk L = 0) : ∀ l ∈ L, l.length ≠ 0 := fun l hl => (scanM_in (chk_zero h).2.1 l hl).1
/-! ### Which points a line joins -/
def joinR (L : List (List Int)) (p q : Int) : Bool := (L.getD p.toNat []).any fun e => decide (ptL L (otherI e) = q)
end
section
set_option maxRecDepth 4000
set_option maxHeartbeats 4000000
def tidL (L : List (List Int)) : List (List Int) := if chk L = 0 then cyc (afterC (tabF L)) (total L) else []
end
end Go.Sx.Ch
