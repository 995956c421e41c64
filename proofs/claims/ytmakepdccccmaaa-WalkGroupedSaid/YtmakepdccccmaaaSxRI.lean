/- WalkGrouped's walk. No conditions. -/
import Derived.Test.YtmakepdccccmaaaSxRH
import Derived.Test.YtmakepdccccmaaaSxJR0toN0
import Derived.Test.YtmakepdccccmaaaSxL7
import Derived.Test.YtmakepdccccmaaaSxS29
import Derived.Test.YtmakepdccccmaaaSxJPd11toPd75
set_option linter.unusedVariables false
set_option linter.unusedSimpArgs false
set_option maxRecDepth 4000
namespace Go.Sx.Wk
open Go Go.Sx Go.Proofs

set_option maxHeartbeats 8000000 in
theorem walkGrouped_runs (s b0 b1 b2 b3 : Int) (hs : 0 ≤ s ∧ s ≤ 255) (hb : ∀ x ∈ [b0, b1, b2, b3], 0 ≤ x ∧ x ≤ 255) :
    Runs Try.prog 11 0 [.agg [vU s, vU b0, vU b1, vU b2, vU b3]] (hpF []) (vB true) 0 (hpF []) := by
  have hg : g42 s b0 b1 b2 b3 4 5 = true := by
    simp only [g42, Bool.and_eq_true, List.all_eq_true, within_iff]
    exact ⟨⟨fun x hx => by rw [List.mem_cons] at hx; rcases hx with rfl | hx; exact hs; exact hb x hx, by omega⟩, by omega⟩
  obtain ⟨hne, h4', h5⟩ := made_facts hg
  generalize hT : madeL s 4 5 [b0, b1, b2, b3] = T at *
  have h4 : T.length ≤ 4 := by omega
  have h8 : ∀ y ∈ T, 1 ≤ y ∧ y ≤ 8 := fun y hy => by have := h5 y hy; omega
  have hpos := List.length_pos_iff.2 hne
  have hT8 : ok8 T = true := ok8_iff.2 h8
  have hst : small T = true := by simp [small]; omega
  have hc0 : chk T = 0 := by
    have h0 : ¬ T.length = 0 := by omega
    have h1 : T.all (within 1 · 8) = true := List.all_eq_true.2 fun y hy => by simpa using h8 y hy
    unfold chk
    rw [if_neg h0, if_neg (by omega), if_pos h1]
  have hgv : grpV T = .tup [.il (ints (best T).1) (best T).1.length false, vI 0] := by
    unfold grpV; rw [if_pos hc0]
  have hbl : (best T).1.length = T.length := by
    obtain ⟨m, -, -, -, -, h, -⟩ := best_put hT8 h4 hne
    exact h
  have hRA : (RA T 9).1.or none = some (best T).1 := by
    rw [show (RA T 9).1 = some (best T).1 from best_law hT8 h4 hne]; rfl
  have hsB : small (best T).1 = true := by simp [small]; omega
  have h05 : T.length < 5 := by omega
  have hsh := fun x y => shlI x y h05
  have hp16 : 2 ^ T.length ≤ 16 := by
    have : 2 ^ T.length ≤ 2 ^ 4 := Nat.pow_le_pow_right (by omega) h4
    omega
  have hp2 : 1 < 2 ^ T.length := Nat.one_lt_two_pow (by omega)
  have hev1 := evL_one T
  have hrep : List.replicate (2 ^ T.length) (AV.v (.bool false)) = bls (evL T 1) := by rw [hev1, bls, List.map_replicate]
  have hmd : ∀ k, (evL T k).length = 2 ^ T.length := evL_len T
  have hset : ∀ k, 0 < k → k < 2 ^ T.length → (evL T k).set k (canB (ownS k T 0)) = evL T (k + 1) := fun k => evL_set
  have hown : ∀ k, 0 < k → k < 2 ^ T.length → ownS k T 0 ≠ [] := fun k => ownS_ne h4
  have hf47 : ∀ u, f47A T [.v (.slice none 0 0), .v (.int .i64 0), .ptr 0 0, .ptr 1 0, .ptr 2 0, .ptr 3 0, .ptr 4 0] [(0, .cells [vI T.length]), (1, .cells [.il (bls (evL T (2 ^ T.length))) (2 ^ T.length) u]), (2, .cells [vI 9]), (3, .cells [.v (.slice none 0 0)]), (4, .cells [.fn (.func 47) [] [.ptr 0 0, .ptr 1 0, .ptr 2 0, .ptr 3 0, .ptr 4 0]])] 5 = some (.tup [], [(0, .cells [vI T.length]), (1, .cells [.il (bls (evL T (2 ^ T.length))) (2 ^ T.length) u]), (2, .cells [vI (RA T 9).2]), (3, .cells [.il (ints (best T).1) (best T).1.length false]), (4, .cells [.fn (.func 47) [] [.ptr 0 0, .ptr 1 0, .ptr 2 0, .ptr 3 0, .ptr 4 0]])], 5) := fun u => by
    have e1 : dbO (.v (.slice none 0 0)) = some none := rfl
    simp only [f47A, e1, unbls_bls]
    rw [if_pos ⟨trivial, trivial, trivial, hpos, h4⟩]
    simp only [hA47, hRA, bO]
  generalize hB : (best T).1 = B at *
  generalize (RA T 9).2 = fw9 at *
  refine P11.rz (ss := [s16, s29, s36, s42, s46, s47A T]) ⟨s16_ok, s29_ok, s36_ok, s42_ok, s46_ok, s47A_ok T, trivial⟩ (by simp) fun Q hQ => ?_
  generalize hp : 2 ^ T.length = p at *
  have hp0 : 0 < p := by omega
  delta p11 p11_r0 p11_r1 p11_r2 p11_r3 p11_r4
  simp (disch := omega) [oLt, oLe, oLtN, oLeN, nLt, nLe, nLtN, nLeN, f42, hg, hT, hsh, hrep, -List.reduceReplicate]
  refine XZ_for (fun k : Nat => ⟨[(3, .il (ints T) T.length false), (4, .ptr 0 0), (5, .ptr 1 0), (6, vI k)], [(0, .cells [vI T.length]), (1, .cells [.ref 2 0 p 1 (some p)]), (2, .cells (bls (evL T k)))], 3⟩) (fun k => p - k) (fun k => 0 < k ∧ k ≤ p) 1 (by omega) (.to [6, 11, 10] (by simp [hev1])) ?_
  rintro k ⟨hk0, hk⟩ N Q' hN hE
  rcases Nat.lt_or_ge k p with h | h
  · have hkc : (k : Int) < p := by omega
    have hk16 : k < 16 := by omega
    have hne' := hown k hk0 h
    have hset' := hset k hk0 h
    have hlen := hmd k
    have hmem : ∀ y ∈ ownS k T 0, 1 ≤ y ∧ y ≤ 8 := fun y hy => h8 y (ownS_mem hy)
    have hol : (ownS k T 0).length ≤ 4 := Nat.le_trans ownS_len h4
    have fin : ∀ s', ChgT 0 s' ⟨[(3, .il (ints T) T.length false), (4, .ptr 0 0), (5, .ptr 1 0), (6, vI ((k + 1 : Nat) : Int))], [(0, .cells [vI T.length]), (1, .cells [.ref 2 0 p 1 (some p)]), (2, .cells (bls ((evL T k).set k (canB (ownS k T 0)))))], 3⟩ → N s' := fun s' hh => by
      rw [hset'] at hh
      exact hN s' (k + 1) (by omega) ⟨by omega, h⟩ hh
    generalize evL T k = E at *
    delta p11_l1 p11_r5 p11_r6 p11_r7
    simp (disch := omega) [oLt, oLe, oLtN, oLeN, nLt, nLe, nLtN, nLeN, hsh, hkc]
    refine XZ_for (fun q : Nat × List Int => ⟨[(3, .il (ints T) T.length false), (4, .ptr 0 0), (5, .ptr 1 0), (6, vI k), (7, ow 3 q.2), (28, .il (ints T) T.length false), (29, vI T.length), (30, vI q.1)], owh 3 q.2 [(0, .cells [vI T.length]), (1, .cells [.ref 2 0 p 1 (some p)]), (2, .cells (bls E))], own q.2 3⟩) (fun q => T.length - q.1) (fun q => q.1 ≤ T.length ∧ q.2.length ≤ q.1 ∧ q.2 ++ ownS k (T.drop q.1) q.1 = ownS k T 0) (0, []) (by simp) (.to [0, 1, 2] (by simp)) ?_
    rintro ⟨i, acc⟩ ⟨hi, hal, ha⟩ N1 Q1 hN1 hE1
    simp only at hi hal ha ⊢
    rcases Nat.lt_or_ge i T.length with g | g
    · obtain ⟨x, r, e1, e2, e3, e4, e5⟩ := drop_split g
      rw [e1] at ha
      simp only [ownS] at ha
      have hi4 : i < 4 := by omega
      have hd16 : k / 2 ^ i < 16 := Nat.lt_of_le_of_lt (Nat.div_le_self _ _) hk16
      have hshr := fun x y => shrI x y hk16 hi4
      have hand := fun x y => andI x y hd16
      generalize k / 2 ^ i = z at *
      by_cases hz : z % 2 = 1
      · rw [if_pos hz] at ha
        rw [hz] at hand
        have fin1 : ∀ s', ChgT 0 s' ⟨[(3, .il (ints T) T.length false), (4, .ptr 0 0), (5, .ptr 1 0), (6, vI k), (7, ow 3 (acc ++ [x])), (28, .il (ints T) T.length false), (29, vI T.length), (30, vI ((i + 1 : Nat) : Int))], owh 3 (acc ++ [x]) [(0, .cells [vI T.length]), (1, .cells [.ref 2 0 p 1 (some p)]), (2, .cells (bls E))], own (acc ++ [x]) 3⟩ → N1 s' := fun s' hh =>
          hN1 s' (i + 1, acc ++ [x]) (by simp only; omega) ⟨g, by simp; omega, by simp only [e4]; rw [← ha]; simp⟩ hh
        rcases acc with _ | ⟨a0, ar⟩
        · delta p11_l0 p11_r8 p11_r9 p11_r10 p11_r11 p11_r12
          simp (disch := omega) [oLt, oLe, oLtN, oLeN, nLt, nLe, nLtN, nLeN, g, e2, e3, hshr, hand]
          exact fin1 _ (.to [0, 1, 2, 17] (by simp))
        · simp only [List.length_cons] at hal
          delta p11_l0 p11_r8 p11_r9 p11_r10 p11_r11 p11_r12
          simp (disch := omega) [oLt, oLe, oLtN, oLeN, nLt, nLe, nLtN, nLeN, g, e2, e3, hshr, hand]
          exact fin1 _ (.to [0, 1, 2, 18] (by simp))
      · rw [if_neg hz] at ha
        have hz0 : z % 2 = 0 := by omega
        rw [hz0] at hand
        have fin1 : ∀ s', ChgT 0 s' ⟨[(3, .il (ints T) T.length false), (4, .ptr 0 0), (5, .ptr 1 0), (6, vI k), (7, ow 3 acc), (28, .il (ints T) T.length false), (29, vI T.length), (30, vI ((i + 1 : Nat) : Int))], owh 3 acc [(0, .cells [vI T.length]), (1, .cells [.ref 2 0 p 1 (some p)]), (2, .cells (bls E))], own acc 3⟩ → N1 s' := fun s' hh =>
          hN1 s' (i + 1, acc) (by simp only; omega) ⟨g, by simp only; omega, by simp only [e4]; exact ha⟩ hh
        rcases acc with _ | ⟨a0, ar⟩
        · delta p11_l0 p11_r8 p11_r9 p11_r10 p11_r11 p11_r12
          simp (disch := omega) [oLt, oLe, oLtN, oLeN, nLt, nLe, nLtN, nLeN, g, e2, e3, hshr, hand]
          exact fin1 _ (.to [0, 1, 2] (by simp))
        · delta p11_l0 p11_r8 p11_r9 p11_r10 p11_r11 p11_r12
          simp (disch := omega) [oLt, oLe, oLtN, oLeN, nLt, nLe, nLtN, nLeN, g, e2, e3, hshr, hand]
          exact fin1 _ (.to [0, 1, 2, 3] (by simp))
    · have g' : ¬ i < T.length := by omega
      rw [List.drop_eq_nil_of_le g] at ha
      simp only [ownS, List.append_nil] at ha
      subst ha
      have hg78 : g78 (ownS k T 0) = true := by
        simp only [g78, Bool.and_eq_true, decide_eq_true_eq]
        exact ⟨ok8_iff.2 hmem, hol⟩
      have hcz : canB (ownS k T 0) = decide ((aliveF (ownS k T 0)).2 < 0) := rfl
      generalize ownS k T 0 = O at *
      rcases O with _ | ⟨a0, ar⟩
      · exact absurd rfl hne'
      · have hkE : k < E.length := by omega
        delta p11_l0 p11_r8 p11_r9 p11_r10 p11_r11 p11_r12
        simp (disch := omega) [oLt, oLe, oLtN, oLeN, nLt, nLe, nLtN, nLeN, g']
        refine hE1 _ _ _ .refl ?_
        delta p11_r13 p11_r14
        simp (disch := omega) [oLt, oLe, oLtN, oLeN, nLt, nLe, nLtN, nLeN, hg78, hkc, hkE, hlen, h]
        rw [← hcz]
        exact fin _ (.to [0, 1, 2] (by simp))
  · have hkc : ¬ (k : Int) < p := by omega
    have hkp : k = p := by omega
    subst hkp
    delta p11_l1 p11_r5 p11_r6 p11_r7
    simp (disch := omega) [oLt, oLe, oLtN, oLeN, nLt, nLe, nLtN, nLeN, hsh, hkc]
    refine hE _ _ ⟨[(3, .il (ints T) T.length false), (4, .ptr 0 0), (5, .ptr 1 0)], [(0, .cells [vI T.length]), (1, .cells [.il (bls (evL T k)) k true])], 2⟩ ?_ ?_
    · have hl := hmd k
      refine .frz 2 (cs := bls (evL T k)) (by simp) (by simp) ?_
      exact .to [0, 1] (by simp [List.take_of_length_le, hl])
    · delta p11_r15 p11_r16 p11_r17 p11_r18 p11_r19 p11_r20 p11_r21
      simp (disch := omega) [oLt, oLe, oLtN, oLeN, nLt, nLe, nLtN, nLeN, hf47, hst, hgv, hsB, effMkfn]
      exact hQ _ _ (.p (.inl rfl) (by simp) rfl)
end Go.Sx.Wk
