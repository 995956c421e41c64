/- WalkFirst's walk. No conditions. -/
import Derived.Test.YtmakepdccccmaaaSxRB
import Derived.Test.YtmakepdccccmaaaSxRC
import Derived.Test.YtmakepdccccmaaaSxJN4toN5
import Derived.Test.YtmakepdccccmaaaSxL7
import Derived.Test.YtmakepdccccmaaaSxJS29toR5
import Derived.Test.YtmakepdccccmaaaSxPX13
set_option linter.unusedVariables false
set_option linter.unusedSimpArgs false
namespace Go.Sx.Wk
open Go Go.Sx Go.Proofs

/-- A region behind which a change is allowed. -/
theorem zOps_chg {R : Rsv} {k0 : Nat} {b : PCode} {s : ST} {ops : List PI} {ks : List Nat} {Q Q' : Exit → ST → Prop} (s1 : ST) (h1 : ∀ K : ST → Prop, (∀ s', ChgT k0 (s'.keepF ks) s1 → K s') → zOps R K ops s) (h2 : XZ R k0 b s1 Q) :
    zOps R (goOn (thenE (fun s' => ∃ s'', ChgT k0 s' s'' ∧ XZ R k0 b s'' Q) Q') ks) ops s := h1 _ fun s' hc => ⟨s1, hc, h2⟩
theorem same_take {t w : List Int} : ((pad t (leftL w 0 t)).take t.length) = leftL w 0 t := List.take_left' (leftL_len w t 0)
set_option maxHeartbeats 8000000 in
theorem walkFirst_runs (s b0 b1 b2 b3 many : Int) (hs : 0 ≤ s ∧ s ≤ 255) (hb : ∀ x ∈ [b0, b1, b2, b3], 0 ≤ x ∧ x ≤ 255) (hm : 0 ≤ many ∧ many ≤ 255) :
    Runs Try.prog 13 0 [.agg [vU s, vU b0, vU b1, vU b2, vU b3], vU many] (hpF []) (vB true) 0 (hpF []) := by
  have hg : g42 s b0 b1 b2 b3 3 6 = true := by
    simp only [g42, Bool.and_eq_true, List.all_eq_true, within_iff]
    exact ⟨⟨fun x hx => by rw [List.mem_cons] at hx; rcases hx with rfl | hx; exact hs; exact hb x hx, by omega⟩, by omega⟩
  obtain ⟨hne, h3, h6⟩ := made_facts hg
  generalize hT : madeL s 3 6 [b0, b1, b2, b3] = T at *
  have h4 : T.length ≤ 4 := by omega
  have h8 : ∀ y ∈ T, 1 ≤ y ∧ y ≤ 8 := fun y hy => by have := h6 y hy; omega
  have hpos := List.length_pos_iff.2 hne
  have hT8 : ok8 T = true := ok8_iff.2 h8
  have hst : small T = true := small4 h4
  have hc0 : chk T = 0 := by
    have h0 : ¬ T.length = 0 := by omega
    have h1 : T.all (within 1 · 8) = true := List.all_eq_true.2 fun y hy => by simpa using h8 y hy
    unfold chk
    rw [if_neg h0, if_neg (by omega), if_pos h1]
  have hg78 := chk_g78 hc0
  obtain ⟨n, hn⟩ := Int.eq_ofNat_of_zero_le (show 0 ≤ many % 21 by omega)
  have hn20 : n ≤ 20 := by omega
  have hwi : within 0 (n : Int) 60 = true := within_iff.2 ⟨by omega, by omega⟩
  have hcz : canB T = decide ((aliveF T).2 < 0) := rfl
  refine P13.rzC p1013 P1013s (ss := [s16, s25, s27, s29, s32, s42, s43, s44, s45c, s46]) ⟨s16_ok, s25_ok, s27_ok, s29_ok, s32_ok, s42_ok, s43_ok, s44_ok, s45c_ok, s46_ok, trivial⟩ (by simp) fun Q hQ => ?_
  cases hcan : canB T with
  | false =>
    rw [hcan] at hcz
    have hwv : walkV T n = .tup [.il [] 0 false, vI 12] := by
      unfold walkV
      rw [if_pos hc0, if_pos hwi, hcan]; rfl
    have hz : 0 ≤ (aliveF T).2 := by
      have := hcz.symm
      rw [decide_eq_false_iff_not] at this
      omega
    have hgf : goesF T [] = .tup [vB false, vI 0] := by
      have h0t : toldF T [] = 0 := by
        unfold toldF
        rw [if_pos hc0, if_neg (by simp)]; rfl
      have hgd : goodL [] 0 T = true := by rw [← goodG_top]; exact goodG_nil
      simp only [goesF, h0t, hgd, hcan, if_true, Bool.false_and]
    have hz2 : ¬ (aliveF T).2 < 0 := by omega
    have hs0 : small ([] : List Int) = true := rfl
    delta p1013 p13_r0 p13_r1 p13_r2 p13_r3 p13_r4 p13_r5 p13_r6 p13_r7 p13_r8 p13_r9
    simp (disch := omega) [oLt, oLe, oLtN, oLeN, nLt, nLe, nLtN, nLeN, f42, hg, hT, hn, hst, hwv, hg78, hpos, hz, hz2, hgf, hs0]
    exact hQ _ _ (.p (.inl rfl) (by simp) rfl)
  | true =>
    have hF := first_facts hT8 h4 hcan n
    have hwv : walkV T n = .tup [.il (ints (walkB T n T)) (walkB T n T).length false, vI 0] := by
      unfold walkV
      rw [if_pos hc0, if_pos hwi, hcan]; rfl
    rw [hcan] at hcz
    have hz : ¬ 0 ≤ (aliveF T).2 := by
      have := hcz.symm
      rw [decide_eq_true_eq] at this
      omega
    generalize walkB T n T = W at *
    obtain ⟨hWl, hWg, hWa⟩ := hF
    have hwW : wlkL W 0 T = true := by rw [wlk_good fun y hy => (h8 y hy).1]; exact hWg
    have hsW : small W = true := by simp [small]; omega
    have hz2 : (aliveF T).2 < 0 := by omega
    delta p1013 p13_r0 p13_r1 p13_r2 p13_r3 p13_r4 p13_r5 p13_r6 p13_r7 p13_r8 p13_r9
    simp (disch := omega) [oLt, oLe, oLtN, oLeN, nLt, nLe, nLtN, nLeN, f42, hg, hT, hn, hst, hwv, hg78, hpos, hz, hz2, hWl, hwW, hsW, hT8]
    refine XZ_for (fun i : Nat => ⟨[(5, .il (ints T) T.length false), (7, .il (ints W) n false), (71, .il (ints W) n false), (72, vI n), (73, vI i)], [], 0⟩) (fun i => n - i) (fun i => i ≤ n) 0 (by simp) (.to [] (by simp)) ?_
    intro i hi N Q' hN hE
    rcases Nat.lt_or_ge i n with h | h
    · obtain ⟨x, hx, hxT, hxa⟩ := hWa i h
      have hiW : i < W.length := by omega
      have hx' : W[i] = (x : Int) := (List.getElem?_eq_some_iff.1 hx).2
      have h0x : ¬ (x : Int) < 0 := by omega
      have hxc : ¬ (T.length : Int) ≤ x := by omega
      have hAl : (W.take i).length = i := by rw [List.length_take]; omega
      generalize hAd : W.take i = A at *
      delta p1013_l1 p13_r10 p13_r11 p13_r12 p13_r13 p13_r14
      simp (disch := omega) [oLt, oLe, oLtN, oLeN, nLt, nLe, nLtN, nLeN, h, hx, hx', h0x, hxc, hiW]
      refine XZ_for (fun s : Nat => ⟨[(5, .il (ints T) T.length false), (7, .il (ints W) n false), (11, vI i), (12, vI x), (71, .il (ints W) n false), (72, vI n), (73, vI i), (87, vI ((x + 1 : Nat) : Int)), (88, vI s)], [], 0⟩) (fun s => x + 1 - s) (fun s => s ≤ x + 1) 0 (by simp) (.to [] (by simp)) ?_
      intro s hs N1 Q1 hN1 hE1
      rcases Nat.lt_or_ge s (x + 1) with g | g
      · have hsc : (s : Int) < (x : Int) + 1 := by omega
        have hr := hxa s (by omega)
        have hVl : (A ++ [(s : Int)]).length = i + 1 := by simp [hAl]
        have h0t : toldF T (A ++ [(s : Int)]) = 0 := by
          have hal : (A ++ [(s : Int)]).all (within 0 · (T.length - 1)) = true := by
            rw [List.all_append, Bool.and_eq_true]
            refine ⟨List.all_eq_true.2 fun y hy => ?_, by simp; omega⟩
            rw [← hAd] at hy
            obtain ⟨j, hj, rfl⟩ := List.getElem_of_mem (List.mem_of_mem_take hy)
            obtain ⟨x', e1, e2, _⟩ := hWa j (by omega)
            rw [List.getElem?_eq_getElem hj] at e1
            have e3 := Option.some.inj e1
            rw [e3, within_iff]; omega
          unfold toldF
          rw [if_pos hc0, if_neg (by omega), if_pos hal]
        have hsV : small (A ++ [(s : Int)]) = true := by simp [small]; omega
        have hsA : small A = true := by simp [small]; omega
        have hlp := leftP_eq T (A ++ [(s : Int)])
        have hgf : goesF T (A ++ [(s : Int)]) = if goodL (A ++ [(s : Int)]) 0 T = true then .tup [vB (canB T && everB T (leftL (A ++ [(s : Int)]) 0 T)), vI 0] else .tup [vB false, vI 12] := by simp only [goesF, h0t, if_true]
        simp only [leftF, h0t, if_true] at hlp
        have hwg : wlkL (A ++ [(s : Int)]) 0 T = goodL (A ++ [(s : Int)]) 0 T := wlk_good fun y hy => (h8 y hy).1
        have hLl := leftL_len (A ++ [(s : Int)]) T 0
        have hpl4 : (pad T (leftL (A ++ [(s : Int)]) 0 T)).length = 4 := pad_len hLl.symm h4
        have hptk := same_take (t := T) (w := A ++ [(s : Int)])
        have hsL : small (leftL (A ++ [(s : Int)]) 0 T) = true := by simp [small, hLl]; omega
        have hWt : (ints W).take i = ints A := by rw [← hAd]; simp [ints]
        have hs0 : small ([] : List Int) = true := rfl
        have hWne : W ≠ [] := List.length_pos_iff.1 (by omega)
        have fin : ∀ s', ChgT 0 s' ⟨[(5, .il (ints T) T.length false), (7, .il (ints W) n false), (11, vI i), (12, vI x), (71, .il (ints W) n false), (72, vI n), (73, vI i), (87, vI ((x + 1 : Nat) : Int)), (88, vI ((s + 1 : Nat) : Int))], [], 0⟩ → N1 s' := fun s' hh => hN1 s' (s + 1) (by omega) (by omega) hh
        rw [hcan, Bool.true_and] at hr
        rw [hcan, Bool.true_and] at hgf
        have hdx : ((s : Int) == (x : Int)) = decide (s = x) := by
          rw [Bool.eq_iff_iff]; simp; omega
        generalize hL : leftL (A ++ [(s : Int)]) 0 T = L at *
        generalize hP : pad T L = P at *
        generalize hV : A ++ [(s : Int)] = V at *
        delta p1013_l0 p13_r15 p13_r16
        simp (disch := omega) [oLt, oLe, oLtN, oLeN, nLt, nLe, nLtN, nLeN, hsc]
        refine zOps_chg ⟨[(5, .il (ints T) T.length false), (7, .il (ints W) n false), (11, vI i), (12, vI x), (13, vI s), (14, .il (ints V) V.length false), (71, .il (ints W) n false), (72, vI n), (73, vI i), (87, vI ((x + 1 : Nat) : Int)), (88, vI s)], [], 0⟩ (fun K hK => ?_) ?_
        · clear hgf hlp
          delta p13_r17
          rcases A with _ | ⟨a0, ar⟩
          · simp only [List.length_nil] at hAl
            subst hAl
            simp only [List.nil_append] at hV
            subst hV
            simp (disch := omega) [oLt, oLe, oLtN, oLeN, nLt, nLe, nLtN, nLeN, h, f45c, hs0]
            exact hK _ (.fz [5, 7, 11, 12, 13, 14, 71, 72, 73, 87, 88] rfl rfl rfl (by simp [ST.keepF]))
          · simp only [List.length_cons] at hAl
            subst hAl
            simp only [List.cons_append] at hV
            subst hV
            simp (disch := omega) [oLt, oLe, oLtN, oLeN, nLt, nLe, nLtN, nLeN, h, f45c, hAd, hsA, hWne]
            exact hK _ (.fz [5, 7, 11, 12, 13, 14, 71, 72, 73, 87, 88] rfl rfl rfl (by simp [ST.keepF]))
        · cases hgd : goodL V 0 T with
          | false =>
            rw [hgd] at hlp hgf hwg
            simp only [Bool.false_eq_true, if_false] at hlp hgf
            delta p13_r18 p13_r19 p13_r20 p13_r21 p13_r26
            simp (disch := omega) [oLt, oLe, oLtN, oLeN, nLt, nLe, nLtN, nLeN, hst, hT8, hgf, hwg, hsV]
            exact fin _ (.to [] (by simp))
          | true =>
            have hr := hr hgd
            rw [hr] at hgf
            rw [hgd] at hlp hgf hwg
            simp only [if_true] at hlp hgf
            delta p13_r18 p13_r19 p13_r20 p13_r21 p13_r22 p13_r23 p13_r24 p13_r25 p13_r26
            simp (disch := omega) [oLt, oLe, oLtN, oLeN, nLt, nLe, nLtN, nLeN, hst, hT8, hgf, hwg, hsV, hlp, h4, hL, hP, hpl4, hptk, hsL, hLl]
            have hdx : decide (s = x) = ((s : Int) == (x : Int)) := hdx.symm
            exact ⟨fun _ => fin _ (.to [] (by simp)), fun e => absurd hdx e⟩
      · have hsc : ¬ (s : Int) < (x : Int) + 1 := by omega
        delta p1013_l0 p13_r15 p13_r16 p13_r17 p13_r18 p13_r19 p13_r20 p13_r21 p13_r22 p13_r23 p13_r24 p13_r25 p13_r26
        simp (disch := omega) [oLt, oLe, oLtN, oLeN, nLt, nLe, nLtN, nLeN, hsc]
        refine hE1 _ _ _ .refl ?_
        delta p13_r27
        simp (disch := omega) [oLt, oLe, oLtN, oLeN, nLt, nLe, nLtN, nLeN]
        exact hN _ (i + 1) (by omega) h (.to [] (by simp))
    · have h' : ¬ i < n := by omega
      delta p1013_l1 p13_r10 p13_r11 p13_r12 p13_r13 p13_r14
      simp (disch := omega) [oLt, oLe, oLtN, oLeN, nLt, nLe, nLtN, nLeN, h']
      refine hE _ _ _ .refl ?_
      delta p13_r28
      simp (disch := omega) [oLt, oLe, oLtN, oLeN, nLt, nLe, nLtN, nLeN]
      exact hQ _ _ (.p (.inl rfl) (by simp) rfl)
end Go.Sx.Wk
