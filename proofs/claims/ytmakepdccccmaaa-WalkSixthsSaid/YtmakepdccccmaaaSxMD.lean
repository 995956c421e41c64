/- WalkSixths's walk: where one goes on for ever. No conditions. -/
import Derived.Test.YtmakepdccccmaaaSxMC
set_option linter.unusedVariables false
set_option linter.unusedSimpArgs false
set_option maxRecDepth 4000
namespace Go.Sx.Wk
open Go Go.Sx Go.Proofs

theorem ten_mks {x y : AV} (hx : x.cells? = some [x]) (hy : y.cells? = some [y]) : effMks 10 1 [Value.slice none 0 0, Value.slice none 0 0, Value.slice none 0 0, Value.slice none 0 0, Value.slice none 0 0, Value.slice none 0 0, Value.slice none 0 0, Value.slice none 0 0, Value.slice none 0 0, Value.slice none 0 0] [(0, 1, x), (1, 1, y), (2, 1, y), (3, 1, y), (4, 1, y), (5, 1, y), (6, 1, y), (7, 1, y), (8, 1, y), (9, 1, y)] = effNew [x, y, y, y, y, y, y, y, y, y] fun i => .ref i 0 10 1 (some 10) := by
  have h : fillA (([Value.slice none 0 0, Value.slice none 0 0, Value.slice none 0 0, Value.slice none 0 0, Value.slice none 0 0, Value.slice none 0 0, Value.slice none 0 0, Value.slice none 0 0, Value.slice none 0 0, Value.slice none 0 0] : List Value).map .v) [(0, 1, x), (1, 1, y), (2, 1, y), (3, 1, y), (4, 1, y), (5, 1, y), (6, 1, y), (7, 1, y), (8, 1, y), (9, 1, y)] = some [x, y, y, y, y, y, y, y, y, y] := by
    simp only [fillA, hx, hy, List.map_cons, List.map_nil, splice, List.length_cons, List.length_nil, List.take_zero, List.take_succ_cons, List.drop_zero, List.drop_succ_cons, List.nil_append, List.cons_append, Nat.zero_add, Nat.reduceAdd, Nat.reduceLeDiff, and_self, if_true]
  simp only [effMks, h]
set_option maxHeartbeats 2000000 in
theorem six_true {T W a b : List Int} {Q : Exit → ST → Prop} {nx : Nat} (h4 : T.length ≤ 4) (hne : T ≠ []) (h8 : ∀ y ∈ T, 1 ≤ y ∧ y ≤ 8) (hc0 : chk T = 0) (hwv : walkV T 60 = .tup [.il (ints W) W.length false, vI 0]) (hlv : loopV T = .tup [.il (ints a) a.length false, .il (ints b) b.length false, vI 0])
    (l1 : 0 < b.length) (l2 : W.length = 60) (l3 : goodL W 0 T = true) (l4 : ∀ k, k < 60 → W[k]? = if k < a.length then a[k]? else b[(k - a.length) % b.length]?) (l5 : goodL (a ++ rep 9 b) 0 T = true) (l6 : ∀ x ∈ b, 0 ≤ x ∧ x ≤ T.length - 1) (l7 : a.length + b.length ≤ 5000)
    (hQ : ∀ s : ST, EndsP 0 [SRes.tmp 2] (vB true) 0 [] .ret s → Q .ret s) : XZ (rZ (spc [s16, s17, s19, s21, s30, s32, s34, s38, s42, s43, s51])) 0 t14 ⟨[(3, .il (ints T) T.length false), (7, vB true), (9, vI 0), (10, vI 13), (104, vB false)], [], nx⟩ Q := by
  have hst : small T = true := by simp [small]; omega
  have hT8 : ok8 T = true := ok8_iff.2 h8
  have h1 : ∀ y ∈ T, 1 ≤ y := fun y hy => (h8 y hy).1
  have hsW : small W = true := by simp [small]; omega
  have hwg : wlkL W 0 T = true := by rw [wlk_good h1]; exact l3
  have hbn : b ≠ [] := List.length_pos_iff.1 l1
  have hbc : ¬ (b.length : Int) = 0 := by omega
  have hb0 : ¬ b.length = 0 := by omega
  unfold t14
  refine XZ_step ?_ (fun N Q_ hN => ?_) ?_
  rotate_left
  · delta p14_r14; simp (disch := omega) [oLt, oLe, oLtN, oLeN, nLt, nLe, nLtN, nLeN, hst, hwv]
    exact hN
  refine XZ_step ?_ (fun N Q_ hN => ?_) ?_
  rotate_left
  · delta p14_r15; simp (disch := omega) [oLt, oLe, oLtN, oLeN, nLt, nLe, nLtN, nLeN, hst, hlv]
    exact hN
  refine XZ_step ?_ (fun N Q_ hN => ?_) ?_
  rotate_left
  · delta p14_r16; simp (disch := omega) [oLt, oLe, oLtN, oLeN, nLt, nLe, nLtN, nLeN]
    exact hN
  refine XZ_step ?_ (fun N Q_ hN => ?_) ?_
  rotate_left
  · refine XZ_regG ?_
    delta p14_r18
    refine zOps_cut 12 ?_ (fun K_ hK => ?_) ?_
    rotate_left
    · simp only [List.take_succ_cons, List.take_zero]
      simp (disch := omega) [oLt, oLe, oLtN, oLeN, nLt, nLe, nLtN, nLeN, l2]
      exact hK
    simp only [List.drop_succ_cons, List.drop_zero]
    refine zOps_cut 9 ?_ (fun K_ hK => ?_) ?_
    rotate_left
    · simp only [List.take_succ_cons, List.take_zero]
      simp (disch := omega) [oLt, oLe, oLtN, oLeN, nLt, nLe, nLtN, nLeN, l2, hst, hT8, hsW, hwg]
      exact hK
    simp only [List.drop_succ_cons, List.drop_zero]
    delta p14_r19
    simp (disch := omega) [oLt, oLe, oLtN, oLeN, nLt, nLe, nLtN, nLeN, l2, hst, hT8, hsW, hwg, hbn, hb0]
    exact hN
  obtain ⟨S1, hS1⟩ : ∃ S : ST, S = ⟨[(3, .il (ints T) T.length false), (14, .il (ints a) a.length false), (15, .il (ints b) b.length false)], [], 0⟩ := ⟨_, rfl⟩
  refine XZ_step S1 (fun N Q_ hN => ?_) ?_
  · rw [hS1] at hN
    delta p14_r20
    simp (disch := omega) [oLt, oLe, oLtN, oLeN, nLt, nLe, nLtN, nLeN, l2]
    refine XZ_for (fun k : Nat => ⟨[(3, .il (ints T) T.length false), (14, .il (ints a) a.length false), (15, .il (ints b) b.length false), (176, .il (ints W) 60 false), (177, vI 60), (178, vI k)], [], 0⟩) (fun k => 60 - k) (fun k => k ≤ 60) 0 (by simp) (.to [] (by simp)) ?_
    intro k hk N1 Q1 hN1 hE1
    rcases Nat.lt_or_ge k 60 with h | h
    · have hkc : (k : Int) < 60 := by omega
      have hkW : k < W.length := by omega
      obtain ⟨x, hx⟩ : ∃ x, W[k]? = some x := ⟨W[k], by simp [hkW]⟩
      have hx' : W[k] = x := (List.getElem?_eq_some_iff.1 hx).2
      have h4' := l4 k h
      rw [hx] at h4'
      by_cases hka : k < a.length
      · rw [if_pos hka] at h4'
        have ha := h4'.symm
        have ha' : a[k] = x := (List.getElem?_eq_some_iff.1 ha).2
        have hkac : ¬ (a.length : Int) ≤ k := by omega
        delta p14_l1 p14_r21 p14_r22 p14_r23 p14_r24 p14_r25 p14_r26 p14_r27 p14_r28 p14_r29 p14_r30
        simp (disch := omega) [oLt, oLe, oLtN, oLeN, nLt, nLe, nLtN, nLeN, h, hkc, hkW, hx, hx', hka, hkac, ha, ha', l2]
        exact hN1 _ (k + 1) (by omega) h (.to [] (by simp))
      · rw [if_neg hka] at h4'
        have hkac : (a.length : Int) ≤ k := by omega
        obtain ⟨j, hj⟩ : ∃ j, k - a.length = j := ⟨_, rfl⟩
        rw [hj] at h4'
        have hjc : (k : Int) - a.length = j := by omega
        have hmod : (j : Int) % (b.length : Int) = ((j % b.length : Nat) : Int) := by rw [Int.natCast_emod]
        have hq := Nat.mod_lt j l1
        generalize j % b.length = q at *
        have hbq := h4'.symm
        have hbq' : b[q] = x := (List.getElem?_eq_some_iff.1 hbq).2
        delta p14_l1 p14_r21 p14_r22 p14_r23 p14_r24 p14_r25 p14_r26 p14_r27 p14_r28 p14_r29 p14_r30
        simp (disch := omega) [oLt, oLe, oLtN, oLeN, nLt, nLe, nLtN, nLeN, h, hkc, hkW, hx, hx', hkac, hjc, hmod, hq, hbq, hbq', hbn, l2]
        exact hN1 _ (k + 1) (by omega) h (.to [] (by simp))
    · have hkc : ¬ (k : Int) < 60 := by omega
      delta p14_l1 p14_r21 p14_r22 p14_r23 p14_r24 p14_r25 p14_r26 p14_r27 p14_r28 p14_r29 p14_r30
      simp (disch := omega) [oLt, oLe, oLtN, oLeN, nLt, nLe, nLtN, nLeN, hkc]
      refine hE1 _ _ ⟨[(3, .il (ints T) T.length false), (14, .il (ints a) a.length false), (15, .il (ints b) b.length false)], [], 0⟩ (.to [] (by simp)) ?_
      simp only [inBE, thenE, if_true]; exact hN
  have hcl : (a ++ rep 9 b).length ≤ 1000000 := by
    rw [List.length_append, repl_len]; omega
  have hcat : catL [a, b, b, b, b, b, b, b, b, b] = a ++ rep 9 b := by
    simp [catL, rep, List.replicate]
  have hll : unlls [.il (ints a) a.length false, .il (ints b) b.length false, .il (ints b) b.length false, .il (ints b) b.length false, .il (ints b) b.length false, .il (ints b) b.length false, .il (ints b) b.length false, .il (ints b) b.length false, .il (ints b) b.length false, .il (ints b) b.length false] = some [a, b, b, b, b, b, b, b, b, b] := unlls_lls [a, b, b, b, b, b, b, b, b, b]
  have hgb : goodL (rep 9 b) 0 T = true := good_suffix h8 l5
  have hwg2 : wlkL (a ++ rep 9 b) 0 T = true := by rw [wlk_good h1]; exact l5
  have hs2 : small (a ++ rep 9 b) = true := by simp only [small, decide_eq_true_eq]; exact hcl
  generalize a ++ rep 9 b = V at *
  obtain ⟨x, hx⟩ : ∃ x, x = AV.il (ints a) a.length false := ⟨_, rfl⟩
  obtain ⟨y, hy⟩ : ∃ y, y = AV.il (ints b) b.length false := ⟨_, rfl⟩
  have hx' : x.cells? = some [x] := by rw [hx]; rfl
  have hy' : y.cells? = some [y] := by rw [hy]; rfl
  rw [← hx, ← hy] at hS1
  rw [hS1]
  refine XZ_regG ?_
  delta p14_r31
  refine zOps_cut 10 ?_ (fun K_ hK => ?_) ?_
  rotate_left
  · simp only [List.take_succ_cons, List.take_zero]
    simp (disch := omega) [oLt, oLe, oLtN, oLeN, nLt, nLe, nLtN, nLeN]
    exact hK
  simp only [List.drop_succ_cons, List.drop_zero]
  refine zOps_cut 1 ?_ (fun K_ hK => ?_) ?_
  rotate_left
  · simp only [List.take_succ_cons, List.take_zero]
    simp (disch := omega) [oLt, oLe, oLtN, oLeN, nLt, nLe, nLtN, nLeN, -effMks, ten_mks hx' hy']
    exact hK
  simp only [List.drop_succ_cons, List.drop_zero]
  subst hx hy
  simp (disch := omega) [oLt, oLe, oLtN, oLeN, nLt, nLe, nLtN, nLeN, hll, hcat, hcl]
  by_cases h60 : b.length ≤ 60
  · have hm : meetsF T b = 0 := by
      have ht : toldF T b = 0 := by
        unfold toldF
        rw [if_pos hc0, if_neg (by omega), if_pos (List.all_eq_true.2 fun y hy => by simpa using l6 y hy)]
      unfold meetsF
      rw [if_pos hc0, if_neg hb0, if_pos ht, if_pos hgb]
    have hsb : small b = true := by simp [small]; omega
    have h60c : ¬ (60 : Int) < b.length := by omega
    delta p14_r32
    simp (disch := omega) [oLt, oLe, oLtN, oLeN, nLt, nLe, nLtN, nLeN, hst, hT8, hs2, hwg2, h60c, hm, hsb]
    exact hQ _ (.p (.inl rfl) (by simp) rfl)
  · have h60c : (60 : Int) < b.length := by omega
    delta p14_r32
    simp (disch := omega) [oLt, oLe, oLtN, oLeN, nLt, nLe, nLtN, nLeN, hst, hT8, hs2, hwg2, h60c]
    exact hQ _ (.p (.inl rfl) (by simp) rfl)
end Go.Sx.Wk
