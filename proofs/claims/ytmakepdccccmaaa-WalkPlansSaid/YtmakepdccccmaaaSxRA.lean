/- WalkPlans's walk. No conditions. -/
import Derived.Test.YtmakepdccccmaaaSxR8
import Derived.Test.YtmakepdccccmaaaSxR9
import Derived.Test.YtmakepdccccmaaaSxJPd15toPd72
set_option linter.unusedVariables false
set_option linter.unusedSimpArgs false
namespace Go.Sx.Wk
open Go Go.Sx Go.Proofs

/-- Small numbers in a row. -/
def u8s (l : List Int) : List AV := l.map fun n => .v (.int .u8 n)
@[simp] theorem u8s_len (l : List Int) : (u8s l).length = l.length := by simp [u8s]
@[simp] theorem u8s_get? (l : List Int) (i : Nat) : (u8s l)[i]? = (l[i]?).map fun n => .v (.int .u8 n) := by simp [u8s]
@[simp] theorem u8s_ren (g : Nat → Nat) (l : List Int) : renL g (u8s l) = u8s l := by induction l with | nil => rfl | cons a l ih => simpa [u8s] using ih
@[simp] theorem u8s_clo (l : List Int) : cloL (u8s l) = true := by induction l with | nil => rfl | cons a l ih => simpa [u8s] using ih
@[simp] theorem u8s_flat (l : List Int) : flatL (u8s l) = true := by induction l with | nil => rfl | cons a l ih => simpa [u8s] using ih
theorem ite_congr_iff {a b : Prop} [Decidable a] [Decidable b] (h : a ↔ b) : (if a then (0 : Int) else 14) = if b then 0 else 14 := by
  by_cases ha : a
  · rw [if_pos ha, if_pos (h.1 ha)]
  · rw [if_neg ha, if_neg fun hb => ha (h.2 hb)]
/-- What Meets says of the law's plans. -/
structure PlanFacts (T P : List Int) (k w : Nat) (x want : Int) : Prop where
  h1 : meetsF T P = want
  h2 : meetsF T (P.drop k ++ P.take k) = want
  h3 : meetsF T (revI P) = want
  h4 : metL P 0 T = true → meetsF (T.set w (x + 1)) P = 0
theorem plan_facts {T P : List Int} {k w : Nat} {x : Int} (hne : T ≠ []) (h3 : T.length ≤ 3) (h7 : ∀ y ∈ T, 1 ≤ y ∧ y ≤ 7) (hP : 0 < P.length) (h12 : P.length ≤ 12) (hr : ∀ y ∈ P, 0 ≤ y ∧ y ≤ T.length - 1) (hk : k ≤ P.length) (hw : T[w]? = some x) :
    PlanFacts T P k w x (if metL P 0 T = true then 0 else 14) := by
  have hT0 : 0 < T.length := List.length_pos_iff.2 hne
  have ck : ∀ U : List Int, U.length = T.length → (∀ y ∈ U, 1 ≤ y ∧ y ≤ 8) → chk U = 0 := fun U hU h8 => by
    have h0 : ¬ U.length = 0 := by omega
    have h1 : U.all (within 1 · 8) = true := List.all_eq_true.2 fun y hy => by simpa using h8 y hy
    unfold chk
    rw [if_neg h0, if_neg (by omega), if_pos h1]
  have mt : ∀ U V : List Int, U.length = T.length → (∀ y ∈ U, 1 ≤ y ∧ y ≤ 8) → V.length = P.length → (∀ y ∈ V, 0 ≤ y ∧ y ≤ T.length - 1) → meetsF U V = if goodL (rep 9 V) 0 U = true then 0 else 14 := fun U V hU h8 hV hv => by
    have hc := ck U hU h8
    have ha : V.all (within 0 · (U.length - 1)) = true := List.all_eq_true.2 fun y hy => by rw [hU]; simpa using hv y hy
    have ht : toldF U V = 0 := by
      unfold toldF
      rw [if_pos hc, if_neg (by omega), if_pos ha]
    unfold meetsF
    rw [if_pos hc, if_neg (by omega), if_pos ht]
  have T8 : ∀ y ∈ T, 1 ≤ y ∧ y ≤ 8 := fun y hy => by have := h7 y hy; omega
  have e1 := metL_meets (T := T) hP
  have g1 := meets_iff T8 hP
  have dl : (P.drop k ++ P.take k).length = P.length := by rw [List.length_append, List.length_drop, List.length_take]; omega
  have rl : (revI P).length = P.length := by simp
  have g2 := meets_iff (P := P.drop k ++ P.take k) T8 (by omega)
  have g3 := meets_iff (P := revI P) T8 (by omega)
  rw [meets_turn hk hP] at g2
  rw [show revI P = P.reverse from rfl, meets_rev hP, ← show revI P = P.reverse from rfl] at g3
  refine ⟨?_, ?_, ?_, fun hm => ?_⟩
  · rw [mt T P rfl T8 rfl hr]; rw [← ite_congr_iff (g1.trans e1.symm)]
  · rw [mt T _ rfl T8 dl (fun y hy => hr y (by
      rcases List.mem_append.1 hy with h | h
      · exact List.mem_of_mem_drop h
      · exact List.mem_of_mem_take h))]; rw [← ite_congr_iff (g2.trans e1.symm)]
  · rw [mt T _ rfl T8 rl (fun y hy => hr y (List.mem_reverse.1 hy))]; rw [← ite_congr_iff (g3.trans e1.symm)]
  · have hx := h7 x (List.mem_of_getElem? hw)
    have hs8 : ∀ y ∈ T.set w (x + 1), 1 ≤ y ∧ y ≤ 8 := fun y hy => by
      rcases List.mem_or_eq_of_mem_set hy with h | h
      · exact T8 y h
      · omega
    have g4 := (meets_iff (P := P) hs8 hP).2 (meets_more hw (by omega) (e1.1 hm))
    rw [mt _ P (by simp) hs8 rfl hr, if_pos g4]
set_option maxRecDepth 4000 in
set_option maxHeartbeats 8000000 in
theorem walkPlans_runs (s b0 b1 b2 b3 many turn which : Int) (l : List Int) (hs : 0 ≤ s ∧ s ≤ 255) (hb : ∀ x ∈ [b0, b1, b2, b3], 0 ≤ x ∧ x ≤ 255) (hm : 0 ≤ many ∧ many ≤ 255) (hl : l.length = 12) (hlb : ∀ x ∈ l, 0 ≤ x ∧ x ≤ 255) (htu : 0 ≤ turn ∧ turn ≤ 255) (hwh : 0 ≤ which ∧ which ≤ 255) :
    Runs Try.prog 15 0 [.agg [vU s, vU b0, vU b1, vU b2, vU b3], vU many, .agg (u8s l), vU turn, vU which] (hpF []) (vB true) 0 (hpF []) := by
  have hg : g42 s b0 b1 b2 b3 3 7 = true := by
    simp only [g42, Bool.and_eq_true, List.all_eq_true, within_iff]
    exact ⟨⟨fun x hx => by rw [List.mem_cons] at hx; rcases hx with rfl | hx; exact hs; exact hb x hx, by omega⟩, by omega⟩
  obtain ⟨hne, h3, h7⟩ := made_facts hg
  generalize hT : madeL s 3 7 [b0, b1, b2, b3] = T at *
  have h3 : T.length ≤ 3 := by omega
  have hpos := List.length_pos_iff.2 hne
  obtain ⟨n, hn⟩ := Int.eq_ofNat_of_zero_le (show 0 ≤ many % 12 by omega)
  have hn12 : n ≤ 11 := by omega
  refine P15.rz (ss := [s16, s30, s42, s45b, s51, s52]) ⟨s16_ok, s30_ok, s42_ok, s45b_ok, s51_ok, s52_ok, trivial⟩ (by simp) fun Q hQ => ?_
  delta p15 p15_r0 p15_r1 p15_r2 p15_r3
  simp (disch := omega) [oLt, oLe, oLtN, oLeN, nLt, nLe, nLtN, nLeN, f42, hg, hT, hn, hl]
  obtain ⟨U, hU⟩ : ∃ U, U = l.take (n + 1) := ⟨_, rfl⟩
  have hUl : U.length = n + 1 := by rw [hU]; simp; omega
  have hpc : ¬ (T.length : Int) = 0 := by omega
  refine XZ_for (fun p : Nat × List Int => ⟨[(3, vU turn), (4, vU which), (11, .il (ints T) T.length false), (12, ow 1 p.2), (32, .ref 0 0 (n + 1) 1 (some 12)), (33, vI ((n + 1 : Nat) : Int)), (34, vI p.1)], owh 1 p.2 [(0, .cells (u8s l))], own p.2 1⟩) (fun p => U.length - p.1) (fun p => p.1 ≤ U.length ∧ p.2.length = p.1 ∧ p.2 ++ (U.drop p.1).map (fun x => x % (T.length : Int)) = U.map fun x => x % (T.length : Int)) (0, []) ⟨by simp, by simp, by simp⟩ (.tot [32] (by simp <;> omega)) ?_
  rintro ⟨i, acc⟩ ⟨hi, ha, hp⟩ N Q' hN hE
  simp only at hi ha hp ⊢
  rcases Nat.lt_or_ge i U.length with h | h
  · obtain ⟨x, r, e1, e2, e3, e4, e5⟩ := drop_split h
    rw [e1] at hp
    simp only [List.map_cons] at hp
    have hx : l[i]? = some x := by
      rw [hU, List.getElem?_take] at e2
      split at e2
      · exact e2
      · cases e2
    have hxb := hlb x (List.mem_of_getElem? hx)
    have hil : i < l.length := (List.getElem?_eq_some_iff.1 hx).1
    have hxi : l[i] = x := (List.getElem?_eq_some_iff.1 hx).2
    have hki : i < n + 1 := by omega
    have hkc : (i : Int) < n + 1 := by omega
    have fin : ∀ s', ChgT 0 s' ⟨[(3, vU turn), (4, vU which), (11, .il (ints T) T.length false), (12, ow 1 (acc ++ [x % (T.length : Int)])), (32, .ref 0 0 (n + 1) 1 (some 12)), (33, vI ((n + 1 : Nat) : Int)), (34, vI ((i + 1 : Nat) : Int))], owh 1 (acc ++ [x % (T.length : Int)]) [(0, .cells (u8s l))], own (acc ++ [x % (T.length : Int)]) 1⟩ → N s' := fun s' hh =>
      hN s' (i + 1, acc ++ [x % (T.length : Int)]) (by simp only; omega) ⟨h, by simp [ha], by simp only [e4]; rw [← hp]; simp⟩ hh
    generalize hz : x % (T.length : Int) = z at *
    rcases acc with _ | ⟨a0, ar⟩
    · delta p15_l0 p15_r4 p15_r5 p15_r6 p15_r7
      simp (disch := omega) [oLt, oLe, oLtN, oLeN, nLt, nLe, nLtN, nLeN, hki, hkc, hx, hxi, hne, hpc, hz, hl]
      exact fin _ (.tot [32, 12] (by simp))
    · simp only [List.length_cons] at ha
      delta p15_l0 p15_r4 p15_r5 p15_r6 p15_r7
      simp (disch := omega) [oLt, oLe, oLtN, oLeN, nLt, nLe, nLtN, nLeN, hki, hkc, hx, hxi, hne, hpc, hz, hl]
      exact fin _ (.tot [32, 12] (by simp))
  · have hkc : ¬ (i : Int) < n + 1 := by omega
    rw [List.drop_eq_nil_of_le h] at hp
    simp only [List.map_nil, List.append_nil] at hp
    have hal : acc.length = n + 1 := by rw [hp]; simp; omega
    have har : ∀ x ∈ acc, 0 ≤ x ∧ x ≤ T.length - 1 := fun x hx => by
      rw [hp] at hx
      obtain ⟨y, -, rfl⟩ := List.mem_map.1 hx
      have h0 := Int.emod_nonneg y hpc
      have h1 := Int.emod_lt_of_pos y (show (0 : Int) < T.length by omega)
      omega
    clear hp hN ha hi
    rcases acc with _ | ⟨a0, ar⟩
    · simp at hal
    delta p15_l0 p15_r4 p15_r5 p15_r6 p15_r7
    simp (disch := omega) [oLt, oLe, oLtN, oLeN, nLt, nLe, nLtN, nLeN, hkc]
    refine hE _ _ ⟨[(3, vU turn), (4, vU which), (11, .il (ints T) T.length false), (12, .il (ints (a0 :: ar)) (a0 :: ar).length false)], [], 0⟩ (.fz [3, 4, 11, 12] rfl rfl rfl (by simp)) ?_
    generalize a0 :: ar = P at *
    have hP : 0 < P.length := by omega
    have hPc : ¬ (P.length : Int) = 0 := by omega
    have hPne : P ≠ [] := List.length_pos_iff.1 hP
    obtain ⟨k, hk⟩ := Int.eq_ofNat_of_zero_le (Int.emod_nonneg turn hPc)
    have hkP : k < P.length := by
      have := Int.emod_lt_of_pos turn (show (0 : Int) < P.length by omega)
      omega
    obtain ⟨w, hw⟩ := Int.eq_ofNat_of_zero_le (Int.emod_nonneg which hpc)
    have hwT : w < T.length := by
      have := Int.emod_lt_of_pos which (show (0 : Int) < T.length by omega)
      omega
    obtain ⟨x, hx⟩ : ∃ x, T[w]? = some x := ⟨T[w], by simp⟩
    have hF := plan_facts (k := k) hne h3 h7 hP (by omega) har (by omega) hx
    delta p15_r8 p15_r9
    simp (disch := omega) [oLt, oLe, oLtN, oLeN, nLt, nLe, nLtN, nLeN]
    refine XZ_for (fun p : Nat × Bool => ⟨[(3, vU turn), (4, vU which), (11, .il (ints T) T.length false), (12, .il (ints P) P.length false), (15, vB p.2), (47, .il (ints T) T.length false), (48, vI T.length), (49, vI p.1)], [], 0⟩) (fun p => T.length - p.1) (fun p => p.1 ≤ T.length ∧ (p.2 && metL P p.1 (T.drop p.1)) = metL P 0 T) (0, true) (by simp) (.to [] (by simp)) ?_
    rintro ⟨i, b⟩ ⟨hi, hb⟩ N Q1 hN hE1
    simp only at hi hb ⊢
    rcases Nat.lt_or_ge i T.length with h | h
    · obtain ⟨m, r, e1, e2, e3, e4, e5⟩ := drop_split h
      rw [e1] at hb
      simp only [metL] at hb
      have hm7 := h7 m e5
      obtain ⟨m, rfl⟩ := Int.eq_ofNat_of_zero_le (show 0 ≤ m by omega)
      simp only [Int.toNat_natCast] at hb
      delta p15_l3 p15_r10 p15_r11 p15_r12
      simp (disch := omega) [oLt, oLe, oLtN, oLeN, nLt, nLe, nLtN, nLeN, h, e2, e3]
      refine XZ_for (fun p : Nat × Bool => ⟨[(3, vU turn), (4, vU which), (11, .il (ints T) T.length false), (12, .il (ints P) P.length false), (15, vB p.2), (16, vI i), (17, vI m), (47, .il (ints T) T.length false), (48, vI T.length), (49, vI i), (55, vI P.length), (56, vI p.1)], [], 0⟩) (fun p => P.length - p.1) (fun p => p.1 ≤ P.length ∧ (p.2 && metR P i m p.1 (P.length - p.1)) = (b && metR P i m 0 P.length)) (0, b) (by simp) (.to [] (by simp)) ?_
      rintro ⟨f, b1⟩ ⟨hf, hb1⟩ N2 Q2 hN2 hE2
      simp only at hf hb1 ⊢
      rcases Nat.lt_or_ge f P.length with g | g
      · obtain ⟨d, hd⟩ : ∃ d, P.length - f = d + 1 := ⟨P.length - f - 1, by omega⟩
        have hd' : P.length - (f + 1) = d := by omega
        rw [hd] at hb1
        simp only [metR] at hb1
        delta p15_l2 p15_r13 p15_r14 p15_r15 p15_r16
        simp (disch := omega) [oLt, oLe, oLtN, oLeN, nLt, nLe, nLtN, nLeN, g]
        refine XZ_for (fun p : Nat × Bool => ⟨[(3, vU turn), (4, vU which), (11, .il (ints T) T.length false), (12, .il (ints P) P.length false), (15, vB b1), (16, vI i), (17, vI m), (18, vI f), (19, vB p.2), (47, .il (ints T) T.length false), (48, vI T.length), (49, vI i), (55, vI P.length), (56, vI f), (59, vI m), (60, vI p.1)], [], 0⟩) (fun p => m - p.1) (fun p => p.1 ≤ m ∧ (p.2 || fndR P i f p.1 (m - p.1)) = fndR P i f 0 m) (0, false) (by simp) (.to [] (by simp)) ?_
        rintro ⟨e, c⟩ ⟨he, hc⟩ N3 Q3 hN3 hE3
        simp only at he hc ⊢
        rcases Nat.lt_or_ge e m with g1 | g1
        · obtain ⟨d1, hd1⟩ : ∃ d1, m - e = d1 + 1 := ⟨m - e - 1, by omega⟩
          have hd1' : m - (e + 1) = d1 := by omega
          rw [hd1] at hc
          simp only [fndR] at hc
          have g1c : (e : Int) < m := by omega
          have hmod : ((f : Int) + e) % (P.length : Int) = (((f + e) % P.length : Nat) : Int) := by
            rw [Int.natCast_emod, Int.natCast_add]
          have hq := Nat.mod_lt (f + e) hP
          generalize (f + e) % P.length = q at *
          obtain ⟨y, hy⟩ : ∃ y, P[q]? = some y := ⟨P[q], by simp⟩
          have hy' : P[q] = y := (List.getElem?_eq_some_iff.1 hy).2
          rw [hy] at hc
          cases c with
          | true =>
            delta p15_l1 p15_r17 p15_r18 p15_r19 p15_r20
            simp (disch := omega) [oLt, oLe, oLtN, oLeN, nLt, nLe, nLtN, nLeN, g1, g1c]
            refine hN3 _ (e + 1, true) (by simp only; omega) ⟨g1, ?_⟩ (.to [] (by simp))
            simp only [Bool.true_or] at hc ⊢
            exact hc
          | false =>
            simp only [Bool.false_or] at hc
            delta p15_l1 p15_r17 p15_r18 p15_r19 p15_r20
            simp (disch := omega) [oLt, oLe, oLtN, oLeN, nLt, nLe, nLtN, nLeN, g1, g1c, hmod, hq, hy, hy', hPc, hPne]
            refine hN3 _ (e + 1, y == i) (by simp only; omega) ⟨g1, ?_⟩ (.to [] (by simp))
            simp only [hd1']
            rw [← hc]
            simp
        · have g1' : ¬ (e : Int) < m := by omega
          have hem : m - e = 0 := by omega
          rw [hem] at hc
          simp only [fndR, Bool.or_false] at hc
          delta p15_l1 p15_r17 p15_r18 p15_r19 p15_r20
          simp (disch := omega) [oLt, oLe, oLtN, oLeN, nLt, nLe, nLtN, nLeN, g1']
          refine hE3 _ _ _ .refl ?_
          rw [← hc] at hb1
          cases b1 with
          | true =>
            delta p15_r21 p15_r22
            simp (disch := omega) [oLt, oLe, oLtN, oLeN, nLt, nLe, nLtN, nLeN]
            refine hN2 _ (f + 1, c) (by simp only; omega) ⟨g, ?_⟩ (.to [] (by simp))
            simp only [hd']; rw [← hb1]; simp
          | false =>
            delta p15_r21 p15_r22
            simp (disch := omega) [oLt, oLe, oLtN, oLeN, nLt, nLe, nLtN, nLeN]
            refine hN2 _ (f + 1, false) (by simp only; omega) ⟨g, ?_⟩ (.to [] (by simp))
            simp only [hd']; rw [← hb1]; simp
      · have g' : ¬ f < P.length := by omega
        have hfz : P.length - f = 0 := by omega
        rw [hfz] at hb1
        simp only [metR, Bool.and_true] at hb1
        delta p15_l2 p15_r13 p15_r14 p15_r15 p15_r16
        simp (disch := omega) [oLt, oLe, oLtN, oLeN, nLt, nLe, nLtN, nLeN, g']
        refine hE2 _ _ _ .refl ?_
        delta p15_r23
        simp (disch := omega) [oLt, oLe, oLtN, oLeN, nLt, nLe, nLtN, nLeN]
        refine hN _ (i + 1, b1) (by simp only; omega) ⟨h, ?_⟩ (.to [] (by simp))
        simp only [e4]
        rw [← hb, hb1, Bool.and_assoc]
    · have h' : ¬ i < T.length := by omega
      rw [List.drop_eq_nil_of_le h] at hb
      simp only [metL, Bool.and_true] at hb
      subst hb
      delta p15_l3 p15_r10 p15_r11 p15_r12
      simp (disch := omega) [oLt, oLe, oLtN, oLeN, nLt, nLe, nLtN, nLeN, h']
      refine hE1 _ _ _ .refl ?_
      obtain ⟨f1, f2, f3, f4⟩ := hF
      have hT0 : 0 < T.length := hpos
      have hsT : small T = true := by simp [small]; omega
      have hsP : small P = true := by simp [small]; omega
      have hsV : small (revI P) = true := by simp [small]; omega
      have hsM : small (T.set w (x + 1)) = true := by simp [small]; omega
      have hsK : small (P.drop k ++ P.take k) = true := by simp [small]; omega
      have hx' : T[w] = x := (List.getElem?_eq_some_iff.1 hx).2
      have hx8 := h7 x (List.mem_of_getElem? hx)
      have htd : List.take (P.length - k) (List.drop k P) = List.drop k P := List.take_of_length_le (by simp)
      have htr : List.take P.length (revI P) = revI P := List.take_of_length_le (by simp)
      have hts : List.take T.length (T.set w (x + 1)) = T.set w (x + 1) := List.take_of_length_le (by simp)
      have hll : unlls [AV.il (ints (List.drop k P)) (P.length - k) false, AV.il (ints (List.take k P)) k false] = some [List.drop k P, List.take k P] := by
        have e1 : (List.drop k P).length = P.length - k := by simp
        have e2 : (List.take k P).length = k := by rw [List.length_take]; omega
        have := unlls_lls [List.drop k P, List.take k P]
        simp only [lls_cons, lls_nil, e1, e2] at this
        exact this
      have hcat : catL [List.drop k P, List.take k P] = P.drop k ++ P.take k := by simp [catL]
      have hVl : (P.drop k ++ P.take k).length = P.length := by rw [List.length_append, List.length_drop, List.length_take]; omega
      generalize hV : P.drop k ++ P.take k = V at *
      have hV6 : V.length ≤ 1000000 := by omega
      generalize hwn : (if metL P 0 T = true then (0 : Int) else 14) = want at *
      cases hmt : metL P 0 T with
      | true =>
        have f4 := f4 hmt
        rw [hmt, if_pos rfl] at hwn
        subst hwn
        simp only [inBE, thenE, if_true]
        refine XZ_step ?_ (fun N Q_ hN => ?_) ?_
        rotate_left
        · delta p15_r24; simp (disch := omega) [oLt, oLe, oLtN, oLeN, nLt, nLe, nLtN, nLeN]
          exact hN
        refine XZ_step ?_ (fun N Q_ hN => ?_) ?_
        rotate_left
        · delta p15_r25 p15_r26; simp (disch := omega) [oLt, oLe, oLtN, oLeN, nLt, nLe, nLtN, nLeN]
          exact hN
        refine XZ_step ?_ (fun N Q_ hN => ?_) ?_
        rotate_left
        · delta p15_r27; simp (disch := omega) [oLt, oLe, oLtN, oLeN, nLt, nLe, nLtN, nLeN, hk, hPne]
          exact hN
        refine XZ_step ?_ (fun N Q_ hN => ?_) ?_
        rotate_left
        · delta p15_r28; simp (disch := omega) [oLt, oLe, oLtN, oLeN, nLt, nLe, nLtN, nLeN, htd, hll, hcat, hVl, hV6]
          exact hN
        refine XZ_step ?_ (fun N Q_ hN => ?_) ?_
        rotate_left
        · delta p15_r29; simp (disch := omega) [oLt, oLe, oLtN, oLeN, nLt, nLe, nLtN, nLeN, f45b, hP, hsP]
          exact hN
        refine XZ_step ?_ (fun N Q_ hN => ?_) ?_
        rotate_left
        · delta p15_r30; simp (disch := omega) [oLt, oLe, oLtN, oLeN, nLt, nLe, nLtN, nLeN, f52, hsP]
          exact hN
        refine XZ_step ?_ (fun N Q_ hN => ?_) ?_
        rotate_left
        · delta p15_r31; simp (disch := omega) [oLt, oLe, oLtN, oLeN, nLt, nLe, nLtN, nLeN, f45b, hT0, hsT]
          exact hN
        refine XZ_step ?_ (fun N Q_ hN => ?_) ?_
        rotate_left
        · delta p15_r32; simp (disch := omega) [oLt, oLe, oLtN, oLeN, nLt, nLe, nLtN, nLeN, hw, hne, hwT, hx, hx']
          exact hN
        refine XZ_regG ?_
        delta p15_r33
        refine zOps_cut 8 ?_ (fun K_ hK => ?_) ?_
        rotate_left
        · simp only [List.take_succ_cons, List.take_zero]
          simp (disch := omega) [oLt, oLe, oLtN, oLeN, nLt, nLe, nLtN, nLeN, hVl, hsP, hsT, hsK, hsV, hsM, f1, f2, f3, htr, hts, f4]
          exact hK
        simp only [List.drop_succ_cons, List.drop_zero]
        refine zOps_cut 8 ?_ (fun K_ hK => ?_) ?_
        rotate_left
        · simp only [List.take_succ_cons, List.take_zero]
          simp (disch := omega) [oLt, oLe, oLtN, oLeN, nLt, nLe, nLtN, nLeN, hVl, hsP, hsT, hsK, hsV, hsM, f1, f2, f3, htr, hts, f4]
          exact hK
        simp only [List.drop_succ_cons, List.drop_zero]
        refine zOps_cut 6 ?_ (fun K_ hK => ?_) ?_
        rotate_left
        · simp only [List.take_succ_cons, List.take_zero]
          simp (disch := omega) [oLt, oLe, oLtN, oLeN, nLt, nLe, nLtN, nLeN, hVl, hsP, hsT, hsK, hsV, hsM, f1, f2, f3, htr, hts, f4]
          exact hK
        simp only [List.drop_succ_cons, List.drop_zero]
        simp (disch := omega) [oLt, oLe, oLtN, oLeN, nLt, nLe, nLtN, nLeN, hVl, hsP, hsT, hsK, hsV, hsM, f1, f2, f3, htr, hts, f4]
        exact hQ _ _ (.p (.inl rfl) (by simp) rfl)
      | false =>
        rw [hmt] at hwn
        simp only [Bool.false_eq_true, if_false] at hwn
        subst hwn
        simp only [inBE, thenE, if_true]
        refine XZ_step ?_ (fun N Q_ hN => ?_) ?_
        rotate_left
        · delta p15_r24; simp (disch := omega) [oLt, oLe, oLtN, oLeN, nLt, nLe, nLtN, nLeN]
          exact hN
        refine XZ_step ?_ (fun N Q_ hN => ?_) ?_
        rotate_left
        · delta p15_r25 p15_r26; simp (disch := omega) [oLt, oLe, oLtN, oLeN, nLt, nLe, nLtN, nLeN]
          exact hN
        refine XZ_step ?_ (fun N Q_ hN => ?_) ?_
        rotate_left
        · delta p15_r27; simp (disch := omega) [oLt, oLe, oLtN, oLeN, nLt, nLe, nLtN, nLeN, hk, hPne]
          exact hN
        refine XZ_step ?_ (fun N Q_ hN => ?_) ?_
        rotate_left
        · delta p15_r28; simp (disch := omega) [oLt, oLe, oLtN, oLeN, nLt, nLe, nLtN, nLeN, htd, hll, hcat, hVl, hV6]
          exact hN
        refine XZ_step ?_ (fun N Q_ hN => ?_) ?_
        rotate_left
        · delta p15_r29; simp (disch := omega) [oLt, oLe, oLtN, oLeN, nLt, nLe, nLtN, nLeN, f45b, hP, hsP]
          exact hN
        refine XZ_step ?_ (fun N Q_ hN => ?_) ?_
        rotate_left
        · delta p15_r30; simp (disch := omega) [oLt, oLe, oLtN, oLeN, nLt, nLe, nLtN, nLeN, f52, hsP]
          exact hN
        refine XZ_step ?_ (fun N Q_ hN => ?_) ?_
        rotate_left
        · delta p15_r31; simp (disch := omega) [oLt, oLe, oLtN, oLeN, nLt, nLe, nLtN, nLeN, f45b, hT0, hsT]
          exact hN
        refine XZ_step ?_ (fun N Q_ hN => ?_) ?_
        rotate_left
        · delta p15_r32; simp (disch := omega) [oLt, oLe, oLtN, oLeN, nLt, nLe, nLtN, nLeN, hw, hne, hwT, hx, hx']
          exact hN
        refine XZ_regG ?_
        delta p15_r33
        refine zOps_cut 8 ?_ (fun K_ hK => ?_) ?_
        rotate_left
        · simp only [List.take_succ_cons, List.take_zero]
          simp (disch := omega) [oLt, oLe, oLtN, oLeN, nLt, nLe, nLtN, nLeN, hVl, hsP, hsT, hsK, hsV, hsM, f1, f2, f3, htr, hts]
          exact hK
        simp only [List.drop_succ_cons, List.drop_zero]
        refine zOps_cut 8 ?_ (fun K_ hK => ?_) ?_
        rotate_left
        · simp only [List.take_succ_cons, List.take_zero]
          simp (disch := omega) [oLt, oLe, oLtN, oLeN, nLt, nLe, nLtN, nLeN, hVl, hsP, hsT, hsK, hsV, hsM, f1, f2, f3, htr, hts]
          exact hK
        simp only [List.drop_succ_cons, List.drop_zero]
        refine zOps_cut 6 ?_ (fun K_ hK => ?_) ?_
        rotate_left
        · simp only [List.take_succ_cons, List.take_zero]
          simp (disch := omega) [oLt, oLe, oLtN, oLeN, nLt, nLe, nLtN, nLeN, hVl, hsP, hsT, hsK, hsV, hsM, f1, f2, f3, htr, hts]
          exact hK
        simp only [List.drop_succ_cons, List.drop_zero]
        simp (disch := omega) [oLt, oLe, oLtN, oLeN, nLt, nLe, nLtN, nLeN, hVl, hsP, hsT, hsK, hsV, hsM, f1, f2, f3, htr, hts]
        exact hQ _ _ (.p (.inl rfl) (by simp) rfl)
end Go.Sx.Wk
