/- What functions of the outright laws return: all lists of inspectors are tried, one after the other. No conditions. -/
import Derived.Test.YtmakepdccccmaaaSxRF
set_option linter.unusedVariables false
set_option linter.unusedSimpArgs false
set_option maxRecDepth 4000
namespace Go.Sx.Wk
open Go Go.Sx Go.Proofs

@[simp] theorem bO_idsL (b : Option (List Int)) (r : List AV) : idsL (bO b :: r) = idsL r := by cases b <;> simp [bO, idsL, ids]
@[simp] theorem bO_inL (p : Nat → Bool) (b : Option (List Int)) (r : List AV) : inL p (bO b :: r) = inL p r := by cases b <;> simp [bO, inL, inA]
@[simp] theorem range6 : List.range 6 = [0, 1, 2, 3, 4, 5] := rfl
theorem low6 : lowTo [0, 1, 2, 3, 4, 5] 6 = true := by decide
set_option maxHeartbeats 4000000 in
theorem put47_leaf {t : List Int} {f : Nat} {l : List Int} {x fw : Int} {b : Option (List Int)} {u : Bool} (hg : g47 (f + 1) t l x = true) (hl0 : 0 < l.length) (hlen : l.length = t.length) :
    Runs Try.prog 47 6 [.ref 0 0 l.length 1 none, vI x, .ptr 1 0, .ptr 2 0, .ptr 3 0, .ptr 4 0, .ptr 5 0] (hpF (hp47 t l fw b u)) (.tup []) 6 (hpF (ho47 t (R47 t l fw).2 ((R47 t l fw).1.or b) u)) := by
  obtain ⟨h4, hlt, hf, hx, hal, hnl, hrg⟩ := g47_iff.1 hg
  obtain ⟨X, hX⟩ := Int.eq_ofNat_of_zero_le (nextL_nonneg l)
  have hxX : x = X := by omega
  subst hxX
  have hX4 : X ≤ 4 := by omega
  have hl4 : l.length ≤ 4 := by omega
  have hrg := rgB_iff.1 hrg
  have hR := R47_leaf (fw := fw) hlen
  rw [hX] at hR
  refine P47.rz (ss := []) trivial (by simp) fun Q hQ => ?_
  delta p47 p47_r0 p47_r1 p47_r2
  simp (disch := omega) [oLt, oLe, oLtN, oLeN, nLt, nLe, nLtN, nLeN, hp47, hlen]
  refine XZ_for (fun p : Nat × Bool => ⟨[(0, .ref 0 0 t.length 1 none), (1, vI X), (3, .ptr 2 0), (4, .ptr 3 0), (5, .ptr 4 0), (9, vB p.2), (19, vI X), (20, vI p.1)], hp47 t l fw b u, 6⟩) (fun p => X - p.1) (fun p => p.1 ≤ X ∧ (p.2 && (rest p.1 (X - p.1)).all fun g => canB (grpL l t g)) = goodF t l) (0, true) ⟨by simp, by simp [goodF_rest hX]⟩ (.to [0, 1, 2, 3, 4, 5] (by simp [hp47, low6, -lowTo])) ?_
  rintro ⟨g, c⟩ ⟨hgX, hc⟩ N Q' hN hE
  simp only at hgX hc ⊢
  rcases Nat.lt_or_ge g X with h | h
  · obtain ⟨m, hm⟩ : ∃ m, X - g = m + 1 := ⟨X - g - 1, by omega⟩
    have hm' : X - (g + 1) = m := by omega
    rw [hm] at hc
    simp only [rest, List.all_cons] at hc
    have hgc : (g : Int) < X := by omega
    delta p47_l1 p47_r3 p47_r4 p47_r5 p47_r6
    simp (disch := omega) [oLt, oLe, oLtN, oLeN, nLt, nLe, nLtN, nLeN, hp47, h, hgc, hlen]
    refine XZ_for (fun p : Nat × Nat => ⟨[(0, .ref 0 0 t.length 1 none), (1, vI X), (3, .ptr 2 0), (4, .ptr 3 0), (5, .ptr 4 0), (9, vB c), (10, vI g), (11, vI p.2), (19, vI X), (20, vI g), (23, .ref 0 0 t.length 1 none), (24, vI t.length), (25, vI p.1)], hp47 t l fw b u, 6⟩) (fun p => l.length - p.1) (fun p => p.1 ≤ l.length ∧ p.2 < 2 ^ p.1 ∧ setF g (l.drop p.1) p.1 p.2 = setF g l 0 0) (0, 0) (by simp) (.to [0, 1, 2, 3, 4, 5] (by simp [hp47, low6, -lowTo])) ?_
    rintro ⟨i, a⟩ ⟨hi, ha, hs⟩ N1 Q1 hN1 hE1
    simp only at hi ha hs ⊢
    rcases Nat.lt_or_ge i l.length with g1 | g1
    · obtain ⟨d, r, e1, e2, e3, e4, e5⟩ := drop_split g1
      rw [e1] at hs
      simp only [setF] at hs
      have hi4 : i < 4 := by omega
      have hi5 : i < 5 := by omega
      have ha16 : a < 16 := by
        have : 2 ^ i ≤ 2 ^ 4 := Nat.pow_le_pow_right (by omega) (by omega)
        omega
      have hit : i < t.length := by omega
      have ha1 : a < 2 ^ (i + 1) := Nat.lt_of_lt_of_le ha (Nat.pow_le_pow_right (by omega) (by omega))
      have ho1 : a ||| 2 ^ i < 2 ^ (i + 1) := Nat.or_lt_two_pow ha1 (Nat.pow_lt_pow_right (by omega) (by omega))
      have hsh := fun x y => shlI x y hi5
      have hor := fun x y => orI x y ha16 hi4
      generalize 2 ^ i = p at *
      generalize a ||| p = q at *
      by_cases hd : d = g
      · rw [if_pos hd] at hs
        delta p47_l0 p47_r7 p47_r8 p47_r9 p47_r10 p47_r11
        simp (disch := omega) [oLt, oLe, oLtN, oLeN, nLt, nLe, nLtN, nLeN, hp47, g1, hit, e2, e3, hd, hsh, hor]
        refine hN1 _ (i + 1, q) (by simp only; omega) ⟨g1, ho1, by simp only [e4]; exact hs⟩ (.to [0, 1, 2, 3, 4, 5] (by simp [hp47, low6, -lowTo]))
      · rw [if_neg hd] at hs
        delta p47_l0 p47_r7 p47_r8 p47_r9 p47_r10 p47_r11
        simp (disch := omega) [oLt, oLe, oLtN, oLeN, nLt, nLe, nLtN, nLeN, hp47, g1, hit, e2, e3, hd]
        refine hN1 _ (i + 1, a) (by simp only; omega) ⟨g1, ha1, by simp only [e4]; exact hs⟩ (.to [0, 1, 2, 3, 4, 5] (by simp [hp47, low6, -lowTo]))
    · have g1' : ¬ i < t.length := by omega
      have hil : i = t.length := by omega
      subst hil
      rw [List.drop_eq_nil_of_le g1] at hs
      simp only [setF] at hs
      have hos := own_set (g := (g : Int)) hlen h4
      rw [← hs] at hos
      have hpos : 0 < a := by
        rcases Nat.eq_zero_or_pos a with h0 | h0
        · exfalso
          have hmem := hrg g (by omega) (by omega)
          have hne := (own_ne (g := (g : Int)) hlen).2 (List.contains_iff_mem.2 hmem)
          rw [← hos, h0] at hne
          refine hne ?_
          have : ∀ (t : List Int) (i : Nat), ownS 0 t i = [] := fun t => by
            induction t with
            | nil => intro i; rfl
            | cons y r ih => intro i; simp [ownS, ih]
          exact this _ _
        · exact h0
      have hev := evL_get hpos ha
      rw [hos] at hev
      have hel := evL_len t (2 ^ t.length)
      have hael : a < (evL t (2 ^ t.length)).length := by omega
      have hev' : (evL t (2 ^ t.length))[a] = canB (grpL l t g) := (List.getElem?_eq_some_iff.1 hev).2
      have fin : ∀ c', c' = (c && canB (grpL l t g)) → ∀ s', ChgT 6 s' ⟨[(0, .ref 0 0 t.length 1 none), (1, vI X), (3, .ptr 2 0), (4, .ptr 3 0), (5, .ptr 4 0), (9, vB c'), (19, vI X), (20, vI ((g + 1 : Nat) : Int))], hp47 t l fw b u, 6⟩ → N s' := fun c' hc' s' hh =>
        hN s' (g + 1, c') (by simp only; omega) ⟨h, by simp only [hm', hc', Bool.and_assoc]; exact hc⟩ hh
      delta p47_l0 p47_r7 p47_r8 p47_r9 p47_r10 p47_r11
      simp (disch := omega) [oLt, oLe, oLtN, oLeN, nLt, nLe, nLtN, nLeN, hp47, g1']
      refine hE1 _ _ _ .refl ?_
      cases c with
      | false =>
        delta p47_r12 p47_r13
        simp (disch := omega) [oLt, oLe, oLtN, oLeN, nLt, nLe, nLtN, nLeN, hp47]
        exact fin false (by simp) _ (.to [0, 1, 2, 3, 4, 5] (by simp [hp47, low6, -lowTo]))
      | true =>
        delta p47_r12 p47_r13
        have hai : (a : Int) < 2 ^ t.length := by have := Int.ofNat_lt.2 ha; simpa using this
        simp (disch := omega) [oLt, oLe, oLtN, oLeN, nLt, nLe, nLtN, nLeN, hp47, hev, hev', hael, ha, hel, hai]
        exact fin (canB (grpL l t g)) (by simp) _ (.to [0, 1, 2, 3, 4, 5] (by simp [hp47, low6, -lowTo]))
  · have h' : ¬ g < X := by omega
    have hgz : X - g = 0 := by omega
    rw [hgz] at hc
    simp only [rest, List.all_nil, Bool.and_true] at hc
    subst hc
    delta p47_l1 p47_r3 p47_r4 p47_r5 p47_r6
    simp (disch := omega) [oLt, oLe, oLtN, oLeN, nLt, nLe, nLtN, nLeN, hp47, h']
    refine hE _ _ _ .refl ?_
    cases hgd : goodF t l with
    | false =>
      rw [hgd] at hR
      simp only [Bool.false_eq_true, false_and, if_false] at hR
      rw [hR] at hQ
      simp only [Option.none_or] at hQ
      delta p47_r14 p47_r15 p47_r16
      simp (disch := omega) [oLt, oLe, oLtN, oLeN, nLt, nLe, nLtN, nLeN, hp47]
      exact hQ _ _ (EndsP_on [0, 1, 2, 3, 4, 5] (.inl rfl) (by simp) rfl (by simp) rfl (by simp [ho47]))
    | true =>
      rw [hgd] at hR
      by_cases hfw : (X : Int) < fw
      · rw [if_pos ⟨rfl, hfw⟩] at hR
        rw [hR] at hQ
        simp only [Option.some_or] at hQ
        delta p47_r14 p47_r15 p47_r16
        simp (disch := omega) [oLt, oLe, oLtN, oLeN, nLt, nLe, nLtN, nLeN, hp47, hfw]
        refine hQ _ _ (.chg (.frz 0 (cs := ints l) (by simp) (by simp) .refl) (EndsP_on [0, 1, 2, 3, 4, 5] (.inl rfl) (by simp) rfl (by simp) rfl (by simp [ho47, bO, hlen, List.take_of_length_le (show l.length ≤ t.length by omega)])))
      · rw [if_neg (fun e => hfw e.2)] at hR
        rw [hR] at hQ
        simp only [Option.none_or] at hQ
        delta p47_r14 p47_r15 p47_r16
        simp (disch := omega) [oLt, oLe, oLtN, oLeN, nLt, nLe, nLtN, nLeN, hp47, hfw]
        exact hQ _ _ (EndsP_on [0, 1, 2, 3, 4, 5] (.inl rfl) (by simp) rfl (by simp) rfl (by simp [ho47]))

set_option maxHeartbeats 4000000 in
theorem put47_node {t : List Int} {f : Nat} (ih : (put47 t f).ok Try.prog) {l : List Int} {x fw : Int} {b : Option (List Int)} {u : Bool} (hg : g47 (f + 1) t l x = true) (hl0 : 0 < l.length) (hlen : ¬ l.length = t.length) :
    Runs Try.prog 47 6 [.ref 0 0 l.length 1 none, vI x, .ptr 1 0, .ptr 2 0, .ptr 3 0, .ptr 4 0, .ptr 5 0] (hpF (hp47 t l fw b u)) (.tup []) 6 (hpF (ho47 t (R47 t l fw).2 ((R47 t l fw).1.or b) u)) := by
  obtain ⟨h4, hlt, hf, hx, hal, hnl, hrg⟩ := g47_iff.1 hg
  obtain ⟨X, hX⟩ := Int.eq_ofNat_of_zero_le (nextL_nonneg l)
  have hxX : x = X := by omega
  subst hxX
  have hX4 : X ≤ 4 := by omega
  obtain ⟨r, hr⟩ : ∃ r, t.length - l.length = r + 1 := ⟨t.length - l.length - 1, by omega⟩
  have hR := R47_node (fw := fw) hr hX
  generalize R47 t l fw = R at *
  refine P47.rz (ss := [s48, put47 t f]) ⟨s48_ok, ih, trivial⟩ (by simp) fun Q hQ => ?_
  have hlc : ¬ (l.length : Int) = t.length := by omega
  delta p47 p47_r0 p47_r16
  simp (disch := omega) [oLt, oLe, oLtN, oLeN, nLt, nLe, nLtN, nLeN, hp47, hlen, hlc]
  refine XZ_for (fun p : Nat × Int × Option (List Int) => ⟨[(0, .ref 0 0 l.length 1 none), (1, vI X), (6, .ptr 5 0), (14, vI p.1)], hp47 t l p.2.1 p.2.2 u, 6⟩) (fun p => X + 1 - p.1) (fun p => p.1 ≤ X + 1 ∧ (bstO (goodF t) nextL ((rest p.1 (X + 1 - p.1)).flatMap fun g => divs r (l ++ [g])) p.2.1).2 = R.2 ∧ (bstO (goodF t) nextL ((rest p.1 (X + 1 - p.1)).flatMap fun g => divs r (l ++ [g])) p.2.1).1.or p.2.2 = R.1.or b) (0, fw, b) ⟨by simp, by simp [hR], by simp [hR]⟩ (.to [0, 1, 2, 3, 4, 5] (by simp [hp47, low6, -lowTo])) ?_
  rintro ⟨g, w, o⟩ ⟨hgX, h1, h2⟩ N Q' hN hE
  simp only at hgX h1 h2 ⊢
  rcases Nat.lt_or_ge g (X + 1) with h | h
  · obtain ⟨m, hm⟩ : ∃ m, X + 1 - g = m + 1 := ⟨X - g, by omega⟩
    have hm' : X + 1 - (g + 1) = m := by omega
    rw [hm] at h1 h2
    simp only [rest, List.flatMap_cons, bstO_app] at h1 h2
    have hr' : t.length - (l ++ [(g : Int)]).length = r := by simp; omega
    have hR' : R47 t (l ++ [(g : Int)]) w = bstO (goodF t) nextL (divs r (l ++ [(g : Int)])) w := by unfold R47; rw [hr']
    rw [← hR'] at h1 h2
    have hgc : (g : Int) ≤ X := by omega
    have hnx : nextL (l ++ [(g : Int)]) = max (X : Int) (g + 1) := by rw [nextL_app, hX]
    have hg' : g47 f t (l ++ [(g : Int)]) (max (X : Int) (g + 1)) = true := by
      rw [g47_iff]
      refine ⟨h4, by simp; omega, by rw [hr']; omega, hnx.symm, fun y hy => ?_, ?_, rgB_app hrg (by omega) (by omega)⟩
      · rw [List.mem_append, List.mem_singleton] at hy
        rcases hy with hy | rfl
        · exact hal y hy
        · omega
      · rw [hnx]; simp only [List.length_append, List.length_singleton]; omega
    have fin : ∀ s', ChgT 6 s' ⟨[(0, .ref 0 0 l.length 1 none), (1, vI X), (6, .ptr 5 0), (14, vI ((g + 1 : Nat) : Int))], hp47 t l (R47 t (l ++ [(g : Int)]) w).2 ((R47 t (l ++ [(g : Int)]) w).1.or o) u, 6⟩ → N s' := fun s' hh =>
      hN s' (g + 1, _, _) (by simp only; omega) ⟨h, by simp only [hm']; exact h1, by simp only [hm']; rw [← h2]; exact Option.or_assoc.symm⟩ hh
    have hmx : max (X : Int) (g + 1) = if (X : Int) < g + 1 then (g : Int) + 1 else X := by split <;> omega
    rw [hmx] at hg'
    have hG : G47 t f [.ref 0 0 (l.length + 1) 1 none, vI (if (X : Int) < g + 1 then (g : Int) + 1 else X), .ptr 1 0, .ptr 2 0, .ptr 3 0, .ptr 4 0, .ptr 5 0] [(0, .cells (ints l ++ [vI g])), (1, .cells [vI t.length]), (2, .cells [.il (bls (evL t (2 ^ t.length))) (2 ^ t.length) u]), (3, .cells [vI w]), (4, .cells [bO o]), (5, .cells [.fn (.func 47) [] [.ptr 1 0, .ptr 2 0, .ptr 3 0, .ptr 4 0, .ptr 5 0]])] 6 = some (.tup [], ho47 t (R47 t (l ++ [(g : Int)]) w).2 ((R47 t (l ++ [(g : Int)]) w).1.or o) u, 6) := by
      generalize (if (X : Int) < g + 1 then (g : Int) + 1 else X) = mx at *
      simp [G47, hg']
    generalize R47 t (l ++ [(g : Int)]) w = R' at *
    delta p47_l2 p47_r17 p47_r18 p47_r19
    simp (disch := omega) [oLt, oLe, oLtN, oLeN, nLt, nLe, nLtN, nLeN, hp47, hgc, f48, hG, ho47]
    exact fin _ (.to [0, 1, 2, 3, 4, 5] (by simp [hp47, low6, -lowTo]))
  · have h' : ¬ (g : Int) ≤ X := by omega
    have hgz : X + 1 - g = 0 := by omega
    rw [hgz] at h1 h2
    simp only [rest, List.flatMap_nil, bstO, Option.none_or] at h1 h2
    subst h1 h2
    delta p47_l2 p47_r17 p47_r18 p47_r19
    simp (disch := omega) [oLt, oLe, oLtN, oLeN, nLt, nLe, nLtN, nLeN, hp47, h']
    refine hE _ _ _ .refl ?_
    exact hQ _ _ (EndsP_on [0, 1, 2, 3, 4, 5] (.inr rfl) (by simp) rfl (by simp) rfl (by simp [ho47]))
theorem put47_ok (t : List Int) : ∀ f, (put47 t f).ok Try.prog
  | 0 => by
    intro args h k r h' k' hh
    simp only [put47_f, G47] at hh
    split at hh
    · split at hh
      · split at hh
        · split at hh
          · split at hh
            · rename_i hc
              have := (g47_iff.1 hc.2.2.2.2.1).2.2.1
              omega
            · cases hh
          · cases hh
        · cases hh
      · cases hh
    · cases hh
  | f + 1 => by
    have ih := put47_ok t f
    intro args h k r h' k' hh
    simp only [put47_f, G47] at hh
    split at hh
    · split at hh
      · rename_i l hl
        split at hh
        · rename_i E hE
          split at hh
          · rename_i b hb
            split at hh
            · rename_i hc
              obtain ⟨rfl, rfl, rfl, rfl, hg, hl0⟩ := hc
              cases hh
              rw [unints_inv hl, unbls_inv hE, dbO_inv hb]
              simp only [hp_eq]
              by_cases hlen : l.length = t.length
              · exact put47_leaf hg hl0 hlen
              · exact put47_node ih hg hl0 hlen
            · cases hh
          · cases hh
        · cases hh
      · cases hh
    · cases hh
end Go.Sx.Wk
