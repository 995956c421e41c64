/- What functions of the walk layer return: Groups of the specification. No conditions. -/
import Derived.Test.YtmakepdccccmaaaSxJO1toO3
set_option linter.unusedVariables false
set_option linter.unusedSimpArgs false
namespace Go.Sx.Wk
open Go Go.Sx Go.Proofs

def bA : List Int → AV
  | [] => .v (.slice none 0 0)
  | x :: r => .il (ints (x :: r)) (x :: r).length false
@[simp] theorem bA_nil : bA [] = .v (.slice none 0 0) := rfl
@[simp] theorem ren_bA (g : Nat → Nat) (b : List Int) : ren g (bA b) = bA b := by cases b <;> simp [bA]
def grpV (t : List Int) : AV := if chk t = 0 then .tup [.il (ints (best t).1) (best t).1.length false, vI 0] else .tup [.il [] 0 false, vI (chk t)]
theorem grp_ok8 {d t : List Int} {g : Int} (ht : ok8 t = true) (h4 : t.length ≤ 4) : g78 (grpL d t g) = true := by
  have h8 := ok8_iff.1 ht
  have := own_len (l := d) (t := t) (g := g)
  simp only [g78, Bool.and_eq_true, decide_eq_true_eq]
  exact ⟨ok8_iff.2 fun y hy => h8 y (own_mem hy), by omega⟩
theorem grp_drop {d t : List Int} {g : Int} {s : Nat} {x y : Int} {r q : List Int} (hd : d.drop s = x :: r) (ht : t.drop s = y :: q) : grpL (d.drop s) (t.drop s) g = if x = g then y :: grpL r q g else grpL r q g := by
  rw [hd, ht]; rfl
set_option maxRecDepth 4000
@[simp] theorem grpL_nil (t : List Int) (g : Int) : grpL [] t g = [] := by cases t <;> rfl
@[simp] theorem grpL_nil' (d : List Int) (g : Int) : grpL d [] g = [] := by cases d <;> rfl
set_option maxHeartbeats 4000000
def s37 : Sp := spT 37 [.l] fun (t : List Int) => res (small t) (grpV t)
@[simp] theorem s37_g : s37.g = 37 := rfl
@[simp] theorem s37_f : s37.f = (spT 37 [.l] fun (t : List Int) => res (small t) (grpV t)).f := rfl
theorem s37_ok : s37.ok Try.prog := by
  apply spT_ok
  simp only [OkT, Ty.all, List.nil_append, List.cons_append]
  intro (t : List Int) ut
  apply okT_res; intro hst
  refine P37.rz (ss := [s24, s56, s71]) ⟨s24_ok, s56_ok, s71_ok, trivial⟩ (by simp) fun Q hQ => ?_
  delta p37 p37_r0 p37_r1 p37_r2 p37_r3 p37_r4 p37_r5 p37_r6 p37_r7
  by_cases hc : chk t = 0
  case neg =>
    simp (disch := omega) [oLt, oLe, oLtN, oLeN, nLt, nLe, nLtN, nLeN, hst, hc]
    exact hQ _ _ (.fz [2, 3] _ (.inl rfl) (by simp; rfl) (by simp [grpV, hc]) (by simp [grpV, hc]))
  obtain ⟨ht, h4, hne⟩ := chk_facts hc
  have ht8 := ok8_iff.1 ht
  obtain ⟨d1, d2, d3⟩ := divs_ok t.length (n14 hne h4)
  obtain ⟨mB, q1, q2, q3, q4, q5, q6⟩ := best_put ht h4 hne
  have hg71 : g71 5 t.length [] 0 = true := by
    simp only [g71, Bool.and_eq_true, decide_eq_true_eq]
    refine ⟨⟨⟨⟨by omega, by simp⟩, by simp; omega⟩, rfl⟩, by simp [nextL]⟩
  have hD : D71 t.length [] = divs t.length [] := by simp [D71]
  have hb0 : bst canB t (divs t.length []) ([], (t.length : Int) + 1) = best t := rfl
  have hDl : (divs t.length []).length ≤ 625 := by
    have := divs_len t.length [] (by simp [nextL]) (by simpa using h4)
    have hp5 : 5 ^ t.length ≤ 5 ^ 4 := Nat.pow_le_pow_right (by omega) h4
    omega
  have hdd : ∀ d ∈ divs t.length [], d.length = t.length := fun d hd => (d1 d hd).2.2.2
  generalize divs t.length [] = D at *
  clear d1 d2 d3 q4 q6
  simp (disch := omega) [oLt, oLe, oLtN, oLeN, nLt, nLe, nLtN, nLeN, hst, hc, hg71, hD]
  refine XZ_for (fun p : Nat × List Int × Int => ⟨[(0, .il (ints t) t.length ut), (5, bA p.2.1), (6, vI p.2.2), (7, .il (lls D) D.length false), (8, vI p.1)], [], 0⟩) (fun p => D.length - p.1) (fun p => p.1 ≤ D.length ∧ bst canB t (D.drop p.1) p.2 = best t) (0, [], (t.length : Int) + 1) ⟨by simp, by simpa using hb0⟩ (.to [] (by simp)) ?_
  rintro ⟨i, b, f⟩ ⟨hi, hb⟩ N Q' hN hE
  simp only at hi hb ⊢
  rcases Nat.lt_or_ge i D.length with h | h
  · obtain ⟨d, dr, e1, e2, e3, e4, e5⟩ := drop_split h
    have hdl := hdd d e5
    rw [e1] at hb
    simp only [bst] at hb
    -- a group: its stretches
    have inner : ∀ (g : Nat) (m : Int) (fi : Bool) (s0 : ST) (Q2 : Exit → ST → Prop), ChgT 0 s0 ⟨[(0, .il (ints t) t.length ut), (5, bA b), (6, vI f), (7, .il (lls D) D.length false), (8, vI i), (9, vI m), (10, vB fi), (11, vI g), (12, .v (.slice none 0 0)), (13, vI ((0 : Nat) : Int))], [], 0⟩ →
        (Q2 (.exit 4) ⟨[(0, .il (ints t) t.length ut), (5, bA b), (6, vI f), (7, .il (lls D) D.length false), (8, vI i), (9, vI m), (10, vB fi), (11, vI g), (12, ow 0 (grpL d t g))], owh 0 (grpL d t g) [], own (grpL d t g) 0⟩) → XZ (rZ (spc [s24, s56, s71])) 0 (.loop p37_l0) s0 Q2 := by
      intro g m fi s0 Q2 hs0 hq
      refine XZ_for (fun p : Nat × List Int => ⟨[(0, .il (ints t) t.length ut), (5, bA b), (6, vI f), (7, .il (lls D) D.length false), (8, vI i), (9, vI m), (10, vB fi), (11, vI g), (12, ow 0 p.2), (13, vI p.1)], owh 0 p.2 [], own p.2 0⟩) (fun p => t.length - p.1) (fun p => p.1 ≤ t.length ∧ p.2.length ≤ p.1 ∧ p.2 ++ grpL (d.drop p.1) (t.drop p.1) g = grpL d t g) (0, []) ⟨by simp, by simp, by simp⟩ hs0 ?_
      rintro ⟨s, acc⟩ ⟨hs, ha, hp⟩ N2 Q3 hN2 hE2
      simp only at hs ha hp ⊢
      rcases Nat.lt_or_ge s t.length with h1 | h1
      · obtain ⟨y, q, y1, y2, y3, y4, y5⟩ := drop_split h1
        have h1d : s < d.length := by omega
        obtain ⟨x, r, x1, x2, x3, x4, x5⟩ := drop_split h1d
        rw [grp_drop x1 y1] at hp
        by_cases hx : x = g
        · rw [if_pos hx] at hp
          have fin : ∀ s', ChgT 0 s' ⟨[(0, .il (ints t) t.length ut), (5, bA b), (6, vI f), (7, .il (lls D) D.length false), (8, vI i), (9, vI m), (10, vB fi), (11, vI g), (12, ow 0 (acc ++ [y])), (13, vI ((s + 1 : Nat) : Int))], owh 0 (acc ++ [y]) [], own (acc ++ [y]) 0⟩ → N2 s' := fun s' hh =>
            hN2 s' (s + 1, acc ++ [y]) (by simp only; omega) ⟨h1, by simp; omega, by simp only [x4, y4]; rw [← hp]; simp⟩ hh
          rcases acc with _ | ⟨a0, ar⟩
          · delta p37_l0 p37_r15 p37_r16 p37_r17 p37_r18
            simp (disch := omega) [oLt, oLe, oLtN, oLeN, nLt, nLe, nLtN, nLeN, h, h1, h1d, hdl, e2, e3, x2, x3, y2, y3, hx]
            exact fin _ (.tot [12] (by simp))
          · simp only [List.length_cons] at ha
            delta p37_l0 p37_r15 p37_r16 p37_r17 p37_r18
            simp (disch := omega) [oLt, oLe, oLtN, oLeN, nLt, nLe, nLtN, nLeN, h, h1, h1d, hdl, e2, e3, x2, x3, y2, y3, hx]
            exact fin _ (.tot [12] (by simp))
        · rw [if_neg hx] at hp
          rcases acc with _ | ⟨a0, ar⟩
          · delta p37_l0 p37_r15 p37_r16 p37_r17 p37_r18
            simp (disch := omega) [oLt, oLe, oLtN, oLeN, nLt, nLe, nLtN, nLeN, h, h1, h1d, hdl, e2, e3, x2, x3, y2, y3, hx]
            exact hN2 _ (s + 1, []) (by simp only; omega) ⟨h1, by simp, by simp only [x4, y4]; exact hp⟩ (.to [] (by simp))
          · delta p37_l0 p37_r15 p37_r16 p37_r17 p37_r18
            simp (disch := omega) [oLt, oLe, oLtN, oLeN, nLt, nLe, nLtN, nLeN, h, h1, h1d, hdl, e2, e3, x2, x3, y2, y3, hx]
            exact hN2 _ (s + 1, a0 :: ar) (by simp only; omega) ⟨h1, by simp only [List.length_cons] at ha ⊢; omega, by simp only [x4, y4]; exact hp⟩ (.tot [12] (by simp))
      · have h1' : ¬ s < t.length := by omega
        rw [List.drop_eq_nil_of_le h1] at hp
        simp only [grpL_nil', List.append_nil] at hp
        rw [← hp] at hq
        rcases acc with _ | ⟨a0, ar⟩
        · delta p37_l0 p37_r15 p37_r16 p37_r17 p37_r18
          simp (disch := omega) [oLt, oLe, oLtN, oLeN, nLt, nLe, nLtN, nLeN, h1']
          exact hE2 _ _ _ (.to [] (by simp)) hq
        · delta p37_l0 p37_r15 p37_r16 p37_r17 p37_r18
          simp (disch := omega) [oLt, oLe, oLtN, oLeN, nLt, nLe, nLtN, nLeN, h1']
          exact hE2 _ _ _ (.tot [12] (by simp)) hq
    -- all groups
    have mid : ∀ (s0 : ST) (Q2 : Exit → ST → Prop), ChgT 0 s0 ⟨[(0, .il (ints t) t.length ut), (5, bA b), (6, vI f), (7, .il (lls D) D.length false), (8, vI i), (9, vI 0), (10, vB true), (11, vI ((0 : Nat) : Int))], [], 0⟩ →
        (Q2 (.exit 2) ⟨[(0, .il (ints t) t.length ut), (5, bA b), (6, vI f), (7, .il (lls D) D.length false), (8, vI i), (9, vI (scr canB d t t.length 0 true).1), (10, vB (scr canB d t t.length 0 true).2)], [], 0⟩) → XZ (rZ (spc [s24, s56, s71])) 0 (.loop p37_l1) s0 Q2 := by
      intro s0 Q2 hs0 hq
      refine XZ_for (fun p : Nat × Nat × Bool => ⟨[(0, .il (ints t) t.length ut), (5, bA b), (6, vI f), (7, .il (lls D) D.length false), (8, vI i), (9, vI p.2.1), (10, vB p.2.2), (11, vI p.1)], [], 0⟩) (fun p => t.length - p.1) (fun p => p.1 ≤ t.length ∧ p.2.1 ≤ p.1 ∧ scr canB d t (t.length - p.1) p.2.1 p.2.2 = scr canB d t t.length 0 true) (0, 0, true) ⟨by simp, by simp, by simp⟩ hs0 ?_
      rintro ⟨g, m, fi⟩ ⟨hg, hm, hp⟩ N2 Q3 hN2 hE2
      simp only at hg hm hp ⊢
      rcases Nat.lt_or_ge g t.length with h1 | h1
      · obtain ⟨r, hr⟩ : ∃ r, t.length - g = r + 1 := ⟨t.length - g - 1, by omega⟩
        have hgr : t.length - (r + 1) = g := by omega
        have hr' : t.length - (g + 1) = r := by omega
        rw [hr] at hp
        simp only [scr, hgr] at hp
        have h78 := grp_ok8 (d := d) (g := g) ht h4
        have hin := inner g m fi
        generalize grpL d t g = G at *
        rcases G with _ | ⟨G0, Gr⟩
        · rw [if_pos rfl] at hp
          delta p37_l1 p37_r12 p37_r13 p37_r14
          simp (disch := omega) [oLt, oLe, oLtN, oLeN, nLt, nLe, nLtN, nLeN, h1]
          refine hin _ _ (.to [] (by simp)) ?_
          delta p37_r19 p37_r20 p37_r21 p37_r22
          simp (disch := omega) [oLt, oLe, oLtN, oLeN, nLt, nLe, nLtN, nLeN]
          exact hN2 _ (g + 1, m, fi) (by simp only; omega) ⟨h1, by simp only; omega, by simp only [hr']; exact hp⟩ (.to [] (by simp))
        · rw [if_neg (by simp)] at hp
          delta p37_l1 p37_r12 p37_r13 p37_r14
          simp (disch := omega) [oLt, oLe, oLtN, oLeN, nLt, nLe, nLtN, nLeN, h1]
          refine hin _ _ (.to [] (by simp)) ?_
          delta p37_r19 p37_r20 p37_r21 p37_r22
          cases fi with
          | true =>
            simp (disch := omega) [oLt, oLe, oLtN, oLeN, nLt, nLe, nLtN, nLeN, h78]
            exact hN2 _ (g + 1, m + 1, canB (G0 :: Gr)) (by simp only; omega) ⟨h1, by simp only; omega, by simp only [hr']; simpa using hp⟩ (.to [] (by simp))
          | false =>
            simp (disch := omega) [oLt, oLe, oLtN, oLeN, nLt, nLe, nLtN, nLeN, h78]
            exact hN2 _ (g + 1, m + 1, false) (by simp only; omega) ⟨h1, by simp only; omega, by simp only [hr']; simpa using hp⟩ (.to [] (by simp))
      · have h1' : ¬ g < t.length := by omega
        have h0 : t.length - g = 0 := by omega
        rw [h0] at hp
        simp only [scr] at hp
        rw [← hp] at hq
        delta p37_l1 p37_r12 p37_r13 p37_r14
        simp (disch := omega) [oLt, oLe, oLtN, oLeN, nLt, nLe, nLtN, nLeN, h1']
        exact hE2 _ _ _ (.to [] (by simp)) hq
    have hdne : d ≠ [] := fun e => by
      rw [e] at hdl; exact hne (List.length_eq_zero_iff.1 hdl.symm)
    obtain ⟨x0, xr, hdx⟩ : ∃ x0 xr, d = x0 :: xr := by
      cases d with
      | nil => exact absurd rfl hdne
      | cons a r => exact ⟨a, r, rfl⟩
    have hbA : bA d = .il (ints d) d.length false := by rw [hdx]; rfl
    delta p37_l2 p37_r8 p37_r9 p37_r10 p37_r11
    simp (disch := omega) [oLt, oLe, oLtN, oLeN, nLt, nLe, nLtN, nLeN, h]
    refine mid _ _ (.to [] (by simp)) ?_
    delta p37_r23 p37_r24 p37_r25
    generalize scr canB d t t.length 0 true = R at *
    obtain ⟨m, fi⟩ := R
    simp only at hb ⊢
    cases fi with
    | false =>
      simp only [Bool.false_and, Bool.false_eq_true, if_false] at hb
      simp (disch := omega) [oLt, oLe, oLtN, oLeN, nLt, nLe, nLtN, nLeN]
      exact hN _ (i + 1, b, f) (by simp only; omega) ⟨h, by simp only [e4]; exact hb⟩ (.to [] (by simp))
    | true =>
      by_cases hlt : m < f
      · simp only [Bool.true_and, decide_eq_true_eq, hlt, if_true] at hb
        simp (disch := omega) [oLt, oLe, oLtN, oLeN, nLt, nLe, nLtN, nLeN, hlt, h, e2, e3]
        exact hN _ (i + 1, d, m) (by simp only; omega) ⟨h, by simp only [e4]; exact hb⟩ (.to [] (by simp [hbA, hdl]))
      · simp only [Bool.true_and, decide_eq_true_eq, hlt, if_false] at hb
        simp (disch := omega) [oLt, oLe, oLtN, oLeN, nLt, nLe, nLtN, nLeN, hlt]
        exact hN _ (i + 1, b, f) (by simp only; omega) ⟨h, by simp only [e4]; exact hb⟩ (.to [] (by simp))
  · have h' : ¬ i < D.length := by omega
    rw [List.drop_eq_nil_of_le h] at hb
    simp only [bst] at hb
    have hbb : (best t).1 = b := by rw [← hb]
    rw [hbb] at q5
    rcases b with _ | ⟨b0, br⟩
    · simp at q5; exact absurd (List.length_eq_zero_iff.1 q5.symm) hne
    · delta p37_l2 p37_r8 p37_r9 p37_r10 p37_r11
      simp (disch := omega) [oLt, oLe, oLtN, oLeN, nLt, nLe, nLtN, nLeN, h']
      refine hE _ _ _ .refl ?_
      delta p37_r26
      simp (disch := omega) [oLt, oLe, oLtN, oLeN, nLt, nLe, nLtN, nLeN, bA]
      exact hQ _ _ (.fz [2, 3] _ (.inl rfl) (by simp; rfl) (by simp [grpV, hc, hbb]) (by simp [grpV, hc]))
end Go.Sx.Wk
