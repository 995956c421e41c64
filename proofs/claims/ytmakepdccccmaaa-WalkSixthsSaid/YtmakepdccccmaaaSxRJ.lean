/- What functions of the library return: slices.Grow, Concat, of numbers. No conditions. -/
import Derived.Test.YtmakepdccccmaaaSxJQMtoQN
import Derived.Test.YtmakepdccccmaaaSxJPd14toPd72
import Derived.Test.YtmakepdccccmaaaSxPe
set_option linter.unusedVariables false
set_option linter.unusedSimpArgs false
namespace Go.Sx.Wk
open Go Go.Sx Go.Proofs

/-- Room for so many numbers. -/
def f76 : List AV → HL → Nat → Option (AV × HL × Nat) := fun args h k => match args, h, k with
  | [.v (.slice none 0 0), .v (.int .i64 n)], [], 0 => if n = 0 then some (.v (.slice none 0 0), [], 0) else
    if 0 < n ∧ n ≤ 1000000 then some (.ref 0 0 0 1 none, [(0, .cells (ints (List.replicate n.toNat 0)))], 1) else none
  | _, _, _ => none
def s76 : Sp := ⟨76, f76⟩
@[simp] theorem s76_g : s76.g = 76 := rfl
@[simp] theorem s76_f : s76.f = f76 := rfl
theorem ints_rep (n : Nat) : List.replicate n (AV.v (.int .i64 0)) = ints (List.replicate n 0) := by simp [ints]
theorem s76_ok : s76.ok Try.prog := by
  intro args h k r h' k' hh
  simp only [s76_f, f76] at hh
  split at hh
  · rename_i n
    split at hh
    · rename_i hn
      subst hn
      cases hh
      simp only [hp_eq]
      refine P76.rz (ss := []) trivial (by simp) fun Q hQ => ?_
      delta p76 p76_r0 p76_r1 p76_r2 p76_r3 p76_r4 p76_r5 p76_r6
      simp (disch := omega) [oLt, oLe, oLtN, oLeN, nLt, nLe, nLtN, nLeN]
      exact hQ _ _ (.same (.inl rfl) (by simp) rfl rfl rfl (by simp))
    · split at hh
      · rename_i h0 hn
        cases hh
        obtain ⟨m, rfl⟩ := Int.eq_ofNat_of_zero_le (show 0 ≤ n by omega)
        obtain ⟨m, rfl⟩ : ∃ j, m = j + 1 := ⟨m - 1, by omega⟩
        simp only [hp_eq]
        refine P76.rz (ss := []) trivial (by simp) fun Q hQ => ?_
        delta p76 p76_r0 p76_r1 p76_r2 p76_r3 p76_r4 p76_r5 p76_r6
        have hm1 : ((m + 1 : Nat) : Int).toNat = m + 1 := by omega
        rw [hm1] at hQ
        simp (disch := omega) [oLt, oLe, oLtN, oLeN, nLt, nLe, nLtN, nLeN, ints_rep, -List.reduceReplicate]
        exact hQ _ _ (EndsP_at [18] (.inl rfl) (by simp) rfl (by simp) rfl (by simp))
      · cases hh
  · cases hh

theorem splice_app {acc x : List Int} {m : Nat} (h : x.length ≤ m) : splice (ints (acc ++ List.replicate m 0)) acc.length (ints x) = ints (acc ++ x ++ List.replicate (m - x.length) 0) := by
  have e1 : (ints (acc ++ List.replicate m 0)).take acc.length = ints acc := by
    rw [ints_app, List.take_left' (by simp)]
  have e2 : (ints (acc ++ List.replicate m 0)).drop (acc.length + (ints x).length) = ints (List.replicate (m - x.length) 0) := by
    rw [ints_app, ← List.drop_drop, List.drop_left' (by simp)]
    simp [ints]
  simp only [splice]
  rw [e1, e2, ints_app, ints_app]
def catL (L : List (List Int)) : List Int := L.flatten
theorem catL_cons (x : List Int) (L : List (List Int)) : catL (x :: L) = x ++ catL L := by simp [catL]
theorem catL_nil : catL [] = [] := rfl
def s51 : Sp := spT 51 [.ll] fun (L : List (List Int)) => res (decide (L.length ≤ 1000) && decide ((catL L).length ≤ 1000000)) (.il (ints (catL L)) (catL L).length false)
@[simp] theorem s51_g : s51.g = 51 := rfl
@[simp] theorem s51_f : s51.f = (spT 51 [.ll] fun (L : List (List Int)) => res (decide (L.length ≤ 1000) && decide ((catL L).length ≤ 1000000)) (.il (ints (catL L)) (catL L).length false)).f := rfl
set_option maxHeartbeats 1000000 in
theorem s51_ok : s51.ok Try.prog := by
  apply spT_ok
  simp only [OkT, Ty.all, List.nil_append, List.cons_append]
  intro (L : List (List Int)) u
  apply okT_res; intro hs
  refine P51.rz (ss := [s76]) ⟨s76_ok, trivial⟩ (by simp) fun Q hQ => ?_
  delta p51 p51_r0 p51_r1 p51_r2
  simp only [Bool.and_eq_true, decide_eq_true_eq] at hs
  obtain ⟨hL, hF⟩ := hs
  simp (disch := omega) [oLt, oLe, oLtN, oLeN, nLt, nLe, nLtN, nLeN]
  refine XZ_for (fun p : Nat × Nat => ⟨[(0, .il (lls L) L.length u), (3, vI p.2), (9, .il (lls L) L.length u), (10, vI L.length), (11, vI p.1)], [], 0⟩) (fun p => L.length - p.1) (fun p => p.1 ≤ L.length ∧ p.2 + (catL (L.drop p.1)).length = (catL L).length) (0, 0) (by simp) (.to [] (by simp)) ?_
  rintro ⟨i, c⟩ ⟨hi, hc⟩ N Q' hN hE
  simp only at hi hc ⊢
  rcases Nat.lt_or_ge i L.length with h | h
  · obtain ⟨x, r, e1, e2, e3, e4, e5⟩ := drop_split h
    rw [e1, catL_cons, List.length_append] at hc
    delta p51_l0 p51_r3 p51_r4 p51_r5 p51_r6 p51_r7 p51_r8
    have h0 : ¬ (c : Int) + x.length < 0 := by omega
    simp (disch := omega) [oLt, oLe, oLtN, oLeN, nLt, nLe, nLtN, nLeN, h, e2, e3, h0]
    exact hN _ (i + 1, c + x.length) (by simp only; omega) ⟨h, by simp only [e4]; omega⟩ (.to [] (by simp))
  · have h' : ¬ i < L.length := by omega
    rw [List.drop_eq_nil_of_le h] at hc
    simp only [catL_nil, List.length_nil, Nat.add_zero] at hc
    subst hc
    delta p51_l0 p51_r3 p51_r4 p51_r5 p51_r6 p51_r7 p51_r8
    simp (disch := omega) [oLt, oLe, oLtN, oLeN, nLt, nLe, nLtN, nLeN, h']
    refine hE _ _ _ .refl ?_
    by_cases h0 : (catL L).length = 0
    · have hz : ∀ x ∈ L, x = [] := fun x hx => by
        have := List.length_eq_zero_iff.1 h0
        exact List.flatten_eq_nil_iff.1 (show L.flatten = [] from this) x hx
      have hfn : catL L = [] := List.length_eq_zero_iff.1 h0
      rw [hfn] at hQ ⊢
      delta p51_r9 p51_r10
      simp (disch := omega) [oLt, oLe, oLtN, oLeN, nLt, nLe, nLtN, nLeN, f76]
      refine XZ_for (fun i : Nat => ⟨[(6, .v (.slice none 0 0)), (25, .il (lls L) L.length u), (26, vI L.length), (27, vI i)], [], 0⟩) (fun i => L.length - i) (fun i => i ≤ L.length) 0 (by simp) (.to [] (by simp)) ?_
      intro j hj N1 Q1 hN1 hE1
      rcases Nat.lt_or_ge j L.length with g | g
      · obtain ⟨x, r, d1, d2, d3, d4, d5⟩ := drop_split g
        have := hz x d5
        subst this
        delta p51_l1 p51_r11 p51_r12 p51_r13 p51_r14
        simp (disch := omega) [oLt, oLe, oLtN, oLeN, nLt, nLe, nLtN, nLeN, g, d2, d3]
        exact hN1 _ (j + 1) (by omega) g (.to [] (by simp))
      · have g' : ¬ j < L.length := by omega
        delta p51_l1 p51_r11 p51_r12 p51_r13 p51_r14
        simp (disch := omega) [oLt, oLe, oLtN, oLeN, nLt, nLe, nLtN, nLeN, g']
        refine hE1 _ _ _ .refl ?_
        delta p51_r15
        simp (disch := omega) [oLt, oLe, oLtN, oLeN, nLt, nLe, nLtN, nLeN]
        exact hQ _ _ (.fz [2] _ (.inl rfl) (by simp; rfl) (by simp) (by simp))
    · have hpos : 0 < (catL L).length := by omega
      have hz0 : ¬ ((catL L).length : Int) = 0 := by omega
      have hzi : (0 : Int) < (catL L).length ∧ ((catL L).length : Int) ≤ 1000000 := by omega
      generalize hG : catL L = G at *
      generalize hg : G.length = n at *
      delta p51_r9 p51_r10
      simp (disch := omega) [oLt, oLe, oLtN, oLeN, nLt, nLe, nLtN, nLeN, f76, h0, hz0, hzi, -List.reduceReplicate]
      refine XZ_for (fun p : Nat × List Int => ⟨[(6, .ref 0 0 p.2.length 1 none), (25, .il (lls L) L.length u), (26, vI L.length), (27, vI p.1)], [(0, .cells (ints (p.2 ++ List.replicate (n - p.2.length) 0)))], 1⟩) (fun p => L.length - p.1) (fun p => p.1 ≤ L.length ∧ p.2 ++ catL (L.drop p.1) = G) (0, []) (by simp [hG]) (.tot [6] (by simp)) ?_
      rintro ⟨j, acc⟩ ⟨hj, ha⟩ N1 Q1 hN1 hE1
      simp only at hj ha ⊢
      rcases Nat.lt_or_ge j L.length with g | g
      · obtain ⟨x, r, d1, d2, d3, d4, d5⟩ := drop_split g
        rw [d1, catL_cons] at ha
        have hle : acc.length + x.length ≤ n := by
          rw [← hg, ← ha]; simp
        have hsp := splice_app (acc := acc) (x := x) (m := n - acc.length) (by omega)
        have hn2 : n - acc.length - x.length = n - (acc ++ x).length := by simp; omega
        rw [hn2] at hsp
        have hAl : (acc ++ List.replicate (n - acc.length) (0 : Int)).length = n := by simp; omega
        have fin : ∀ s', ChgT 0 s' ⟨[(6, .ref 0 0 (acc ++ x).length 1 none), (25, .il (lls L) L.length u), (26, vI L.length), (27, vI ((j + 1 : Nat) : Int))], [(0, .cells (ints (acc ++ x ++ List.replicate (n - (acc ++ x).length) 0)))], 1⟩ → N1 s' := fun s' hh =>
          hN1 s' (j + 1, acc ++ x) (by simp only; omega) ⟨g, by simp only [d4]; rw [← ha]; simp⟩ hh
        generalize hA : acc ++ List.replicate (n - acc.length) (0 : Int) = A at *
        rcases x with _ | ⟨x0, xr⟩
        · simp only [List.append_nil] at fin
          rw [hA] at fin
          delta p51_l1 p51_r11 p51_r12 p51_r13 p51_r14
          simp (disch := omega) [oLt, oLe, oLtN, oLeN, nLt, nLe, nLtN, nLeN, g, d2, d3]
          exact fin _ (.tot [6] (by simp))
        · generalize hB : acc ++ x0 :: xr ++ List.replicate (n - (acc ++ x0 :: xr).length) (0 : Int) = B at *
          have hln : acc.length + (xr.length + 1) ≤ n := by simpa using hle
          rw [ints_cons] at hsp
          delta p51_l1 p51_r11 p51_r12 p51_r13 p51_r14
          simp (disch := omega) [oLt, oLe, oLtN, oLeN, nLt, nLe, nLtN, nLeN, g, d2, d3, hAl, hsp, hln]
          exact fin _ (.tot [6] (by simp))
      · have g' : ¬ j < L.length := by omega
        rw [List.drop_eq_nil_of_le g] at ha
        simp only [catL_nil, List.append_nil] at ha
        subst ha
        rw [hg, Nat.sub_self]
        simp only [List.replicate_zero, List.append_nil]
        delta p51_l1 p51_r11 p51_r12 p51_r13 p51_r14
        simp (disch := omega) [oLt, oLe, oLtN, oLeN, nLt, nLe, nLtN, nLeN, g']
        refine hE1 _ _ _ .refl ?_
        delta p51_r15
        simp (disch := omega) [oLt, oLe, oLtN, oLeN, nLt, nLe, nLtN, nLeN]
        exact hQ _ _ (.fz [2] _ (.inl rfl) (by simp [hg, List.take_of_length_le (show acc.length ≤ n by omega)]; rfl) (by simp) (by simp))
end Go.Sx.Wk
