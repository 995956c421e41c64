/- What functions of the library return: slices.Reverse of lists. No conditions. -/
import Derived.Test.YtfiebjbhiflfpaaDoorSxJJAtoJC
set_option linter.unusedVariables false
set_option linter.unusedSimpArgs false
set_option maxRecDepth 4000
namespace Go.Sx.Ch
open Go Go.Sx Go.Proofs

/-- Some lists at both ends have changed places. -/
def revK (L : List (List Int)) (k : Nat) : List (List Int) := (List.range L.length).map fun i => if i < k ∨ L.length ≤ i + k then L.getD (L.length - 1 - i) [] else L.getD i []
@[simp] theorem revK_len (L : List (List Int)) (k : Nat) : (revK L k).length = L.length := by simp [revK]
theorem revK_get {L : List (List Int)} {k i : Nat} (hi : i < L.length) : (revK L k)[i]? = some (if i < k ∨ L.length ≤ i + k then L.getD (L.length - 1 - i) [] else L.getD i []) := by
  simp [revK, hi]
theorem revK_0 (L : List (List Int)) : revK L 0 = L := by
  apply List.ext_getElem?
  intro i
  by_cases hi : i < L.length
  · rw [revK_get hi, if_neg (by omega), List.getD_eq_getElem?_getD, List.getElem?_eq_getElem hi]; rfl
  · rw [List.getElem?_eq_none (by simp; omega), List.getElem?_eq_none (by omega)]
theorem revK_end {L : List (List Int)} {k : Nat} (h : L.length ≤ 2 * k + 1) : revK L k = L.reverse := by
  apply List.ext_getElem?
  intro i
  by_cases hi : i < L.length
  · rw [revK_get hi, List.getElem?_reverse hi]
    have h2 : L.length - 1 - i < L.length := by omega
    by_cases hc : i < k ∨ L.length ≤ i + k
    · rw [if_pos hc, List.getD_eq_getElem?_getD, List.getElem?_eq_getElem h2]; rfl
    · rw [if_neg hc, List.getD_eq_getElem?_getD, List.getElem?_eq_getElem hi, show L.length - 1 - i = i by omega, List.getElem?_eq_getElem hi]; rfl
  · rw [List.getElem?_eq_none (by simp; omega), List.getElem?_eq_none (by simp; omega)]
theorem revK_succ {L : List (List Int)} {k p : Nat} (hp : L.length = k + 1 + p) (hk : k < p) : ((revK L k).set k (L.getD p [])).set p (L.getD k []) = revK L (k + 1) := by
  apply List.ext_getElem?
  intro i
  by_cases hi : i < L.length
  · rw [revK_get hi]
    by_cases e1 : p = i
    · subst e1
      rw [List.getElem?_set_self (by simp; omega), if_pos (by omega), show L.length - 1 - p = k by omega]
    · rw [List.getElem?_set_ne e1]
      by_cases e2 : k = i
      · subst e2
        rw [List.getElem?_set_self (by simp; omega), if_pos (by omega), show L.length - 1 - k = p by omega]
      · rw [List.getElem?_set_ne e2, revK_get hi]
        by_cases hc : i < k ∨ L.length ≤ i + k
        · rw [if_pos hc, if_pos (by omega)]
        · rw [if_neg hc, if_neg (by omega)]
  · rw [List.getElem?_eq_none (by simp; omega), List.getElem?_eq_none (by simp; omega)]
def f55 : List AV → HL → Nat → Option (AV × HL × Nat) := fun args h k => match args, h, k with
  | [.ref 0 0 n 1 none], [(0, .cells cs)], 1 => match unlls cs with
    | some L => if n = L.length ∧ 0 < L.length ∧ L.length ≤ 1000 then some (.tup [], [(0, .cells (lls L.reverse))], 1) else none
    | none => none
  | [.il [] 0 _], [], 0 => some (.tup [], [], 0)
  | _, _, _ => none
def s55 : Sp := ⟨55, f55⟩
@[simp] theorem s55_g : s55.g = 55 := rfl
@[simp] theorem s55_f : s55.f = f55 := rfl
set_option maxHeartbeats 4000000 in
theorem s55_ok : s55.ok Tryd.prog := by
  intro args h k r h' k' hh
  simp only [s55_f, f55] at hh
  split at hh
  · split at hh
    · rename_i L hl
      split at hh
      · rename_i hc
        obtain ⟨hn, h0, hL⟩ := hc
        cases hh
        rw [unlls_inv hl]
        subst hn
        simp only [hp_eq]
        refine P55.rz (ss := []) trivial (by simp) fun Q hQ => ?_
        delta p55 p55_r0
        simp (disch := omega) [oLt, oLe, oLtN, oLeN, nLt, nLe, nLtN, nLeN]
        refine XZ_for (fun k : Nat => ⟨[(0, .ref 0 0 L.length 1 none), (2, vI k), (3, vI ((L.length : Int) - 1 - k))], [(0, .cells (lls (revK L k)))], 1⟩) (fun k => L.length - k) (fun k => 2 * k ≤ L.length) 0 (by simp) (.tot [] (by simp [revK_0])) ?_
        intro k hk N Q' hN hE
        obtain ⟨p, hp⟩ : ∃ p, L.length = k + 1 + p := ⟨L.length - (k + 1), by omega⟩
        have e3 : (L.length : Int) - 1 - k = p := by omega
        rw [e3]
        by_cases h : k < p
        · have hkc : (k : Int) < p := by omega
          have fin : ∀ s', ChgT 1 s' ⟨[(0, .ref 0 0 L.length 1 none), (2, vI ((k : Int) + 1)), (3, vI ((p : Int) - 1))], [(0, .cells (lls (revK L (k + 1))))], 1⟩ → N s' := fun s' hh => hN s' (k + 1) (by omega) (by omega) (by
            have e4 : (L.length : Int) - 1 - ((k + 1 : Nat) : Int) = (p : Int) - 1 := by omega
            simp only [e4]; simpa using hh)
          rw [← revK_succ hp h] at fin
          have hkL : k < L.length := by omega
          have hpL : p < L.length := by omega
          have ga : (revK L k)[k]? = some (L.getD k []) := by rw [revK_get hkL, if_neg (by omega)]
          have gb : (revK L k)[p]? = some (L.getD p []) := by rw [revK_get hpL, if_neg (by omega)]
          have hMl := revK_len L k
          generalize L.getD k [] = a at *
          generalize L.getD p [] = b at *
          generalize revK L k = M at *
          have hkc2 : (k : Int) < L.length := by omega
          have hpc2 : (p : Int) < L.length := by omega
          have ga' := (List.getElem?_eq_some_iff.1 ga).2
          have gb' := (List.getElem?_eq_some_iff.1 gb).2
          have hkM : k < M.length := by omega
          have hpM : p < M.length := by omega
          generalize L.length = n at *
          clear hN hE hQ
          have s1 : splice (lls M) k [.il (ints b) b.length false] = lls (M.set k b) := by rw [splice_one _ _ _ (by simp; omega)]; simp [lls, eL, List.map_set]
          have s2 : splice (lls (M.set k b)) p [.il (ints a) a.length false] = lls ((M.set k b).set p a) := by rw [splice_one _ _ _ (by simp; omega)]; simp [lls, eL, List.map_set]
          have ga2 : (lls M)[k]? = some (.il (ints a) a.length false) := by simp [ga, eL]
          have gb2 : (lls M)[p]? = some (.il (ints b) b.length false) := by simp [gb, eL]
          have hl1 : (lls M).length = n := by simp [hMl]
          have hl2 : (lls (M.set k b)).length = n := by simp [hMl]
          have hr3 : ∀ f, renL f (lls ((M.set k b).set p a)) = lls ((M.set k b).set p a) := fun f => by simp
          generalize lls ((M.set k b).set p a) = X3 at *
          generalize lls (M.set k b) = X2 at *
          generalize lls M = X1 at *
          have ga3 := (List.getElem?_eq_some_iff.1 ga2).2
          have gb3 := (List.getElem?_eq_some_iff.1 gb2).2
          delta p55_l0 p55_r1 p55_r2 p55_r3
          simp (disch := omega) [oLt, oLe, oLtN, oLeN, nLt, nLe, nLtN, nLeN, hkc, hkc2, hpc2, hkL, hpL, ga2, gb2, ga3, gb3, s1, s2, hl1, hl2]
          exact fin _ (.tot [] (by simp [s1, s2, hr3]))
        · have hkc : ¬ (k : Int) < p := by omega
          have he := revK_end (L := L) (k := k) (by omega)
          rw [he]
          clear hN
          delta p55_l0 p55_r1 p55_r2 p55_r3
          simp (disch := omega) [oLt, oLe, oLtN, oLeN, nLt, nLe, nLtN, nLeN, hkc]
          exact hE _ _ _ .refl (hQ _ _ (EndsP_at [0] (.inr rfl) (by simp) rfl (by simp) rfl (by simp)))
      · cases hh
    · cases hh
  · cases hh
    simp only [hp_eq]
    refine P55.rz (ss := []) trivial (by simp) fun Q hQ => ?_
    delta p55 p55_r0
    simp (disch := omega) [oLt, oLe, oLtN, oLeN, nLt, nLe, nLtN, nLeN]
    refine XZ_for (fun _ : Nat => ⟨[(2, vI (0 : Nat)), (3, vI (-1))], [], 0⟩) (fun _ => 0) (fun _ => True) 0 trivial (.to [] (by simp)) ?_
    intro k _ N Q' _ hE
    delta p55_l0 p55_r1 p55_r2 p55_r3
    simp (disch := omega) [oLt, oLe, oLtN, oLeN, nLt, nLe, nLtN, nLeN]
    exact hE _ _ _ .refl (hQ _ _ (.p (.inr rfl) (by simp) rfl))
  · cases hh
end Go.Sx.Ch
