/- What functions of the library return: slices.Reverse of numbers. No conditions. -/
import Derived.Test.YtfiebjbhiflfpaaDoorSxJJAtoKI
import Derived.Test.YtfiebjbhiflfpaaDoorSxJPCgtoPCj
set_option linter.unusedVariables false
set_option linter.unusedSimpArgs false
set_option maxRecDepth 4000
namespace Go.Sx.Ch
open Go Go.Sx Go.Proofs
def rvN (L : List Int) (k : Nat) : List Int := (List.range L.length).map fun i => if i < k ∨ L.length ≤ i + k then L.getD (L.length - 1 - i) 0 else L.getD i 0
@[simp] theorem rvN_len (L : List Int) (k : Nat) : (rvN L k).length = L.length := by simp [rvN]
theorem rvN_get {L : List Int} {k i : Nat} (hi : i < L.length) : (rvN L k)[i]? = some (if i < k ∨ L.length ≤ i + k then L.getD (L.length - 1 - i) 0 else L.getD i 0) := by
  simp [rvN, hi]
theorem rvN_0 (L : List Int) : rvN L 0 = L := by
  apply List.ext_getElem?
  intro i
  by_cases hi : i < L.length
  · rw [rvN_get hi, if_neg (by omega), List.getD_eq_getElem?_getD, List.getElem?_eq_getElem hi]; rfl
  · rw [List.getElem?_eq_none (by simp; omega), List.getElem?_eq_none (by omega)]
theorem rvN_end {L : List Int} {k : Nat} (h : L.length ≤ 2 * k + 1) : rvN L k = L.reverse := by
  apply List.ext_getElem?
  intro i
  by_cases hi : i < L.length
  · rw [rvN_get hi, List.getElem?_reverse hi]
    have h2 : L.length - 1 - i < L.length := by omega
    by_cases hc : i < k ∨ L.length ≤ i + k
    · rw [if_pos hc, List.getD_eq_getElem?_getD, List.getElem?_eq_getElem h2]; rfl
    · rw [if_neg hc, List.getD_eq_getElem?_getD, List.getElem?_eq_getElem hi, show L.length - 1 - i = i by omega, List.getElem?_eq_getElem hi]; rfl
  · rw [List.getElem?_eq_none (by simp; omega), List.getElem?_eq_none (by simp; omega)]
theorem rvN_succ {L : List Int} {k p : Nat} (hp : L.length = k + 1 + p) (hk : k < p) : ((rvN L k).set k (L.getD p 0)).set p (L.getD k 0) = rvN L (k + 1) := by
  apply List.ext_getElem?
  intro i
  by_cases hi : i < L.length
  · rw [rvN_get hi]
    by_cases e1 : p = i
    · subst e1
      rw [List.getElem?_set_self (by simp; omega), if_pos (by omega), show L.length - 1 - p = k by omega]
    · rw [List.getElem?_set_ne e1]
      by_cases e2 : k = i
      · subst e2
        rw [List.getElem?_set_self (by simp; omega), if_pos (by omega), show L.length - 1 - k = p by omega]
      · rw [List.getElem?_set_ne e2, rvN_get hi]
        by_cases hc : i < k ∨ L.length ≤ i + k
        · rw [if_pos hc, if_pos (by omega)]
        · rw [if_neg hc, if_neg (by omega)]
  · rw [List.getElem?_eq_none (by simp; omega), List.getElem?_eq_none (by simp; omega)]
def f60 : List AV → HL → Nat → Option (AV × HL × Nat) := fun args h k => match args, h, k with
  | [.ref 0 0 n 1 none], [(0, .cells cs)], 1 => match unints cs with
    | some L => if n = L.length ∧ 0 < L.length ∧ L.length ≤ 1000 then some (.tup [], [(0, .cells (ints L.reverse))], 1) else none
    | none => none
  | _, _, _ => none
def s60 : Sp := ⟨60, f60⟩
@[simp] theorem s60_g : s60.g = 60 := rfl
@[simp] theorem s60_f : s60.f = f60 := rfl
set_option maxHeartbeats 4000000 in
theorem s60_ok : s60.ok Tryd.prog := by
  intro args h k r h' k' hh
  simp only [s60_f, f60] at hh
  split at hh
  · split at hh
    · rename_i L hl
      split at hh
      · rename_i hc
        obtain ⟨hn, h0, hL⟩ := hc
        cases hh
        rw [unints_inv hl]
        subst hn
        simp only [hp_eq]
        refine P60.rz (ss := []) trivial (by simp) fun Q hQ => ?_
        delta p60 p60_r0
        simp (disch := omega) [oLt, oLe, oLtN, oLeN, nLt, nLe, nLtN, nLeN]
        refine XZ_for (fun k : Nat => ⟨[(0, .ref 0 0 L.length 1 none), (2, vI k), (3, vI ((L.length : Int) - 1 - k))], [(0, .cells (ints (rvN L k)))], 1⟩) (fun k => L.length - k) (fun k => 2 * k ≤ L.length) 0 (by simp) (.tot [] (by simp [rvN_0])) ?_
        intro k hk N Q' hN hE
        obtain ⟨p, hp⟩ : ∃ p, L.length = k + 1 + p := ⟨L.length - (k + 1), by omega⟩
        have e3 : (L.length : Int) - 1 - k = p := by omega
        rw [e3]
        by_cases h : k < p
        · have hkc : (k : Int) < p := by omega
          have fin : ∀ s', ChgT 1 s' ⟨[(0, .ref 0 0 L.length 1 none), (2, vI ((k : Int) + 1)), (3, vI ((p : Int) - 1))], [(0, .cells (ints (rvN L (k + 1))))], 1⟩ → N s' := fun s' hh => hN s' (k + 1) (by omega) (by omega) (by
            have e4 : (L.length : Int) - 1 - ((k + 1 : Nat) : Int) = (p : Int) - 1 := by omega
            simp only [e4]; simpa using hh)
          rw [← rvN_succ hp h] at fin
          have hkL : k < L.length := by omega
          have hpL : p < L.length := by omega
          have ga : (rvN L k)[k]? = some (L.getD k 0) := by rw [rvN_get hkL, if_neg (by omega)]
          have gb : (rvN L k)[p]? = some (L.getD p 0) := by rw [rvN_get hpL, if_neg (by omega)]
          have hMl := rvN_len L k
          generalize L.getD k 0 = a at *
          generalize L.getD p 0 = b at *
          generalize rvN L k = M at *
          have hkc2 : (k : Int) < L.length := by omega
          have hpc2 : (p : Int) < L.length := by omega
          have ga' := (List.getElem?_eq_some_iff.1 ga).2
          have gb' := (List.getElem?_eq_some_iff.1 gb).2
          have hkM : k < M.length := by omega
          have hpM : p < M.length := by omega
          generalize L.length = n at *
          clear hN hE hQ
          have s1 : splice (ints M) k [.v (.int .i64 b)] = ints (M.set k b) := by rw [splice_one _ _ _ (by simp; omega)]; simp [ints, List.map_set]
          have s2 : splice (ints (M.set k b)) p [.v (.int .i64 a)] = ints ((M.set k b).set p a) := by rw [splice_one _ _ _ (by simp; omega)]; simp [ints, List.map_set]
          have ga2 : (ints M)[k]? = some (.v (.int .i64 a)) := by simp [ints, ga]
          have gb2 : (ints M)[p]? = some (.v (.int .i64 b)) := by simp [ints, gb]
          have hl1 : (ints M).length = n := by simp [hMl]
          have hl2 : (ints (M.set k b)).length = n := by simp [hMl]
          have hr3 : ∀ f, renL f (ints ((M.set k b).set p a)) = ints ((M.set k b).set p a) := fun f => by simp
          generalize ints ((M.set k b).set p a) = X3 at *
          generalize ints (M.set k b) = X2 at *
          generalize ints M = X1 at *
          have ga3 := (List.getElem?_eq_some_iff.1 ga2).2
          have gb3 := (List.getElem?_eq_some_iff.1 gb2).2
          delta p60_l0 p60_r1 p60_r2 p60_r3
          simp (disch := omega) [oLt, oLe, oLtN, oLeN, nLt, nLe, nLtN, nLeN, hkc, hkc2, hpc2, hkL, hpL, ga2, gb2, ga3, gb3, s1, s2, hl1, hl2]
          exact fin _ (.tot [] (by simp [s1, s2, hr3]))
        · have hkc : ¬ (k : Int) < p := by omega
          have he := rvN_end (L := L) (k := k) (by omega)
          rw [he]
          clear hN
          delta p60_l0 p60_r1 p60_r2 p60_r3
          simp (disch := omega) [oLt, oLe, oLtN, oLeN, nLt, nLe, nLtN, nLeN, hkc]
          exact hE _ _ _ .refl (hQ _ _ (EndsP_at [0] (.inr rfl) (by simp) rfl (by simp) rfl (by simp)))
      · cases hh
    · cases hh
  · cases hh
end Go.Sx.Ch
