/- What functions of the chart layer's document return: least. No conditions. -/
import Derived.Test.YtfiebjbhiflfpaaDoorSxJCPtoCR
set_option linter.unusedVariables false
set_option linter.unusedSimpArgs false
set_option maxRecDepth 4000
namespace Go.Sx.Ch
open Go Go.Sx Go.Proofs

def bstI (l : List Int) (b i : Nat) : Nat := if l.getD i 0 < l.getD b 0 then i else b
/-- Where the smallest number of the first so many stands. -/
def bstN (l : List Int) (n : Nat) : Nat := (List.range n).foldl (bstI l) 0
theorem bstN_succ (l : List Int) (n : Nat) : bstN l (n + 1) = bstI l (bstN l n) n := by simp [bstN, List.range_succ, List.foldl_append]
theorem bstN_lt (l : List Int) (n : Nat) : bstN l (n + 1) ≤ n := by
  induction n with
  | zero => rw [bstN_succ]; unfold bstI; split <;> simp [bstN]
  | succ n ih => rw [bstN_succ]; unfold bstI; split <;> omega
def leastF (l : List Int) : List Int := l.drop (bstN l l.length) ++ l.take (bstN l l.length)
set_option maxHeartbeats 2000000
def s96 : Sp := spT 96 [.l] fun (l : List Int) => res (small l && decide (¬ l.length = 0)) (.il (ints (leastF l)) (leastF l).length false)
@[simp] theorem s96_g : s96.g = 96 := rfl
@[simp] theorem s96_f : s96.f = (spT 96 [.l] fun (l : List Int) => res (small l && decide (¬ l.length = 0)) (.il (ints (leastF l)) (leastF l).length false)).f := rfl
theorem s96_ok : s96.ok Tryd.prog := by
  apply spT_ok
  simp only [OkT, Ty.all, List.nil_append, List.cons_append]
  intro (l : List Int) u
  apply okT_res; intro hg
  refine P96.rz (ss := []) trivial (by simp) fun Q hQ => ?_
  delta p96 p96_r0 p96_r1 p96_r2
  simp only [small, Bool.and_eq_true, decide_eq_true_eq] at hg
  obtain ⟨hl, h0⟩ := hg
  simp (disch := omega) [oLt, oLe, oLtN, oLeN, nLt, nLe, nLtN, nLeN]
  refine XZ_for (fun i : Nat => ⟨[(0, .il (ints l) l.length u), (3, vI (bstN l i)), (4, vI i)], [], 0⟩) (fun i => l.length - i) (fun i => i ≤ l.length) 0 (by simp) (.to [] (by simp [bstN])) ?_
  intro i hi N Q' hN hE
  rcases Nat.lt_or_ge i l.length with h | h
  · have hic : (i : Int) < l.length := by omega
    have hb : bstN l i < l.length := by
      cases i with
      | zero => simp [bstN]; omega
      | succ i => have := bstN_lt l i; omega
    have hbc : (bstN l i : Int) < l.length := by omega
    have hs := bstN_succ l i
    unfold bstI at hs
    obtain ⟨x, hx⟩ : ∃ x, l[i]? = some x := ⟨l[i], by rw [List.getElem?_eq_getElem h]⟩
    have hx' := (List.getElem?_eq_some_iff.1 hx).2
    obtain ⟨y, hy⟩ : ∃ y, l[bstN l i]? = some y := ⟨l[bstN l i], by rw [List.getElem?_eq_getElem hb]⟩
    have hy' := (List.getElem?_eq_some_iff.1 hy).2
    rw [List.getD_eq_getElem?_getD, List.getD_eq_getElem?_getD, hx, hy, Option.getD_some, Option.getD_some] at hs
    by_cases hxy : x < y
    · rw [if_pos hxy] at hs
      have fin : ∀ s', ChgT 0 s' ⟨[(0, .il (ints l) l.length u), (3, vI i), (4, vI ((i + 1 : Nat) : Int))], [], 0⟩ → N s' := fun s' hh => hN s' (i + 1) (by omega) h (by rw [hs]; exact hh)
      clear hN hs
      generalize bstN l i = b at *
      delta p96_l0 p96_r3 p96_r4 p96_r5 p96_r6
      simp (disch := omega) [oLt, oLe, oLtN, oLeN, nLt, nLe, nLtN, nLeN, hic, h, hb, hbc, hx, hx', hy, hy', hxy]
      exact fin _ (.to [] (by simp))
    · rw [if_neg hxy] at hs
      have fin : ∀ s', ChgT 0 s' ⟨[(0, .il (ints l) l.length u), (3, vI (bstN l i)), (4, vI ((i + 1 : Nat) : Int))], [], 0⟩ → N s' := fun s' hh => hN s' (i + 1) (by omega) h (by rw [hs]; exact hh)
      clear hN hs
      generalize bstN l i = b at *
      delta p96_l0 p96_r3 p96_r4 p96_r5 p96_r6
      simp (disch := omega) [oLt, oLe, oLtN, oLeN, nLt, nLe, nLtN, nLeN, hic, h, hb, hbc, hx, hx', hy, hy', hxy]
      exact fin _ (.to [] (by simp))
  · obtain rfl : i = l.length := by omega
    have hic : ¬ (l.length : Int) < l.length := by omega
    have hb : bstN l l.length < l.length := by
      obtain ⟨m, hm⟩ : ∃ m, l.length = m + 1 := ⟨l.length - 1, by omega⟩
      rw [hm]; have := bstN_lt l m; omega
    have hr : leastF l = l.drop (bstN l l.length) ++ l.take (bstN l l.length) := rfl
    rw [hr] at hQ
    generalize bstN l l.length = b at *
    have hbc : (b : Int) ≤ l.length := by omega
    have hd : List.drop b (ints l) = ints (l.drop b) := by simp [ints, List.map_drop]
    have ht : List.take b (ints l) = ints (l.take b) := by simp [ints, List.map_take]
    have hdl : (l.drop b).length = l.length - b := by simp
    have htl : (l.take b).length = b := by simp; omega
    delta p96_l0 p96_r3 p96_r4 p96_r5 p96_r6
    simp (disch := omega) [oLt, oLe, oLtN, oLeN, nLt, nLe, nLtN, nLeN, hic]
    refine hE _ _ _ .refl ?_
    delta p96_r7
    have hdt : (l.drop b).take (l.length - b) = l.drop b := List.take_of_length_le (by omega)
    rcases Nat.eq_zero_or_pos b with hb0 | hb0
    · subst hb0
      simp (disch := omega) [oLt, oLe, oLtN, oLeN, nLt, nLe, nLtN, nLeN, hb, hbc, hd, ht, hdl, htl]
      exact hQ _ _ (.fz [2] _ (.inl rfl) (by simp; rfl) (by simp) (by simp))
    · have hb1 : ¬ b = 0 := by omega
      simp (disch := omega) [oLt, oLe, oLtN, oLeN, nLt, nLe, nLtN, nLeN, hb, hbc, hd, ht, hdl, htl, hdt, hb1]
      have hX : ints (l.drop b) ++ ints (l.take b) = ints (l.drop b ++ l.take b) := by simp [ints]
      have hXl : (l.drop b ++ l.take b).length = l.length := by simp; omega
      rw [hX]
      generalize l.drop b ++ l.take b = X at *
      have hXt : List.take l.length (ints X) = ints X := List.take_of_length_le (by simp [hXl])
      exact hQ _ _ (.fz [2] _ (.inl rfl) (by simp [hXl, hXt]; rfl) (by simp [hXl]) (by simp))
end Go.Sx.Ch
