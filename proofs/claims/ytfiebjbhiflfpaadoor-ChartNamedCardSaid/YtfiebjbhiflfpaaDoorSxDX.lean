/- What functions of the chart layer return: colour, its inner loops. No conditions. -/
import Derived.Test.YtfiebjbhiflfpaaDoorSxJDVtoDV0
import Derived.Test.YtfiebjbhiflfpaaDoorSxJDStoDU
set_option linter.unusedVariables false
set_option linter.unusedSimpArgs false
set_option maxRecDepth 4000
namespace Go.Sx.Ch
open Go Go.Sx Go.Proofs

def JN (N : List Nat) (p q : Nat) : Bool := (N.getD p 0).testBit q
/-- The list in the making: so many settled, one tried, and zeros. -/
def stO (P : Nat) (pre : List Int) (c : Int) : List Int := pre ++ c :: List.replicate (P - pre.length - 1) 0
theorem stO_len {P pre c} (h : pre.length < P) : (stO P pre c).length = P := by simp [stO]; omega
theorem stO_take {P pre c} : (stO P pre c).take pre.length = pre := by simp [stO]
theorem stO_get {P pre c} : (stO P pre c)[pre.length]? = some c := by simp [stO]
theorem stO_next {P pre c} (h : pre.length + 1 < P) : stO P (pre ++ [c]) 0 = stO P pre c := by
  unfold stO
  rw [List.append_assoc, List.length_append, List.length_singleton]
  have : P - pre.length - 1 = (P - (pre.length + 1) - 1) + 1 := by omega
  rw [this, List.replicate_succ]; rfl
theorem stO_done {P pre c} (h : pre.length + 1 = P) : stO P pre c = pre ++ [c] := by
  unfold stO
  have : P - pre.length - 1 = 0 := by omega
  rw [this]; rfl
theorem stO_set {P pre c} (d : Int) : (stO P pre c).set pre.length d = stO P pre d := by simp [stO]
theorem stO_back {P r a c} (h : r.length + 1 < P) : (stO P (r ++ [a]) c).set (r.length + 1) 0 = stO P r a := by
  have := stO_set (P := P) (pre := r ++ [a]) (c := c) 0
  rw [List.length_append, List.length_singleton] at this
  rw [this, stO_next h]
set_option maxHeartbeats 2000000
/-- The states behind the inner loops. -/
def stB (C : List Int) (N : List Nat) (P : Nat) (most : Int) (p : Nat) (O : List Int) : ST :=
  ⟨[(1, vI most), (2, .ptr 0 0), (5, .il (uws N) P false), (6, .ref 1 0 P 1 (some P)), (7, vI p)], [(0, .cells (ints C)), (1, .cells (ints O))], 2⟩
def stL (C : List Int) (N : List Nat) (P : Nat) (most : Int) (p : Nat) (O : List Int) (q : Nat) (b : Bool) : ST :=
  ⟨[(1, vI most), (2, .ptr 0 0), (5, .il (uws N) P false), (6, .ref 1 0 P 1 (some P)), (7, vI p), (8, vB b), (22, .ref 1 0 p 1 (some P)), (23, vI p), (24, vI q)], [(0, .cells (ints C)), (1, .cells (ints O))], 2⟩
def stK (C : List Int) (N : List Nat) (P : Nat) (most : Int) (p : Nat) (O : List Int) (b : Bool) : ST :=
  ⟨[(1, vI most), (2, .ptr 0 0), (5, .il (uws N) P false), (6, .ref 1 0 P 1 (some P)), (7, vI p), (8, vB b)], [(0, .cells (ints C)), (1, .cells (ints O))], 2⟩
theorem l0_ok {ss : List Sp} {C : List Int} {N : List Nat} {O pre : List Int} {P p : Nat} {most c : Int} {s0 : ST} {Q : Exit → ST → Prop} (hP : P ≤ 16) (hN : N.length = P) (hlt : ∀ i, N.getD i 0 < 65536) (hO : O.length = P) (hp : p < P)
    (hc : O[p]? = some c) (hpl : pre.length = p) (hpre : ∀ q, q < p → O[q]? = some (pre.getD q 0))
    (hs0 : ChgT 0 s0 (stL C N P most p O 0 false)) (hq : Q (.exit 2) (stK C N P most p O (clash (JN N) pre c))) : XZ (rZ (spc ss)) 0 (.loop p100_l0) s0 Q := by
  refine XZ_for (fun q : Nat => stL C N P most p O q (clashN (JN N) pre c q)) (fun q => p - q) (fun q => q ≤ p) 0 (by simp) hs0 ?_
  intro q hqp N1 Q' hN1 hE
  have hc' := (List.getElem?_eq_some_iff.1 hc).2
  have hpc : (p : Int) < P := by omega
  unfold stL at *
  unfold stK at hq
  rcases Nat.lt_or_ge q p with h | h
  · have hqc : (q : Int) < p := by omega
    have hqP : q < O.length := by omega
    have hnx := clashN_succ (JN N) pre c q
    rw [hpl] at hnx
    have hy := hpre q h
    obtain ⟨y, hyd⟩ : ∃ y, pre.getD q 0 = y := ⟨_, rfl⟩
    rw [hyd] at hy hnx
    have hy' := (List.getElem?_eq_some_iff.1 hy).2
    obtain ⟨x, hx⟩ : ∃ x, N[p]? = some x := ⟨N[p], by rw [List.getElem?_eq_getElem]⟩
    have hx' := (List.getElem?_eq_some_iff.1 hx).2
    have hxd : N.getD p 0 = x := by rw [List.getD_eq_getElem?_getD, hx]; rfl
    have hJ : JN N p q = x.testBit q := by unfold JN; rw [hxd]
    rw [hJ] at hnx
    have hx6 : x < 65536 := by rw [← hxd]; exact hlt p
    have hsr := fun u v => shr32 u v hx6 (show q < 16 by omega)
    have hbit := bit_at x q
    have hy6 : x / 2 ^ q < 65536 := Nat.lt_of_le_of_lt (Nat.div_le_self _ _) hx6
    have han := fun u v => and32 u v hy6
    obtain ⟨w, hw⟩ : ∃ w, x / 2 ^ q = w := ⟨_, rfl⟩
    rw [hw] at hsr hbit han
    obtain ⟨z, hz⟩ : ∃ z, w % 2 = z := ⟨_, rfl⟩
    rw [hz] at hbit han
    have fin : ∀ s', ChgT 0 s' ⟨[(1, vI most), (2, .ptr 0 0), (5, .il (uws N) P false), (6, .ref 1 0 P 1 (some P)), (7, vI p), (8, vB (clashN (JN N) pre c (q + 1))), (22, .ref 1 0 p 1 (some P)), (23, vI p), (24, vI ((q + 1 : Nat) : Int))], [(0, .cells (ints C)), (1, .cells (ints O))], 2⟩ → N1 s' := fun s' hh => hN1 s' (q + 1) (by omega) h hh
    rw [hnx] at fin
    clear hN1 hnx hq hE hs0
    cases hcl : clashN (JN N) pre c q with
    | true =>
      rw [hcl, Bool.true_or] at fin
      delta p100_l0 p100_r7 p100_r8 p100_r9 p100_r10
      simp (disch := omega) [oLt, oLe, oLtN, oLeN, nLt, nLe, nLtN, nLeN, hqc, h, hO, hqP, hp, hc, hc', hy, hy', hpc]
      exact fin _ (.to [0, 1] (by simp))
    | false =>
      rw [hcl, Bool.false_or] at fin
      by_cases hyc : y = c
      · rw [decide_eq_true hyc, Bool.true_and] at fin
        by_cases hz1 : z = 1
        · subst hz1
          rw [hbit.1 rfl] at fin
          delta p100_l0 p100_r7 p100_r8 p100_r9 p100_r10
          simp (disch := omega) [oLt, oLe, oLtN, oLeN, nLt, nLe, nLtN, nLeN, hqc, h, hO, hqP, hp, hc, hc', hy, hy', hyc, hN, hx, hx', hsr, han, hpc]
          exact fin _ (.to [0, 1] (by simp))
        · have hb : x.testBit q = false := by
            cases hh : x.testBit q with
            | false => rfl
            | true => exact absurd (hbit.2 hh) hz1
          have hzc : ¬ (z : Int) = 1 := by omega
          rw [hb] at fin
          delta p100_l0 p100_r7 p100_r8 p100_r9 p100_r10
          simp (disch := omega) [oLt, oLe, oLtN, oLeN, nLt, nLe, nLtN, nLeN, hqc, h, hO, hqP, hp, hc, hc', hy, hy', hyc, hN, hx, hx', hsr, han, hz1, hzc, hpc]
          exact fin _ (.to [0, 1] (by simp [hzc]))
      · rw [decide_eq_false hyc, Bool.false_and] at fin
        delta p100_l0 p100_r7 p100_r8 p100_r9 p100_r10
        simp (disch := omega) [oLt, oLe, oLtN, oLeN, nLt, nLe, nLtN, nLeN, hqc, h, hO, hqP, hp, hc, hc', hy, hy', hyc, hpc]
        exact fin _ (.to [0, 1] (by simp))
  · obtain rfl : q = p := by omega
    have hqc : ¬ (q : Int) < q := by omega
    have hcl : clash (JN N) pre c = clashN (JN N) pre c q := by unfold clash; rw [hpl]
    rw [hcl] at hq
    generalize clashN (JN N) pre c q = b at *
    delta p100_l0 p100_r7 p100_r8 p100_r9 p100_r10
    simp (disch := omega) [oLt, oLe, oLtN, oLeN, nLt, nLe, nLtN, nLeN, hqc]
    exact hE _ _ _ (.to [0, 1] (by simp)) hq
theorem l1_ok {ss : List Sp} {C : List Int} {N : List Nat} {P : Nat} {most : Int} {s0 : ST} {Q : Exit → ST → Prop} {J : Nat → Nat → Bool} (hP : P ≤ 16) (hN : N.length = P) (hm : most ≤ 1000000) {pre0 : List Int} {d0 : Int} (hI : SInv J P most pre0 d0)
    (hs0 : ChgT 0 s0 (stB C N P most pre0.length (stO P pre0 d0))) (hsome : ∀ r d, bk most pre0.reverse d0 = some (r, d) → Q (.exit 4) (stB C N P most r.length (stO P r.reverse d)))
    (hnone : bk most pre0.reverse d0 = none → ∀ s, EndsP 0 [SRes.tmp 4] (.v (.slice none 0 0)) 0 [] .ret s → Q .ret s) : XZ (rZ (spc ss)) 0 (.loop p100_l1) s0 Q := by
  refine XZ_for (fun q : List Int × Int => stB C N P most q.1.length (stO P q.1 q.2)) (fun q => q.1.length) (fun q => SInv J P most q.1 q.2 ∧ bk most q.1.reverse q.2 = bk most pre0.reverse d0) (pre0, d0) ⟨hI, rfl⟩ hs0 ?_
  rintro ⟨pre, d⟩ ⟨hI1, hbk⟩ N1 Q' hN1 hE
  simp only at hI1 hbk hN1 ⊢
  have hlen := hI1.len
  have hc0 := hI1.c0
  have hpc : (pre.length : Int) < P := by omega
  have hO := stO_len (c := d) hlen
  have hg := stO_get (P := P) (pre := pre) (c := d)
  by_cases hd : d < most
  · have hdc : ¬ most ≤ d := by omega
    have hR : bk most pre.reverse d = some (pre.reverse, d) := by
      cases hpr : pre.reverse with
      | nil => simp only [bk]; rw [if_pos hd]
      | cons a r => simp only [bk]; rw [if_pos hd]
    have := hsome pre.reverse d (by rw [← hbk, hR])
    rw [List.length_reverse, List.reverse_reverse] at this
    clear hN1
    unfold stB at *
    generalize stO P pre d = O at *
    have hg' := (List.getElem?_eq_some_iff.1 hg).2
    delta p100_l1 p100_r14 p100_r15 p100_r16 p100_r17 p100_r18 p100_r19
    simp (disch := omega) [oLt, oLe, oLtN, oLeN, nLt, nLe, nLtN, nLeN, hpc, hlen, hO, hg, hg', hdc, hd]
    exact hE _ _ _ (.to [0, 1] (by simp)) this
  · have hdc : most ≤ d := by omega
    rcases List.eq_nil_or_concat pre with rfl | ⟨r, a, rfl⟩
    · have hR : bk most ([] : List Int).reverse d = none := by simp only [List.reverse_nil, bk]; rw [if_neg hd]
      have := hnone (by rw [← hbk, hR])
      clear hN1
      simp only [List.length_nil] at hg hpc hlen
      unfold stB at *
      generalize stO P [] d = O at *
      have hg' := (List.getElem?_eq_some_iff.1 hg).2
      simp only [List.length_nil]
      delta p100_l1 p100_r14 p100_r15 p100_r16 p100_r17 p100_r18 p100_r19
      simp (disch := omega) [oLt, oLe, oLtN, oLeN, nLt, nLe, nLtN, nLeN, hpc, hlen, hO, hg, hg', hdc, hd]
      exact hE _ _ _ .refl (this _ (.p (.inl rfl) (by simp) rfl))
    · clear hg
      simp only [List.concat_eq_append] at *
      have hg := stO_get (P := P) (pre := r ++ [a]) (c := d)
      have hb : SInv J P most r (a + 1) := sinv_back hI1 hd
      have hR : bk most (r ++ [a]).reverse d = bk most r.reverse (a + 1) := by rw [List.reverse_append]; simp only [List.reverse_cons, List.reverse_nil, List.nil_append, List.cons_append, bk]; rw [if_neg hd]
      have fin := fun s' => hN1 s' (r, a + 1) (by simp) ⟨hb, by rw [← hR, hbk]⟩
      simp only [List.length_append, List.length_singleton] at hlen hg hpc fin ⊢
      have hbk1 := stO_back (a := a) (c := d) hlen
      have hg2 := stO_get (P := P) (pre := r) (c := a)
      have hO2 := stO_len (P := P) (pre := r) (c := a) (by omega)
      have hst := stO_set (P := P) (pre := r) (c := a) (a + 1)
      have ha := hI1.fits.rng r.length (by simp)
      rw [getD_app_at] at ha
      have hrc : (r.length : Int) < P := by omega
      have hrc1 : (r.length : Int) + 1 < P := by omega
      have hr' : r.length < P := by omega
      clear hN1 hsome hnone hE hI1 hb hbk hI hs0
      unfold stB at *
      generalize stO P (r ++ [a]) d = O at *
      generalize stO P r a = O1 at *
      generalize stO P r (a + 1) = O2 at *
      generalize r.length = k at *
      have hg' := (List.getElem?_eq_some_iff.1 hg).2
      have hg2' := (List.getElem?_eq_some_iff.1 hg2).2
      delta p100_l1 p100_r14 p100_r15 p100_r16 p100_r17 p100_r18 p100_r19
      simp (disch := omega) [oLt, oLe, oLtN, oLeN, nLt, nLe, nLtN, nLeN, hpc, hlen, hO, hO2, hg, hg', hdc, hd, hbk1, hg2, hg2', hst, hrc, hrc1, hr']
      exact fin _ (.to [0, 1] (by simp))
end Go.Sx.Ch
