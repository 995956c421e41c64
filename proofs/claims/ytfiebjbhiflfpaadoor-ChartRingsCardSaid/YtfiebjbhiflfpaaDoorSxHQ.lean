/- What functions of the chart layer's document return: ring, Odd. No conditions. -/
import Derived.Test.YtfiebjbhiflfpaaDoorSxHC
import Derived.Test.YtfiebjbhiflfpaaDoorSxJHOtoHP
set_option linter.unusedVariables false
set_option linter.unusedSimpArgs false
set_option maxRecDepth 4000
namespace Go.Sx.Ch
open Go Go.Sx Go.Proofs

def rngW : Option (List Int) → AV
  | some l => .tup [.il (ints l) l.length false, vB true]
  | none => .tup [.any, vB false]
def belB (P : Nat) (pre : List Int) : Bool := pre.all fun x => decide (0 ≤ x ∧ x < P)
theorem belB_iff {P : Nat} {pre : List Int} : belB P pre = true ↔ below P pre := by
  unfold belB below
  rw [List.all_eq_true]
  constructor
  · intro h x hx
    have := h x hx
    rw [decide_eq_true_eq] at this
    exact ⟨x.toNat, by omega, by omega⟩
  · intro h x hx
    obtain ⟨k, h1, h2⟩ := h x hx
    rw [decide_eq_true_eq]; omega
def g83 (f : Nat) (L : List (List Int)) (pre : List Int) (many : Int) : Bool := smM L && inM L && decide (L.length ≤ 16) && belB L.length pre && decide (3 ≤ many ∧ many ≤ 100) && decide ((pre.length : Int) ≤ many) && decide (many + 1 ≤ (pre.length : Int) + f)
def s83n (f : Nat) : Sp := spT 83 [.mp, .l, .i] fun (L : List (List Int)) (pre : List Int) (many : Int) => res (g83 f L pre many) (rngW (ringR (JR L) L.length many.toNat f pre))
@[simp] theorem s83n_g (f : Nat) : (s83n f).g = 83 := rfl
@[simp] theorem s83n_f (f : Nat) : (s83n f).f = (spT 83 [.mp, .l, .i] fun (L : List (List Int)) (pre : List Int) (many : Int) => res (g83 f L pre many) (rngW (ringR (JR L) L.length many.toNat f pre))).f := rfl
theorem heapWk_refl' : ∀ h : HL, heapWk h h
  | [] => trivial
  | (k, x) :: r => ⟨rfl, .refl, heapWk_refl' r⟩
set_option maxHeartbeats 4000000
theorem s83n_ok : ∀ f, (s83n f).ok Tryd.prog
  | 0 => by
    apply spT_ok
    simp only [OkT, Ty.all, List.nil_append, List.cons_append]
    intro (L : List (List Int)) u (pre : List Int) v (many : Int)
    apply okT_res; intro hg
    simp only [g83, Bool.and_eq_true, decide_eq_true_eq] at hg
    omega
  | f + 1 => by
    have ih := s83n_ok f
    apply spT_ok
    simp only [OkT, Ty.all, List.nil_append, List.cons_append]
    intro (L : List (List Int)) u (pre : List Int) v (many : Int)
    apply okT_res; intro hg
    simp only [g83, Bool.and_eq_true, decide_eq_true_eq, belB_iff] at hg
    obtain ⟨⟨⟨⟨⟨⟨hs, hin⟩, h16⟩, hbl⟩, hm0, hm1⟩, hle⟩, hfu⟩ := hg
    obtain ⟨m, rfl⟩ := Int.eq_ofNat_of_zero_le (show 0 ≤ many by omega)
    refine P83.rz (ss := [s86, s101, s83n f]) ⟨s86_ok, s101_ok, ih, trivial⟩ (by simp) fun Q hQ => ?_
    rw [Int.toNat_natCast] at hQ
    have hlm : pre.length ≤ 100 := by omega
    by_cases hnm : pre.length = m
    · have hnc : (pre.length : Int) = m := by omega
      have h0n : 0 < pre.length := by omega
      simp only [ringR] at hQ
      rw [if_pos hnm] at hQ
      obtain ⟨a, ha, ga, ea⟩ := below_get hbl h0n
      obtain ⟨b, hb, gb, eb⟩ := below_get hbl (i := pre.length - 1) (by omega)
      rw [ea, ← hnm, eb, Int.toNat_natCast, Int.toNat_natCast] at hQ
      have hJ : JR L a b = joinR L a b := rfl
      rw [hJ] at hQ
      have ga' := (List.getElem?_eq_some_iff.1 ga).2
      have gb' := (List.getElem?_eq_some_iff.1 gb).2
      have hac : (a : Int) < L.length := by omega
      have h0c : (0 : Int) < pre.length := by omega
      have hlast : ((pre.length : Int) - 1).toNat = pre.length - 1 := by omega
      have hmc : (m : Int) = pre.length := hnc.symm
      cases hj : joinR L a b with
      | true =>
        rw [hj, if_pos rfl, rngW] at hQ
        rw [hmc]
        delta p83 p83_r0 p83_r1 p83_r2 p83_r3
        simp (disch := omega) [oLt, oLe, oLtN, oLeN, nLt, nLe, nLtN, nLeN, h0n, h0c, ga, ga', gb, gb', hac, ha, hlast, hs, hin, hj]
        exact hQ _ _ (.fz [6, 7] _ (.inl rfl) (by simp; rfl) (by simp) (by simp))
      | false =>
        rw [hj, if_neg (by simp), rngW] at hQ
        rw [hmc]
        delta p83 p83_r0 p83_r1 p83_r2 p83_r3
        simp (disch := omega) [oLt, oLe, oLtN, oLeN, nLt, nLe, nLtN, nLeN, h0n, h0c, ga, ga', gb, gb', hac, ha, hlast, hs, hin, hj]
        exact hQ _ _ (.chg (.weak (s' := ⟨[(6, .any), (7, vB false)], _, _⟩) ⟨rfl, .any, rfl, .refl, trivial⟩ (heapWk_refl' _) rfl .refl) (.p (.inl rfl) (by simp) (by simp)))
    · have hnc : ¬ (pre.length : Int) = m := by omega
      have hlt : pre.length < m := by omega
      have hT : ringR (JR L) L.length m (f + 1) pre = tryF (fun p => if okP (JR L) pre p then ringR (JR L) L.length m f (pre ++ [(p : Int)]) else none) L.length 0 := by
        simp only [ringR]; rw [if_neg hnm]
      delta p83 p83_r0 p83_r1 p83_r2 p83_r3
      simp (disch := omega) [oLt, oLe, oLtN, oLeN, nLt, nLe, nLtN, nLeN, hnc]
      refine XZ_for (fun p : Nat => ⟨[(1, .il (ints pre) pre.length v), (2, vI m), (3, .ptr 0 0), (8, vI p)], [(0, .cells [.il (lls L) L.length u])], 1⟩) (fun p => L.length - p) (fun p => p ≤ L.length ∧ tryF (fun p => if okP (JR L) pre p then ringR (JR L) L.length m f (pre ++ [(p : Int)]) else none) (L.length - p) p = ringR (JR L) L.length m (f + 1) pre) 0 ⟨Nat.zero_le _, by rw [hT]; rfl⟩ (.tot [3] (by simp)) ?_
      rintro p ⟨hp, hinv⟩ N Q' hN hE
      rcases Nat.lt_or_ge p L.length with h | h
      · have hpc : (p : Int) < L.length := by omega
        have hsm : small pre = true := by simp only [small, decide_eq_true_eq]; omega
        have hst : L.length - p = (L.length - (p + 1)) + 1 := by omega
        rw [hst] at hinv
        simp only [tryF] at hinv
        have hgg : below L.length (pre ++ [(p : Int)]) → g83 f L (pre ++ [(p : Int)]) m = true := fun hb => by
          simp only [g83, Bool.and_eq_true, decide_eq_true_eq, belB_iff, List.length_append, List.length_singleton]
          exact ⟨⟨⟨⟨⟨⟨hs, hin⟩, h16⟩, hb⟩, hm0, hm1⟩, by omega⟩, by omega⟩
        have hg := hgg (below_push hbl h)
        clear hgg
        by_cases hmem : (p : Int) ∈ pre
        · have hge : 0 ≤ idxL pre p := idxL_mem.2 hmem
          have hok : okP (JR L) pre p = false := by unfold okP; rw [List.contains_iff_mem.2 hmem]; rfl
          rw [hok, if_neg (by simp)] at hinv
          simp only at hinv
          delta p83_l0 p83_r4 p83_r5 p83_r6 p83_r7 p83_r8 p83_r9
          simp (disch := omega) [oLt, oLe, oLtN, oLeN, nLt, nLe, nLtN, nLeN, hpc, h, hsm, hge]
          exact hN _ (p + 1) (by omega) ⟨h, hinv⟩ (.tot [3] (by simp))
        have hge : ¬ 0 ≤ idxL pre p := fun h => hmem (idxL_mem.1 h)
        have hcon : pre.contains (p : Int) = false := by
          cases hh : pre.contains (p : Int) with
          | false => rfl
          | true => exact absurd (List.contains_iff_mem.1 hh) hmem
        by_cases hne : pre = []
        · subst hne
          have hok : okP (JR L) [] p = true := by unfold okP; rw [hcon]; rfl
          rw [hok, if_pos rfl] at hinv
          simp only [List.nil_append] at hinv hg
          cases hr : ringR (JR L) L.length m f ([(p : Int)]) with
          | some l =>
            rw [hr] at hinv
            simp only at hinv
            rw [← hinv, rngW] at hQ
            delta p83_l0 p83_r4 p83_r5 p83_r6 p83_r7 p83_r8 p83_r9
            simp (disch := omega) [oLt, oLe, oLtN, oLeN, nLt, nLe, nLtN, nLeN, hpc, h, hsm, hge, hg, hr, rngW]
            exact hE _ _ _ .refl (hQ _ _ (.p (.inl rfl) (by simp) (by simp)))
          | none =>
            rw [hr] at hinv
            simp only at hinv
            delta p83_l0 p83_r4 p83_r5 p83_r6 p83_r7 p83_r8 p83_r9
            simp (disch := omega) [oLt, oLe, oLtN, oLeN, nLt, nLe, nLtN, nLeN, hpc, h, hsm, hge, hg, hr, rngW]
            exact hN _ (p + 1) (by omega) ⟨h, hinv⟩ (.tot [3] (by simp))
        have h0n : 0 < pre.length := List.length_pos_iff.2 hne
        have h0c : (0 : Int) < pre.length := by omega
        have hn0 : ¬ pre.length = 0 := by omega
        obtain ⟨b, hb, gb, eb⟩ := below_get hbl (i := pre.length - 1) (by omega)
        have gb' := (List.getElem?_eq_some_iff.1 gb).2
        have hbc : (b : Int) < L.length := by omega
        have hlast : ((pre.length : Int) - 1).toNat = pre.length - 1 := by omega
        cases hj : joinR L b p with
        | true =>
          have hok : okP (JR L) pre p = true := by
            unfold okP; rw [hcon, eb, Int.toNat_natCast]
            have : JR L b p = true := hj
            rw [this]; simp
          rw [hok, if_pos rfl] at hinv
          cases hr : ringR (JR L) L.length m f (pre ++ [(p : Int)]) with
          | some l =>
            rw [hr] at hinv
            simp only at hinv
            rw [← hinv, rngW] at hQ
            delta p83_l0 p83_r4 p83_r5 p83_r6 p83_r7 p83_r8 p83_r9
            simp (disch := omega) [oLt, oLe, oLtN, oLeN, nLt, nLe, nLtN, nLeN, hpc, h, hsm, hge, hne, h0n, h0c, gb, gb', hbc, hb, hlast, hs, hin, hj, hg, hr, rngW]
            exact hE _ _ _ .refl (hQ _ _ (.p (.inl rfl) (by simp) (by simp)))
          | none =>
            rw [hr] at hinv
            simp only at hinv
            delta p83_l0 p83_r4 p83_r5 p83_r6 p83_r7 p83_r8 p83_r9
            simp (disch := omega) [oLt, oLe, oLtN, oLeN, nLt, nLe, nLtN, nLeN, hpc, h, hsm, hge, hne, h0n, h0c, gb, gb', hbc, hb, hlast, hs, hin, hj, hg, hr, rngW]
            exact hN _ (p + 1) (by omega) ⟨h, hinv⟩ (.tot [3] (by simp))
        | false =>
          have hok : okP (JR L) pre p = false := by
            unfold okP; rw [hcon, eb, Int.toNat_natCast]
            have : JR L b p = false := hj
            rw [this]; simp [hn0]
          rw [hok, if_neg (by simp)] at hinv
          simp only at hinv
          delta p83_l0 p83_r4 p83_r5 p83_r6 p83_r7 p83_r8 p83_r9
          simp (disch := omega) [oLt, oLe, oLtN, oLeN, nLt, nLe, nLtN, nLeN, hpc, h, hsm, hge, hne, h0n, h0c, gb, gb', hbc, hb, hlast, hs, hin, hj]
          exact hN _ (p + 1) (by omega) ⟨h, hinv⟩ (.tot [3] (by simp))
      · obtain rfl : p = L.length := by omega
        have hpc : ¬ (L.length : Int) < L.length := by omega
        rw [Nat.sub_self] at hinv
        simp only [tryF] at hinv
        rw [← hinv, rngW] at hQ
        delta p83_l0 p83_r4 p83_r5 p83_r6 p83_r7 p83_r8 p83_r9
        simp (disch := omega) [oLt, oLe, oLtN, oLeN, nLt, nLe, nLtN, nLeN, hpc]
        refine hE _ _ _ .refl ?_
        delta p83_r10
        simp (disch := omega) [oLt, oLe, oLtN, oLeN, nLt, nLe, nLtN, nLeN]
        exact hQ _ _ (.chg (.weak (s' := ⟨[(6, .any), (7, vB false)], _, _⟩) ⟨rfl, .any, rfl, .refl, trivial⟩ (heapWk_refl' _) rfl .refl) (.p (.inl rfl) (by simp) (by simp)))
end Go.Sx.Ch
