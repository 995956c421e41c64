/- What functions of the chart layer's document return: joined, looped. No conditions. -/
import Derived.Test.YtfiebjbhiflfpaaDoorSxJDYtoDZ
set_option linter.unusedVariables false
set_option linter.unusedSimpArgs false
set_option maxRecDepth 4000
namespace Go.Sx.Ch
open Go Go.Sx Go.Proofs

set_option maxHeartbeats 2000000
def s101 : Sp := spT 101 [.mp, .i, .i] fun (L : List (List Int)) (p : Int) (q : Int) => res (smM L && inM L && decide (0 ≤ p ∧ p < L.length)) (vB (joinR L p q))
@[simp] theorem s101_g : s101.g = 101 := rfl
@[simp] theorem s101_f : s101.f = (spT 101 [.mp, .i, .i] fun (L : List (List Int)) (p : Int) (q : Int) => res (smM L && inM L && decide (0 ≤ p ∧ p < L.length)) (vB (joinR L p q))).f := rfl
theorem s101_ok : s101.ok Tryd.prog := by
  apply spT_ok
  simp only [OkT, Ty.all, List.nil_append, List.cons_append]
  intro (L : List (List Int)) u (p : Int) (q : Int)
  apply okT_res; intro hg
  refine P101.rz (ss := [s75, s98]) ⟨s75_ok, s98_ok, trivial⟩ (by simp) fun Q hQ => ?_
  delta p101 p101_r0 p101_r1
  simp only [Bool.and_eq_true, decide_eq_true_eq] at hg
  obtain ⟨⟨hs, hin⟩, h0p, hpL⟩ := hg
  obtain ⟨p, rfl⟩ := Int.eq_ofNat_of_zero_le h0p
  have hp : p < L.length := by omega
  obtain ⟨l, hl, hil⟩ := inM_get hin hp
  have hl' := (List.getElem?_eq_some_iff.1 hl).2
  have hsm := smM_small hs (List.mem_of_getElem? hl)
  simp only [small, decide_eq_true_eq] at hsm
  have hr : joinR L p q = l.any fun e => decide (ptL L (otherI e) = q) := by unfold joinR; rw [Int.toNat_natCast, List.getD_eq_getElem?_getD, hl]; rfl
  rw [hr] at hQ
  simp (disch := omega) [oLt, oLe, oLtN, oLeN, nLt, nLe, nLtN, nLeN]
  refine XZ_for (fun k : Nat => ⟨[(1, vI p), (2, vI q), (3, .ptr 0 0), (7, vI k)], [(0, .cells [.il (lls L) L.length u])], 1⟩) (fun k => l.length - k) (fun k => k ≤ l.length ∧ (l.any fun e => decide (ptL L (otherI e) = q)) = ((l.drop k).any fun e => decide (ptL L (otherI e) = q))) 0 ⟨by simp, by simp⟩ (.tot [3] (by simp)) ?_
  rintro k ⟨hk, hinv⟩ N Q' hN hE
  rcases Nat.lt_or_ge k l.length with h | h
  · have hkc : (k : Int) < l.length := by omega
    obtain ⟨x, r, e1, e2, e3, e4, e5⟩ := drop_split h
    rw [e1, List.any_cons] at hinv
    have hx := List.all_eq_true.1 hil x e5
    by_cases hxq : ptL L (otherI x) = q
    · rw [decide_eq_true hxq, Bool.true_or] at hinv
      delta p101_l0 p101_r2 p101_r3 p101_r4 p101_r5
      simp (disch := omega) [oLt, oLe, oLtN, oLeN, nLt, nLe, nLtN, nLeN, hpL, hp, hl, hl', hkc, h, e2, e3, hx, hs, hxq]
      exact hE _ _ _ .refl (hQ _ _ (.p (.inl rfl) (by simp [hinv]) rfl))
    · rw [decide_eq_false hxq, Bool.false_or] at hinv
      delta p101_l0 p101_r2 p101_r3 p101_r4 p101_r5
      simp (disch := omega) [oLt, oLe, oLtN, oLeN, nLt, nLe, nLtN, nLeN, hpL, hp, hl, hl', hkc, h, e2, e3, hx, hs, hxq]
      exact hN _ (k + 1) (by omega) ⟨h, by rw [e4]; exact hinv⟩ (.tot [3] (by simp))
  · obtain rfl : k = l.length := by omega
    have hkc : ¬ (l.length : Int) < l.length := by omega
    rw [List.drop_eq_nil_of_le (Nat.le_refl _)] at hinv
    delta p101_l0 p101_r2 p101_r3 p101_r4 p101_r5
    simp (disch := omega) [oLt, oLe, oLtN, oLeN, nLt, nLe, nLtN, nLeN, hpL, hp, hl, hl', hkc]
    refine hE _ _ _ .refl ?_
    delta p101_r6
    simp (disch := omega) [oLt, oLe, oLtN, oLeN, nLt, nLe, nLtN, nLeN]
    exact hQ _ _ (.p (.inl rfl) (by simp [hinv]) rfl)
def s77 : Sp := spT 77 [.mp] fun (L : List (List Int)) => res (smM L && inM L) (vB (loopR L))
@[simp] theorem s77_g : s77.g = 77 := rfl
@[simp] theorem s77_f : s77.f = (spT 77 [.mp] fun (L : List (List Int)) => res (smM L && inM L) (vB (loopR L))).f := rfl
theorem s77_ok : s77.ok Tryd.prog := by
  apply spT_ok
  simp only [OkT, Ty.all, List.nil_append, List.cons_append]
  intro (L : List (List Int)) u
  apply okT_res; intro hg
  refine P77.rz (ss := [s101]) ⟨s101_ok, trivial⟩ (by simp) fun Q hQ => ?_
  delta p77 p77_r0 p77_r1
  simp only [Bool.and_eq_true] at hg
  obtain ⟨hs, hin⟩ := hg
  have hlen : L.length ≤ 10000 := by simp only [smM, Bool.and_eq_true, decide_eq_true_eq] at hs; exact hs.1
  simp (disch := omega) [oLt, oLe, oLtN, oLeN, nLt, nLe, nLtN, nLeN]
  refine XZ_for (fun k : Nat => ⟨[(1, .ptr 0 0), (3, vI k)], [(0, .cells [.il (lls L) L.length u])], 1⟩) (fun k => L.length - k) (fun k => k ≤ L.length ∧ ∀ p : Nat, p < k → joinR L p p = false) 0 ⟨by simp, fun p hp => by omega⟩ (.tot [1] (by simp)) ?_
  rintro k ⟨hk, hinv⟩ N Q' hN hE
  rcases Nat.lt_or_ge k L.length with h | h
  · have hkc : (k : Int) < L.length := by omega
    cases hj : joinR L k k with
    | true =>
      have hlp : loopR L = true := List.any_eq_true.2 ⟨k, List.mem_range.2 h, hj⟩
      delta p77_l0 p77_r2 p77_r3 p77_r4 p77_r5
      simp (disch := omega) [oLt, oLe, oLtN, oLeN, nLt, nLe, nLtN, nLeN, hkc, h, hs, hin, hj]
      exact hE _ _ _ .refl (hQ _ _ (.p (.inl rfl) (by simp [hlp]) rfl))
    | false =>
      delta p77_l0 p77_r2 p77_r3 p77_r4 p77_r5
      simp (disch := omega) [oLt, oLe, oLtN, oLeN, nLt, nLe, nLtN, nLeN, hkc, h, hs, hin, hj]
      exact hN _ (k + 1) (by omega) ⟨h, fun p hp => by
        by_cases e : p = k
        · rw [e]; exact hj
        · exact hinv p (by omega)⟩ (.tot [1] (by simp))
  · obtain rfl : k = L.length := by omega
    have hkc : ¬ (L.length : Int) < L.length := by omega
    have hlp : loopR L = false := List.any_eq_false.2 fun p hp => by rw [hinv p (List.mem_range.1 hp)]; simp
    delta p77_l0 p77_r2 p77_r3 p77_r4 p77_r5
    simp (disch := omega) [oLt, oLe, oLtN, oLeN, nLt, nLe, nLtN, nLeN, hkc]
    refine hE _ _ _ .refl ?_
    delta p77_r6
    simp (disch := omega) [oLt, oLe, oLtN, oLeN, nLt, nLe, nLtN, nLeN]
    exact hQ _ _ (.p (.inl rfl) (by simp [hlp]) rfl)
end Go.Sx.Ch
set_option maxRecDepth 4000
namespace Go.Sx.Ch
open Go Go.Sx Go.Proofs

def colW : Option (List Int) → AV
  | some l => .tup [.il (ints l) l.length false, vB true]
  | none => .tup [.v (.slice none 0 0), vB false]
def g102 (k : Nat) (L : List (List Int)) (pre : List Int) (most : Int) : Bool := smM L && inM L && decide (L.length ≤ 16) && decide (pre.length + k = L.length) && within 0 most 1000000
def s102n (k : Nat) : Sp := spT 102 [.mp, .l, .i] fun (L : List (List Int)) (pre : List Int) (most : Int) => res (g102 k L pre most) (colW (colR (JR L) most.toNat k pre))
@[simp] theorem s102n_g (k : Nat) : (s102n k).g = 102 := rfl
@[simp] theorem s102n_f (k : Nat) : (s102n k).f = (spT 102 [.mp, .l, .i] fun (L : List (List Int)) (pre : List Int) (most : Int) => res (g102 k L pre most) (colW (colR (JR L) most.toNat k pre))).f := rfl
set_option maxHeartbeats 4000000
theorem free_ok {k : Nat} {L : List (List Int)} {u v : Bool} {pre : List Int} {most : Int} {c : Nat} {s0 : ST} {Q : Exit → ST → Prop} (hs : smM L = true) (hin : inM L = true) (hp : pre.length < L.length) (h16 : L.length ≤ 16)
    (hs0 : ChgT 0 s0 ⟨[(1, .il (ints pre) pre.length v), (2, vI most), (3, .ptr 0 0), (8, vI pre.length), (9, vI c), (10, vB true), (11, vI (0 : Nat))], [(0, .cells [.il (lls L) L.length u])], 1⟩)
    (hq : Q (.exit 2) ⟨[(1, .il (ints pre) pre.length v), (2, vI most), (3, .ptr 0 0), (8, vI pre.length), (9, vI c), (10, vB (!clash (JR L) pre c))], [(0, .cells [.il (lls L) L.length u])], 1⟩) : XZ (rZ (spc [s101, s102n k])) 0 (.loop p102_l0) s0 Q := by
  refine XZ_for (fun q : Nat => ⟨[(1, .il (ints pre) pre.length v), (2, vI most), (3, .ptr 0 0), (8, vI pre.length), (9, vI c), (10, vB (!clashN (JR L) pre c q)), (11, vI q)], [(0, .cells [.il (lls L) L.length u])], 1⟩) (fun q => pre.length - q) (fun q => q ≤ pre.length) 0 (by simp) hs0 ?_
  intro q hqp N Q' hN hE
  have hpc : (pre.length : Int) < L.length := by omega
  rcases Nat.lt_or_ge q pre.length with h | h
  · have hqc : (q : Int) < pre.length := by omega
    obtain ⟨x, hx⟩ : ∃ x, pre[q]? = some x := ⟨pre[q], by rw [List.getElem?_eq_getElem h]⟩
    have hx' := (List.getElem?_eq_some_iff.1 hx).2
    have hxd : pre.getD q 0 = x := by rw [List.getD_eq_getElem?_getD, hx]; rfl
    have hnx := clashN_succ (JR L) pre c q
    rw [hxd] at hnx
    have hJ : JR L pre.length q = joinR L pre.length q := rfl
    rw [hJ] at hnx
    have fin : ∀ s', ChgT 0 s' ⟨[(1, .il (ints pre) pre.length v), (2, vI most), (3, .ptr 0 0), (8, vI pre.length), (9, vI c), (10, vB (!clashN (JR L) pre c (q + 1))), (11, vI ((q + 1 : Nat) : Int))], [(0, .cells [.il (lls L) L.length u])], 1⟩ → N s' := fun s' hh => hN s' (q + 1) (by omega) h hh
    rw [hnx] at fin
    clear hN hnx hq hE hs0
    cases hcl : clashN (JR L) pre c q with
    | true =>
      rw [hcl, Bool.true_or] at fin
      delta p102_l0 p102_r8 p102_r9 p102_r10
      simp (disch := omega) [oLt, oLe, oLtN, oLeN, nLt, nLe, nLtN, nLeN, hqc, h, hx, hx']
      exact fin _ (.tot [3] (by simp))
    | false =>
      rw [hcl, Bool.false_or] at fin
      by_cases hxc : x = c
      · subst hxc
        rw [decide_eq_true rfl, Bool.true_and] at fin
        generalize hj : joinR L pre.length q = j at *
        delta p102_l0 p102_r8 p102_r9 p102_r10
        simp (disch := omega) [oLt, oLe, oLtN, oLeN, nLt, nLe, nLtN, nLeN, hqc, h, hx, hx', hs, hin, hpc, hp, hj]
        exact fin _ (.tot [3] (by simp))
      · rw [decide_eq_false hxc, Bool.false_and] at fin
        delta p102_l0 p102_r8 p102_r9 p102_r10
        simp (disch := omega) [oLt, oLe, oLtN, oLeN, nLt, nLe, nLtN, nLeN, hqc, h, hx, hx', hxc]
        exact fin _ (.tot [3] (by simp))
  · obtain rfl : q = pre.length := by omega
    have hqc : ¬ (pre.length : Int) < pre.length := by omega
    have hcl : clash (JR L) pre c = clashN (JR L) pre c pre.length := rfl
    rw [hcl] at hq
    generalize clashN (JR L) pre c pre.length = b at *
    delta p102_l0 p102_r8 p102_r9 p102_r10
    simp (disch := omega) [oLt, oLe, oLtN, oLeN, nLt, nLe, nLtN, nLeN, hqc]
    exact hE _ _ _ (.tot [3] (by simp)) hq
theorem s102_zero : (s102n 0).ok Tryd.prog := by
  apply spT_ok
  simp only [OkT, Ty.all, List.nil_append, List.cons_append]
  intro (L : List (List Int)) u (pre : List Int) v (most : Int)
  apply okT_res; intro hg
  simp only [g102, Bool.and_eq_true, decide_eq_true_eq, within_iff] at hg
  obtain ⟨⟨⟨⟨hs, hin⟩, h16⟩, hk⟩, hm0, hm1⟩ := hg
  refine P102.rz (ss := []) trivial (by simp) fun Q hQ => ?_
  have hkc : (pre.length : Int) = L.length := by omega
  simp only [colR, colW] at hQ
  delta p102 p102_r0 p102_r1 p102_r2 p102_r3 p102_r4
  simp (disch := omega) [oLt, oLe, oLtN, oLeN, nLt, nLe, nLtN, nLeN, hkc]
  exact hQ _ _ (.fz [6, 7] _ (.inl rfl) (by simp; rfl) (by simp) (by simp))
theorem s102_step {k : Nat} (ih : (s102n k).ok Tryd.prog) : (s102n (k + 1)).ok Tryd.prog := by
  apply spT_ok
  simp only [OkT, Ty.all, List.nil_append, List.cons_append]
  intro (L : List (List Int)) u (pre : List Int) v (most : Int)
  apply okT_res; intro hg
  simp only [g102, Bool.and_eq_true, decide_eq_true_eq, within_iff] at hg
  obtain ⟨⟨⟨⟨hs, hin⟩, h16⟩, hk⟩, hm0, hm1⟩ := hg
  obtain ⟨most, rfl⟩ := Int.eq_ofNat_of_zero_le hm0
  refine P102.rz (ss := [s101, s102n k]) ⟨s101_ok, ih, trivial⟩ (by simp) fun Q hQ => ?_
  have hkc : ¬ (pre.length : Int) = L.length := by omega
  have hpl : pre.length < L.length := by omega
  rw [Int.toNat_natCast] at hQ
  have hT : colR (JR L) most (k + 1) pre = tryF (fun c => if clash (JR L) pre c then none else colR (JR L) most k (pre ++ [(c : Int)])) most 0 := rfl
  delta p102 p102_r0 p102_r1 p102_r2 p102_r3 p102_r4
  simp (disch := omega) [oLt, oLe, oLtN, oLeN, nLt, nLe, nLtN, nLeN, hkc]
  refine XZ_for (fun c : Nat => ⟨[(1, .il (ints pre) pre.length v), (2, vI most), (3, .ptr 0 0), (8, vI pre.length), (9, vI c)], [(0, .cells [.il (lls L) L.length u])], 1⟩) (fun c => most - c) (fun c => c ≤ most ∧ tryF (fun c => if clash (JR L) pre c then none else colR (JR L) most k (pre ++ [(c : Int)])) (most - c) c = colR (JR L) most (k + 1) pre) 0 ⟨by simp, by rw [hT]; rfl⟩ (.tot [3] (by simp)) ?_
  rintro c ⟨hc, hinv⟩ N Q' hN hE
  rcases Nat.lt_or_ge c most with h | h
  · have hcc : (c : Int) < most := by omega
    have hst : most - c = (most - (c + 1)) + 1 := by omega
    rw [hst] at hinv
    simp only [tryF] at hinv
    delta p102_l1 p102_r5 p102_r6 p102_r7
    simp (disch := omega) [oLt, oLe, oLtN, oLeN, nLt, nLe, nLtN, nLeN, hcc]
    refine free_ok (u := u) (v := v) (most := (most : Int)) (c := c) hs hin hpl h16 (.tot [3] (by simp)) ?_
    simp only [inBE, thenE, if_true]
    cases hcl : clash (JR L) pre c with
    | true =>
      rw [hcl, if_pos rfl] at hinv
      simp only at hinv
      delta p102_r11 p102_r12 p102_r13 p102_r14 p102_r15
      simp (disch := omega) [oLt, oLe, oLtN, oLeN, nLt, nLe, nLtN, nLeN]
      exact hN _ (c + 1) (by omega) ⟨h, hinv⟩ (.tot [3] (by simp))
    | false =>
      rw [hcl, if_neg (by simp)] at hinv
      have hg : g102 k L (pre ++ [(c : Int)]) most = true := by
        simp only [g102, Bool.and_eq_true, decide_eq_true_eq, within_iff, List.length_append, List.length_singleton]
        exact ⟨⟨⟨⟨hs, hin⟩, h16⟩, by omega⟩, hm0, hm1⟩
      have hsn : ints pre ++ [AV.v (.int .i64 (c : Int))] = ints (pre ++ [(c : Int)]) := by simp [ints]
      cases hr : colR (JR L) most k (pre ++ [(c : Int)]) with
      | some l =>
        rw [hr] at hinv
        simp only at hinv
        rw [← hinv, colW] at hQ
        by_cases hne : pre = []
        · subst hne
          simp only [List.nil_append] at hg hr
          delta p102_r11 p102_r12 p102_r13 p102_r14 p102_r15
          simp (disch := omega) [oLt, oLe, oLtN, oLeN, nLt, nLe, nLtN, nLeN, hg, hr, colW]
          exact hE _ _ _ .refl (hQ _ _ (.p (.inl rfl) (by simp) (by simp)))
        · delta p102_r11 p102_r12 p102_r13 p102_r14 p102_r15
          simp (disch := omega) [oLt, oLe, oLtN, oLeN, nLt, nLe, nLtN, nLeN, hg, hr, colW, hne]
          exact hE _ _ _ .refl (hQ _ _ (.p (.inl rfl) (by simp) (by simp)))
      | none =>
        rw [hr] at hinv
        simp only at hinv
        by_cases hne : pre = []
        · subst hne
          simp only [List.nil_append] at hg hr
          delta p102_r11 p102_r12 p102_r13 p102_r14 p102_r15
          simp (disch := omega) [oLt, oLe, oLtN, oLeN, nLt, nLe, nLtN, nLeN, hg, hr, colW]
          exact hN _ (c + 1) (by omega) ⟨h, hinv⟩ (.tot [3] (by simp))
        · delta p102_r11 p102_r12 p102_r13 p102_r14 p102_r15
          simp (disch := omega) [oLt, oLe, oLtN, oLeN, nLt, nLe, nLtN, nLeN, hg, hr, colW, hne]
          exact hN _ (c + 1) (by omega) ⟨h, hinv⟩ (.tot [3] (by simp))
  · obtain rfl : c = most := by omega
    have hcc : ¬ (c : Int) < c := by omega
    rw [Nat.sub_self] at hinv
    simp only [tryF] at hinv
    rw [← hinv, colW] at hQ
    delta p102_l1 p102_r5 p102_r6 p102_r7
    simp (disch := omega) [oLt, oLe, oLtN, oLeN, nLt, nLe, nLtN, nLeN, hcc]
    refine hE _ _ _ .refl ?_
    delta p102_r16
    simp (disch := omega) [oLt, oLe, oLtN, oLeN, nLt, nLe, nLtN, nLeN]
    exact hQ _ _ (.p (.inl rfl) (by simp) rfl)
theorem s102n_ok : ∀ k, (s102n k).ok Tryd.prog
  | 0 => s102_zero
  | k + 1 => s102_step (s102n_ok k)
end Go.Sx.Ch
