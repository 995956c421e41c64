/- What functions of the chart layer return: parts. No conditions. -/
import Derived.Test.YtfiebjbhiflfpaaDoorSxJHFtoHG
import Derived.Test.YtfiebjbhiflfpaaDoorSxJDPtoDV0
import Derived.Test.YtfiebjbhiflfpaaDoorSxJKBtoCO
import Derived.Test.YtfiebjbhiflfpaaDoorSxJCAtoCC
import Derived.Test.YtfiebjbhiflfpaaDoorSxJNtoNq
import Derived.KernelRfl
import Derived.Test.YtfiebjbhiflfpaaDoorProg
import Derived.Test.YtfiebjbhiflfpaaDoorSxDF0
import Derived.Test.YtfiebjbhiflfpaaDoorSxJHHtoHJ0
import Derived.Test.YtfiebjbhiflfpaaDoorSxJCDtoKA
import Derived.Test.YtfiebjbhiflfpaaDoorSxJJAtoKI
set_option linter.unusedVariables false
set_option linter.unusedSimpArgs false
namespace Go.Sx.Ch
open Go Go.Sx Go.Proofs
section
set_option maxRecDepth 4000
theorem relab_succ {P : Nat} {fr to x : Int} {l : List Int} (hx : l[P]? = some x) : relab (P + 1) fr to l = (relab P fr to l).set P (if x = fr then to else x) := by
  have hP := (List.getElem?_eq_some_iff.1 hx).1
  have hx' := (List.getElem?_eq_some_iff.1 hx).2
  unfold relab
  rw [List.take_succ_eq_append_getElem hP, hx', List.map_append, List.drop_eq_getElem_cons hP, hx', List.append_assoc]
  have hl : ((l.take P).map fun x => if x = fr then to else x).length = P := by simp; omega
  rw [List.set_append_right _ _ (by omega), hl, Nat.sub_self]
  rfl
theorem relab_at {P : Nat} {fr to x : Int} {l : List Int} (hx : l[P]? = some x) : (relab P fr to l)[P]? = some x := by
  have hP := (List.getElem?_eq_some_iff.1 hx).1
  unfold relab
  have hl : ((l.take P).map fun x => if x = fr then to else x).length = P := by simp; omega
  rw [List.getElem?_append_right (by omega), hl, Nat.sub_self, List.getElem?_drop, Nat.add_zero]
  exact hx
theorem relab_zero (fr to : Int) (l : List Int) : relab 0 fr to l = l := by simp [relab]
theorem labI_len (P : Nat) : (labI P).length = 16 := by simp [labI]
theorem labI_zero : labI 0 = Z16 := by decide
theorem labI_succ {P : Nat} (h : P < 16) : (labI P).set P (P : Int) = labI (P + 1) := by
  apply List.ext_getElem?
  intro i
  by_cases hi : i < 16
  · by_cases e : i = P
    · subst e
      rw [List.getElem?_set_self (by rw [labI_len]; exact hi)]
      simp [labI, hi]
    · rw [List.getElem?_set_ne (Ne.symm e)]
      simp only [labI, List.getElem?_map, List.getElem?_range hi, Option.map_some, Option.some.injEq]
      by_cases h1 : i < P
      · rw [if_pos h1, if_pos (by omega)]
      · rw [if_neg h1, if_neg (by omega)]
  · rw [List.getElem?_eq_none (by rw [List.length_set, labI_len]; omega), List.getElem?_eq_none (by rw [labI_len]; omega)]
theorem labN_len {at' : Nat → Nat} {P : Nat} : ∀ k, (labN at' P k).1.length = 16
  | 0 => labI_len P
  | k + 1 => by
    rw [labN_succ]; unfold labS
    split
    · exact labN_len k
    · simp only; rw [relab_len, labN_len k]
theorem labN_congr {f g : Nat → Nat} {P : Nat} : ∀ {k : Nat}, (∀ m, m < 2 * k → f m = g m) → labN f P k = labN g P k
  | 0, _ => rfl
  | k + 1, h => by
    rw [labN_succ, labN_succ, labN_congr (k := k) fun m hm => h m (by omega)]
    unfold labS
    rw [h (2 * k) (by omega), h (2 * k + 1) (by omega)]
theorem labN_cnt {at' : Nat → Nat} {P : Nat} : ∀ k, (P : Int) - k ≤ (labN at' P k).2 ∧ (labN at' P k).2 ≤ P
  | 0 => by simp [labN]
  | k + 1 => by
    have := labN_cnt (at' := at') (P := P) k
    rw [labN_succ]; unfold labS
    split
    · omega
    · simp only; omega
set_option maxHeartbeats 4000000
def in85 (C : List Int) (n : Int) (e : Nat) (fr to : Int) (P : Nat) (l : List Int) (p : Nat) : ST :=
  ⟨[(1, .ptr 0 0), (3, .ptr 1 0), (5, vI n), (6, vI e), (7, vI fr), (8, vI to), (48, .ref 1 0 P 1 (some 16)), (49, vI P), (50, vI p)], [(0, .cells (ints C)), (1, .cells (ints (relab p fr to l)))], 2⟩
theorem in85_ok {ss : List Sp} {C : List Int} {n : Int} {e : Nat} {fr to : Int} {P : Nat} {l : List Int} {s0 : ST} {Q : Exit → ST → Prop} (hP : P ≤ 16) (hl : l.length = 16)
    (hs0 : ChgT 0 s0 (in85 C n e fr to P l 0)) (hq : Q (.exit 4) ⟨[(1, .ptr 0 0), (3, .ptr 1 0), (5, vI n), (6, vI e)], [(0, .cells (ints C)), (1, .cells (ints (relab P fr to l)))], 2⟩) : XZ (rZ (spc ss)) 0 (.loop p85_l1) s0 Q := by
  refine XZ_for (fun p : Nat => in85 C n e fr to P l p) (fun p => P - p) (fun p => p ≤ P) 0 (Nat.zero_le _) hs0 ?_
  intro p hp N Q' hN hE
  rcases Nat.lt_or_ge p P with h | h
  · have hpc : (p : Int) < P := by omega
    have hp16 : p < 16 := by omega
    have hp16c : (p : Int) < 16 := by omega
    obtain ⟨x, hx⟩ : ∃ x, l[p]? = some x := ⟨l[p], by rw [List.getElem?_eq_getElem]⟩
    have hg := relab_at (fr := fr) (to := to) hx
    have hsu := relab_succ (fr := fr) (to := to) hx
    have hlen := relab_len p fr to l
    rw [hl] at hlen
    have hg' := (List.getElem?_eq_some_iff.1 hg).2
    have hpl : p < (relab p fr to l).length := by omega
    have fin : ∀ s', ChgT 0 s' ⟨[(1, .ptr 0 0), (3, .ptr 1 0), (5, vI n), (6, vI e), (7, vI fr), (8, vI to), (48, .ref 1 0 P 1 (some 16)), (49, vI P), (50, vI ((p + 1 : Nat) : Int))], [(0, .cells (ints C)), (1, .cells (ints ((relab p fr to l).set p (if x = fr then to else x))))], 2⟩ → N s' := fun s' hh => hN s' (p + 1) (by omega) h (by unfold in85; rw [hsu]; exact hh)
    clear hN hsu hE hq hs0
    unfold in85
    by_cases hxf : x = fr
    · rw [if_pos hxf] at fin
      clear hg'
      generalize relab p fr to l = M at *
      have hg' := (List.getElem?_eq_some_iff.1 hg).2
      delta p85_l1 p85_r14 p85_r15 p85_r16 p85_r17 p85_r18
      simp (disch := omega) [oLt, oLe, oLtN, oLeN, nLt, nLe, nLtN, nLeN, hpc, h, hp16, hp16c, hlen, hpl, hg, hg', hxf]
      exact fin _ (.tot [1, 3] (by simp))
    · rw [if_neg hxf] at fin
      have hself : (relab p fr to l).set p x = relab p fr to l := by
        apply List.ext_getElem?
        intro i
        by_cases hi : i = p
        · subst hi; rw [List.getElem?_set_self hpl, hg]
        · rw [List.getElem?_set_ne (Ne.symm hi)]
      rw [hself] at fin
      clear hg' hself
      generalize relab p fr to l = M at *
      have hg' := (List.getElem?_eq_some_iff.1 hg).2
      delta p85_l1 p85_r14 p85_r15 p85_r16 p85_r17 p85_r18
      simp (disch := omega) [oLt, oLe, oLtN, oLeN, nLt, nLe, nLtN, nLeN, hpc, h, hp16, hp16c, hlen, hpl, hg, hg', hxf]
      exact fin _ (.tot [1, 3] (by simp))
  · obtain rfl : p = P := by omega
    have hpc : ¬ (p : Int) < p := by omega
    unfold in85
    generalize relab p fr to l = M at *
    delta p85_l1 p85_r14 p85_r15 p85_r16 p85_r17 p85_r18
    simp (disch := omega) [oLt, oLe, oLtN, oLeN, nLt, nLe, nLtN, nLeN, hpc]
    exact hE _ _ _ (.tot [1, 3] (by simp)) hq
def atn (C : List Int) (m : Nat) : Nat := (atC C m).toNat
def partC (C : List Int) : Int := (labN (atn C) (ptsC C).toNat ((endsC C).toNat / 2)).2
def g85 (C : List Int) : Bool := g80 C && decide (endsC C % 2 = 0)
def s85 : Sp := spT 85 [.tb] fun (C : List Int) => res (g85 C) (vI (partC C))
@[simp] theorem s85_g : s85.g = 85 := rfl
@[simp] theorem s85_f : s85.f = (spT 85 [.tb] fun (C : List Int) => res (g85 C) (vI (partC C))).f := rfl
theorem s85_ok : s85.ok Tryd.prog := by
  apply spT_ok
  simp only [OkT, Ty.all, List.nil_append, List.cons_append]
  intro (C : List Int)
  apply okT_res; intro hg
  refine P85.rz (ss := []) trivial (by simp) fun Q hQ => ?_
  delta p85 p85_r0 p85_r1 p85_r2
  simp only [g85, Bool.and_eq_true, decide_eq_true_eq] at hg
  obtain ⟨hg, hev⟩ := hg
  obtain ⟨n, P, h34, hn, hP, h0, h33, en, eP, hf⟩ := g80_facts hg
  have h0' := (List.getElem?_eq_some_iff.1 h0).2
  have h33' := (List.getElem?_eq_some_iff.1 h33).2
  have hr : partC C = (labN (atn C) P (n / 2)).2 := by unfold partC; rw [en, eP]; simp
  rw [en] at hev
  rw [hr] at hQ
  simp (disch := omega) [oLt, oLe, oLtN, oLeN, nLt, nLe, nLtN, nLeN, zl16, h34, h0, h0', h33, h33']
  refine XZ_for (fun p : Nat => ⟨[(1, .ptr 0 0), (3, .ptr 1 0), (12, vI P), (13, vI p)], [(0, .cells (ints C)), (1, .cells (ints (labI p)))], 2⟩) (fun p => P - p) (fun p => p ≤ P) 0 (Nat.zero_le _) (.tot [1, 3] (by simp [labI_zero])) ?_
  intro p hp N Q' hN hE
  rcases Nat.lt_or_ge p P with h | h
  · have hpc : (p : Int) < P := by omega
    have hp16 : p < 16 := by omega
    have hp16c : (p : Int) < 16 := by omega
    have hlen := labI_len p
    have hsu := labI_succ hp16
    have fin : ∀ s', ChgT 0 s' ⟨[(1, .ptr 0 0), (3, .ptr 1 0), (12, vI P), (13, vI ((p + 1 : Nat) : Int))], [(0, .cells (ints C)), (1, .cells (ints ((labI p).set p (p : Int))))], 2⟩ → N s' := fun s' hh => hN s' (p + 1) (by omega) h (by rw [← hsu]; exact hh)
    clear hN hsu
    generalize labI p = M at *
    delta p85_l0 p85_r3 p85_r4 p85_r5 p85_r6
    simp (disch := omega) [oLt, oLe, oLtN, oLeN, nLt, nLe, nLtN, nLeN, hpc, hp16, hp16c, hlen]
    exact fin _ (.tot [1, 3] (by simp))
  · obtain rfl : p = P := by omega
    have hpc : ¬ (p : Int) < p := by omega
    have hI : labI p = (labN (atn C) p 0).1 := rfl
    have hI2 : (p : Int) = (labN (atn C) p 0).2 := rfl
    delta p85_l0 p85_r3 p85_r4 p85_r5 p85_r6
    simp (disch := omega) [oLt, oLe, oLtN, oLeN, nLt, nLe, nLtN, nLeN, hpc]
    refine hE _ _ _ .refl ?_
    delta p85_r7 p85_r8
    simp (disch := omega) [oLt, oLe, oLtN, oLeN, nLt, nLe, nLtN, nLeN, h34, h33, h33']
    clear hN hE
    refine XZ_for (fun k : Nat => ⟨[(1, .ptr 0 0), (3, .ptr 1 0), (5, vI (labN (atn C) p k).2), (6, vI (2 * k : Nat))], [(0, .cells (ints C)), (1, .cells (ints (labN (atn C) p k).1))], 2⟩) (fun k => n / 2 - k) (fun k => k ≤ n / 2) 0 (Nat.zero_le _) (.tot [1, 3] (by simp [hI.symm]; exact hI2)) ?_
    intro k hk N Q' hN hE
    have hlen := labN_len (at' := atn C) (P := p) k
    have hcnt := labN_cnt (at' := atn C) (P := p) k
    have hsu := labN_succ (atn C) p k
    unfold labS at hsu
    obtain ⟨e, he⟩ : ∃ e, 2 * k = e := ⟨_, rfl⟩
    rcases Nat.lt_or_ge k (n / 2) with h | h
    · have hen : e < n := by omega
      have hec : (e : Int) < n := by omega
      have h16c : (e : Int) < 16 := by omega
      have h16c1 : (e : Int) + 1 < 16 := by omega
      have h16' : e < 16 := by omega
      have h16'' : e + 1 < 16 := by omega
      obtain ⟨-, a, -, -, ha, -, -, q1, -, q2, -⟩ := hf e hen
      obtain ⟨-, b, -, -, hb, -, -, q3, -, q4, -⟩ := hf (e + 1) (by omega)
      have q1' := (List.getElem?_eq_some_iff.1 q1).2
      have q3' := (List.getElem?_eq_some_iff.1 q3).2
      have ea : atn C (2 * k) = a := by unfold atn; rw [he, q2]; simp
      have eb : atn C (2 * k + 1) = b := by unfold atn; rw [he, q4]; simp
      have ha16 : a < 16 := by omega
      have hb16 : b < 16 := by omega
      have ha16c : (a : Int) < 16 := by omega
      have hb16c : (b : Int) < 16 := by omega
      obtain ⟨x, hx⟩ : ∃ x, (labN (atn C) p k).1[a]? = some x := ⟨(labN (atn C) p k).1[a], by rw [List.getElem?_eq_getElem]⟩
      obtain ⟨y, hy⟩ : ∃ y, (labN (atn C) p k).1[b]? = some y := ⟨(labN (atn C) p k).1[b], by rw [List.getElem?_eq_getElem]⟩
      rw [ea, eb, List.getD_eq_getElem?_getD, List.getD_eq_getElem?_getD, hx, hy, Option.getD_some, Option.getD_some] at hsu
      have fin : ∀ s', ChgT 0 s' ⟨[(1, .ptr 0 0), (3, .ptr 1 0), (5, vI (labN (atn C) p (k + 1)).2), (6, vI ((e + 2 : Nat) : Int))], [(0, .cells (ints C)), (1, .cells (ints (labN (atn C) p (k + 1)).1))], 2⟩ → N s' := fun s' hh => hN s' (k + 1) (by omega) h (by rw [show 2 * (k + 1) = e + 2 by omega]; exact hh)
      rw [hsu] at fin
      rw [he]
      clear hN hsu hE
      by_cases hxy : x = y
      · rw [if_pos hxy] at fin
        generalize (labN (atn C) p k).1 = M at *
        generalize (labN (atn C) p k).2 = m at *
        have hx' := (List.getElem?_eq_some_iff.1 hx).2
        have hy' := (List.getElem?_eq_some_iff.1 hy).2
        delta p85_l2 p85_r9 p85_r10 p85_r11 p85_r12 p85_r13
        delta p85_r19
        simp (disch := omega) [oLt, oLe, oLtN, oLeN, nLt, nLe, nLtN, nLeN, hec, h34, h0, h0', h16c, h16c1, h16', h16'', q1, q3, q1', q3', ha16, hb16, ha16c, hb16c, hlen, hx, hx', hy, hy', hxy]
        exact fin _ (.tot [1, 3] (by simp))
      · rw [if_neg hxy] at fin
        simp only at fin
        generalize (labN (atn C) p k).1 = M at *
        generalize (labN (atn C) p k).2 = m at *
        have hx' := (List.getElem?_eq_some_iff.1 hx).2
        have hy' := (List.getElem?_eq_some_iff.1 hy).2
        delta p85_l2 p85_r9 p85_r10 p85_r11 p85_r12 p85_r13
        simp (disch := omega) [oLt, oLe, oLtN, oLeN, nLt, nLe, nLtN, nLeN, hec, h34, h0, h0', h33, h33', h16c, h16c1, h16', h16'', q1, q3, q1', q3', ha16, hb16, ha16c, hb16c, hlen, hx, hx', hy, hy', hxy, effSlcA, hP]
        refine in85_ok (C := C) (n := m - 1) (e := e) (fr := x) (to := y) (P := p) (l := M) hP hlen (.tot [1, 3] (by simp [in85, relab_zero])) ?_
        simp only [inBE, thenE, if_true]
        generalize relab p x y M = M2 at *
        delta p85_r19
        simp (disch := omega) [oLt, oLe, oLtN, oLeN, nLt, nLe, nLtN, nLeN]
        exact fin _ (.tot [1, 3] (by simp))
    · obtain rfl : k = n / 2 := by omega
      have hec : ¬ (e : Int) < n := by omega
      rw [he]
      generalize (labN (atn C) p (n / 2)).1 = M at *
      generalize (labN (atn C) p (n / 2)).2 = m at *
      delta p85_l2 p85_r9 p85_r10 p85_r11 p85_r12 p85_r13
      simp (disch := omega) [oLt, oLe, oLtN, oLeN, nLt, nLe, nLtN, nLeN, hec, h34, h0, h0']
      refine hE _ _ _ .refl ?_
      delta p85_r20
      simp (disch := omega) [oLt, oLe, oLtN, oLeN, nLt, nLe, nLtN, nLeN]
      exact hQ _ _ (.p (.inl rfl) (by simp) rfl)
end
section
set_option maxRecDepth 4000
set_option maxHeartbeats 1000000
theorem drop_eq_of_lt {α : Type} {a b : List α} {i : Nat} {x y : α} (hx : a[i]? = some x) (hy : b[i]? = some y) : (a.drop i = b.drop i) ↔ x = y ∧ a.drop (i + 1) = b.drop (i + 1) := by
  obtain ⟨h1, e1⟩ := List.getElem?_eq_some_iff.1 hx
  obtain ⟨h2, e2⟩ := List.getElem?_eq_some_iff.1 hy
  rw [List.drop_eq_getElem_cons h1, List.drop_eq_getElem_cons h2, e1, e2, List.cons.injEq]
def s30 : Sp := spT 30 [.l, .l] fun (a : List Int) (b : List Int) => res (small a) (vB (decide (a = b)))
@[simp] theorem s30_g : s30.g = 30 := rfl
@[simp] theorem s30_f : s30.f = (spT 30 [.l, .l] fun (a : List Int) (b : List Int) => res (small a) (vB (decide (a = b)))).f := rfl
theorem s30_ok : s30.ok Tryd.prog := by
  apply spT_ok
  simp only [OkT, Ty.all, List.nil_append, List.cons_append]
  intro (a : List Int) u (b : List Int) v
  apply okT_res; intro hg
  refine P30.rz (ss := []) trivial (by simp) fun Q hQ => ?_
  delta p30 p30_r0 p30_r1 p30_r2 p30_r3
  simp only [small, decide_eq_true_eq] at hg
  by_cases hlen : a.length = b.length
  · have hlc : (a.length : Int) = b.length := by omega
    simp (disch := omega) [oLt, oLe, oLtN, oLeN, nLt, nLe, nLtN, nLeN, hlc]
    refine XZ_for (fun i : Nat => ⟨[(0, .il (ints a) a.length u), (1, .il (ints b) b.length v), (5, vI i)], [], 0⟩) (fun i => a.length - i) (fun i => i ≤ a.length ∧ ((a = b) ↔ a.drop i = b.drop i)) 0 ⟨by simp, by simp⟩ (.to [] (by simp)) ?_
    rintro i ⟨hi, hinv⟩ N Q' hN hE
    rcases Nat.lt_or_ge i a.length with h | h
    · have hic : (i : Int) < a.length := by omega
      have hic2 : (i : Int) < b.length := by omega
      have hb : i < b.length := by omega
      obtain ⟨x, hx⟩ : ∃ x, a[i]? = some x := ⟨a[i], by rw [List.getElem?_eq_getElem h]⟩
      obtain ⟨y, hy⟩ : ∃ y, b[i]? = some y := ⟨b[i], by rw [List.getElem?_eq_getElem hb]⟩
      have hx' := (List.getElem?_eq_some_iff.1 hx).2
      have hy' := (List.getElem?_eq_some_iff.1 hy).2
      rw [drop_eq_of_lt hx hy] at hinv
      by_cases hxy : x = y
      · have hxy' : ¬ x ≠ y := fun h => h hxy
        delta p30_l0 p30_r4 p30_r5 p30_r6 p30_r7
        simp (disch := omega) [oLt, oLe, oLtN, oLeN, nLt, nLe, nLtN, nLeN, hic, hic2, h, hb, hx, hx', hy, hy', hxy]
        exact hN _ (i + 1) (by omega) ⟨h, by rw [hinv]; simp [hxy]⟩ (.to [] (by simp))
      · have hne : ¬ a = b := fun e => hxy (hinv.1 e).1
        delta p30_l0 p30_r4 p30_r5 p30_r6 p30_r7
        simp (disch := omega) [oLt, oLe, oLtN, oLeN, nLt, nLe, nLtN, nLeN, hic, hic2, h, hb, hx, hx', hy, hy', hxy]
        exact hE _ _ _ .refl (hQ _ _ (.p (.inl rfl) (by simp [hne]) rfl))
    · obtain rfl : i = a.length := by omega
      have hic : ¬ (a.length : Int) < a.length := by omega
      have heq : a = b := hinv.2 (by rw [List.drop_eq_nil_of_le (Nat.le_refl _), List.drop_eq_nil_of_le (by omega)])
      delta p30_l0 p30_r4 p30_r5 p30_r6 p30_r7
      simp (disch := omega) [oLt, oLe, oLtN, oLeN, nLt, nLe, nLtN, nLeN, hic, hlc]
      refine hE _ _ _ .refl ?_
      delta p30_r8
      simp (disch := omega) [oLt, oLe, oLtN, oLeN, nLt, nLe, nLtN, nLeN]
      exact hQ _ _ (.p (.inl rfl) (by simp [heq]) rfl)
  · have hlc : ¬ (a.length : Int) = b.length := by omega
    have hne : ¬ a = b := fun e => hlen (by rw [e])
    simp (disch := omega) [oLt, oLe, oLtN, oLeN, nLt, nLe, nLtN, nLeN, hlc]
    exact hQ _ _ (.p (.inl rfl) (by simp [hne]) rfl)
def s23 : Sp := spT 23 [.ll, .ll] fun (a : List (List Int)) (b : List (List Int)) => res (decide (a.length ≤ 10000) && a.all small) (vB (decide (a = b)))
@[simp] theorem s23_g : s23.g = 23 := rfl
@[simp] theorem s23_f : s23.f = (spT 23 [.ll, .ll] fun (a : List (List Int)) (b : List (List Int)) => res (decide (a.length ≤ 10000) && a.all small) (vB (decide (a = b)))).f := rfl
theorem s23_ok : s23.ok Tryd.prog := by
  apply spT_ok
  simp only [OkT, Ty.all, List.nil_append, List.cons_append]
  intro (a : List (List Int)) u (b : List (List Int)) v
  apply okT_res; intro hg
  refine P23.rz (ss := [s30]) ⟨s30_ok, trivial⟩ (by simp) fun Q hQ => ?_
  delta p23 p23_r0 p23_r1 p23_r2 p23_r3
  simp only [Bool.and_eq_true, decide_eq_true_eq] at hg
  obtain ⟨hg, hsm⟩ := hg
  by_cases hlen : a.length = b.length
  · have hlc : (a.length : Int) = b.length := by omega
    simp (disch := omega) [oLt, oLe, oLtN, oLeN, nLt, nLe, nLtN, nLeN, hlc]
    refine XZ_for (fun i : Nat => ⟨[(0, .il (lls a) a.length u), (1, .il (lls b) b.length v), (5, vI i)], [], 0⟩) (fun i => a.length - i) (fun i => i ≤ a.length ∧ ((a = b) ↔ a.drop i = b.drop i)) 0 ⟨by simp, by simp⟩ (.to [] (by simp)) ?_
    rintro i ⟨hi, hinv⟩ N Q' hN hE
    rcases Nat.lt_or_ge i a.length with h | h
    · have hic : (i : Int) < a.length := by omega
      have hic2 : (i : Int) < b.length := by omega
      have hb : i < b.length := by omega
      obtain ⟨x, hx⟩ : ∃ x, a[i]? = some x := ⟨a[i], by rw [List.getElem?_eq_getElem h]⟩
      obtain ⟨y, hy⟩ : ∃ y, b[i]? = some y := ⟨b[i], by rw [List.getElem?_eq_getElem hb]⟩
      have hx' := (List.getElem?_eq_some_iff.1 hx).2
      have hy' := (List.getElem?_eq_some_iff.1 hy).2
      have hxs : small x = true := List.all_eq_true.1 hsm x (List.mem_of_getElem? hx)
      rw [drop_eq_of_lt hx hy] at hinv
      by_cases hxy : x = y
      · subst hxy
        delta p23_l0 p23_r4 p23_r5 p23_r6 p23_r7
        simp (disch := omega) [oLt, oLe, oLtN, oLeN, nLt, nLe, nLtN, nLeN, hic, hic2, h, hb, hx, hx', hy, hy', hxs, hlc]
        exact hN _ (i + 1) (by omega) ⟨h, by rw [hinv]; simp⟩ (.to [] (by simp))
      · have hne : ¬ a = b := fun e => hxy (hinv.1 e).1
        delta p23_l0 p23_r4 p23_r5 p23_r6 p23_r7
        simp (disch := omega) [oLt, oLe, oLtN, oLeN, nLt, nLe, nLtN, nLeN, hic, hic2, h, hb, hx, hx', hy, hy', hxy, hxs, hlc]
        exact hE _ _ _ .refl (hQ _ _ (.p (.inl rfl) (by simp [hne]) rfl))
    · obtain rfl : i = a.length := by omega
      have hic : ¬ (a.length : Int) < a.length := by omega
      have heq : a = b := hinv.2 (by rw [List.drop_eq_nil_of_le (Nat.le_refl _), List.drop_eq_nil_of_le (by omega)])
      delta p23_l0 p23_r4 p23_r5 p23_r6 p23_r7
      simp (disch := omega) [oLt, oLe, oLtN, oLeN, nLt, nLe, nLtN, nLeN, hic, hlc]
      refine hE _ _ _ .refl ?_
      delta p23_r8
      simp (disch := omega) [oLt, oLe, oLtN, oLeN, nLt, nLe, nLtN, nLeN]
      exact hQ _ _ (.p (.inl rfl) (by simp [heq]) rfl)
  · have hlc : ¬ (a.length : Int) = b.length := by omega
    have hne : ¬ a = b := fun e => hlen (by rw [e])
    simp (disch := omega) [oLt, oLe, oLtN, oLeN, nLt, nLe, nLtN, nLeN, hlc]
    exact hQ _ _ (.p (.inl rfl) (by simp [hne]) rfl)
end
section
set_option maxRecDepth 4000
set_option maxHeartbeats 4000000
def partRk (L : List (List Int)) (k : Nat) : Nat := ((List.range k).filter fun p => decide (hd (rchd L p) = p)).length
theorem partRk_succ (L : List (List Int)) (k : Nat) : partRk L (k + 1) = if hd (rchd L k) = k then partRk L k + 1 else partRk L k := by
  unfold partRk
  rw [List.range_succ, List.filter_append, List.length_append]
  by_cases h : hd (rchd L k) = k
  · rw [if_pos h]; simp [h]
  · rw [if_neg h]; simp [h]
theorem partRk_le (L : List (List Int)) : ∀ k, partRk L k ≤ k
  | 0 => by simp [partRk]
  | k + 1 => by
    rw [partRk_succ]
    have := partRk_le L k
    split <;> omega
theorem partC_eq {L : List (List Int)} (hc : chk L = 0) : partC (tabF L) = partR L ∧ g85 (tabF L) = true := by
  obtain ⟨h34, h16, hev, hl, h0, h33, hp⟩ := tab_pts hc
  have e0 : endsC (tabF L) = total L := by unfold endsC; rw [List.getD_eq_getElem?_getD, h0]; rfl
  have e33 : ptsC (tabF L) = L.length := by unfold ptsC; rw [List.getD_eq_getElem?_getD, h33]; rfl
  refine ⟨?_, ?_⟩
  · rw [← part_eq hc]
    unfold partC partN
    rw [e0, e33, Int.toNat_natCast, Int.toNat_natCast, labN_congr (g := atN L)]
    intro m hm
    obtain ⟨k, -, -, k2, k3⟩ := hp m (by omega)
    unfold atn atN
    rw [k2, k3]
  · simp only [g85, Bool.and_eq_true, decide_eq_true_eq]
    exact ⟨g80_tab hc, by rw [e0]; omega⟩
def genV (L : List (List Int)) : Int := if chk L = 0 then genN L else 0
theorem partR_le (L : List (List Int)) : partR L ≤ L.length := partRk_le L L.length
def s37 : Sp := spT 37 [.mp] fun (L : List (List Int)) => res (smM L) (.tup [vI (genV L), vI (chk L)])
@[simp] theorem s37_g : s37.g = 37 := rfl
@[simp] theorem s37_f : s37.f = (spT 37 [.mp] fun (L : List (List Int)) => res (smM L) (.tup [vI (genV L), vI (chk L)])).f := rfl
theorem s37_ok : s37.ok Tryd.prog := by
  apply spT_ok
  simp only [OkT, Ty.all, List.nil_append, List.cons_append]
  intro (L : List (List Int)) u
  apply okT_res; intro hs
  refine P37.rz (ss := [s67, s68, s85]) ⟨s67_ok, s68_ok, s85_ok, trivial⟩ (by simp) fun Q hQ => ?_
  delta p37 p37_r0 p37_r1 p37_r2 p37_r3 p37_r4
  by_cases hc : chk L = 0
  · obtain ⟨h34, h16, hev, hl, h0, h33, -⟩ := tab_pts hc
    have h0' := (List.getElem?_eq_some_iff.1 h0).2
    have h33' := (List.getElem?_eq_some_iff.1 h33).2
    have ht : (tabF L).take 34 = tabF L := List.take_of_length_le (by omega)
    have hv : openV L = .tup [.agg (ints (tabF L)), vI 0] := by unfold openV; rw [hc]; rfl
    have hsp : splice (ints Z34) 0 (ints (tabF L)) = ints (tabF L) := splice_all (by simp [h34, z34_len])
    obtain ⟨hp, hg⟩ := partC_eq hc
    have hpl := partR_le L
    have hok : okS (alongC (tabF L)) (total L) = true := by
      have := g33_ok hs
      simp only [g33, Bool.and_eq_true, Bool.or_eq_true, decide_eq_true_eq] at this
      exact this.2.resolve_left (fun h => h hc)
    have hen : endsC (tabF L) = ((total L : Nat) : Int) := by unfold endsC; rw [List.getD_eq_getElem?_getD, h0]; rfl
    have hT : t34 (tabF L) = true := by simp [t34, h34]
    have hF : cyc (alongC (tabF L)) (total L) = faceL L := by unfold faceL; rw [if_pos hc]
    have hFl : (faceL L).length ≤ 16 := by
      rw [← hF]
      have := (cycN_len (alongC (tabF L)) (total L)).2
      unfold cyc; omega
    have hcy : cycF (tabF L) (.fn (.func 84) [.agg (ints (tabF L))] []) = res true (.il (lls (faceL L)) (faceL L).length false) := by
      unfold cycF; simp only [stepOf_84, hT, if_true, hen, Int.toNat_natCast, hok, hF, Bool.and_true, Bool.true_and]
      rw [decide_eq_true (by omega)]
    have hgen := genus_eq hc
    have hr : genV L = genN L := by unfold genV; rw [if_pos hc]
    obtain ⟨g', hg'⟩ := euler_map hc
    have hpe' := part_eq hc
    obtain ⟨t, htt⟩ : ∃ t : Int, (L.length : Int) - (total L / 2 : Nat) + (faceL L).length = 2 * t := ⟨partN L - g', by omega⟩
    have htd : ((L.length : Int) - (total L : Int) / 2 + (faceL L).length).tdiv 2 = t := by
      have e : (L.length : Int) - (total L : Int) / 2 + (faceL L).length = 2 * t := by omega
      rw [e, Int.mul_tdiv_cancel_left _ (by decide)]
    have ht1 : -50 ≤ t ∧ t ≤ 50 := by omega
    rw [hr, hc, ← hgen, htt, Int.mul_tdiv_cancel_left _ (by decide), part_eq hc] at hQ
    clear hgen hg' htt hpe'
    generalize faceL L = F at *
    generalize tabF L = C at *
    generalize partR L = p at *
    generalize total L = n at *
    simp (disch := omega) [oLt, oLe, oLtN, oLeN, nLt, nLe, nLtN, nLeN, hs, hv, zl, hsp, h34, z34_len, ht, hg, hp, h0, h0', h33, h33', hcy, effMkfn, htd]
    exact hQ _ _ (.p (.inl rfl) (by simp) rfl)
  · have hv : openV L = .tup [.agg (ints Z34), vI (chk L)] := by unfold openV; rw [if_neg hc]
    have hr : genV L = 0 := by unfold genV; rw [if_neg hc]
    rw [hr] at hQ
    generalize chk L = c at *
    simp (disch := omega) [oLt, oLe, oLtN, oLeN, nLt, nLe, nLtN, nLeN, hs, hv, zl, zz, z34_len, hc]
    exact hQ _ _ (.p (.inl rfl) (by simp) rfl)
end
section
theorem mdS_flat (O : List Int) (g n i : Nat) : (mdS O g n (i + 1)).2.flatten = (mdS O g n i).2.flatten ++ [(mdS O g n i).1.getD ((O.getD i 0).toNat % (mdS O g n i).1.length) 0] := by
  simp only [mdS]
  generalize (mdS O g n i).1.getD ((O.getD i 0).toNat % (mdS O g n i).1.length) 0 = y
  generalize (mdS O g n i).2 = L
  split
  · simp
  · rcases List.eq_nil_or_concat L with rfl | ⟨D, c, rfl⟩
    · simp
    · simp [List.dropLast_concat, List.getLastD_concat]
theorem mdS_perm (O : List Int) (g n : Nat) : ∀ i : Nat, i ≤ n → ((mdS O g n i).1 ++ (mdS O g n i).2.flatten).Perm (iota n)
  | 0, _ => by simp [mdS]
  | i + 1, h => by
    have ih := mdS_perm O g n i (by omega)
    have hl := mdS_len O g n (i := i) (by omega)
    rw [mdS_flat]
    have e1 : (mdS O g n (i + 1)).1 = (mdS O g n i).1.eraseIdx ((O.getD i 0).toNat % (mdS O g n i).1.length) := rfl
    rw [e1]
    have hk : (O.getD i 0).toNat % (mdS O g n i).1.length < (mdS O g n i).1.length := Nat.mod_lt _ (by omega)
    generalize (O.getD i 0).toNat % (mdS O g n i).1.length = k at *
    generalize (mdS O g n i).1 = l at *
    generalize (mdS O g n i).2.flatten = F at *
    have hy : l.getD k 0 = l[k] := by rw [List.getD_eq_getElem?_getD, List.getElem?_eq_getElem hk]; rfl
    rw [hy]
    refine List.Perm.trans ?_ ih
    have p1 : (l[k] :: l.eraseIdx k).Perm l := by
      have e : l = l.take k ++ l[k] :: l.drop (k + 1) := by rw [← List.drop_eq_getElem_cons hk, List.take_append_drop]
      have e2 : (l[k] :: (l.take k ++ l.drop (k + 1))).Perm (l.take k ++ l[k] :: l.drop (k + 1)) := List.perm_middle.symm
      rw [← e] at e2
      rw [List.eraseIdx_eq_take_drop_succ]
      exact e2
    have p2 : (l.eraseIdx k ++ (F ++ [l[k]])).Perm (l[k] :: (l.eraseIdx k ++ F)) := by
      rw [← List.append_assoc]
      exact List.perm_append_singleton _ _
    exact p2.trans (p1.append_right F)
theorem mdS_no (O : List Int) (g n : Nat) : ∀ i : Nat, ∀ l ∈ (mdS O g n i).2, l.length ≠ 0
  | 0, l, h => by simp [mdS] at h
  | i + 1, l, h => by
    simp only [mdS] at h
    split at h
    · rw [List.mem_append, List.mem_singleton] at h
      rcases h with h | rfl
      · exact mdS_no O g n i l h
      · simp
    · rw [List.mem_append, List.mem_singleton] at h
      rcases h with h | rfl
      · exact mdS_no O g n i l (List.dropLast_subset _ h)
      · simp
theorem mdL_cov (s : Nat) (O : List Int) (g most : Nat) (hm : most ≤ 8) : Cov (mdL s O g most) (2 * (s % (most + 1))) := by
  have hs : s % (most + 1) < most + 1 := Nat.mod_lt _ (by omega)
  unfold mdL
  generalize hn : 2 * (s % (most + 1)) = n
  have hp := mdS_perm O g n n (Nat.le_refl _)
  have hl := mdS_len O g n (i := n) (Nat.le_refl _)
  have h0 : (mdS O g n n).1 = [] := List.length_eq_zero_iff.1 (by omega)
  rw [h0, List.nil_append] at hp
  have hnd : (iota n).Nodup := by
    unfold iota
    exact List.Pairwise.map _ (fun a b h e => h (by omega)) List.nodup_range
  refine ⟨hp.nodup_iff.2 hnd, fun x hx => ?_, ?_, by omega⟩
  · have := hp.mem_iff.1 hx
    simp only [iota, List.mem_map, List.mem_range] at this
    obtain ⟨a, ha, rfl⟩ := this
    omega
  · rw [← total_flatten, hp.length_eq, iota_len]
theorem mdL_chk (s : Nat) (O : List Int) (g most : Nat) (hm : most ≤ 8) : chk (mdL s O g most) = 0 :=
  (mdL_cov s O g most hm).chk (mdS_no O g _ _) (by omega)
end
section
set_option maxRecDepth 4000
theorem XZ_stepC' {R : Rsv} {k0 : Nat} {a b : PCode} {s : ST} {Q : Exit → ST → Prop} (s1 s2 : ST) (h1 : ∀ (N : ST → Prop) (Q' : Exit → ST → Prop), N s1 → XZ R k0 a s (thenE N Q')) (hc : ChgT k0 s1 s2) (h2 : XZ R k0 b s2 Q) : XZ R k0 (.seqC a b) s Q := h1 _ _ ⟨s2, hc, h2⟩
theorem sk_len {s : Int} {O : List Int} {g : Int} (h : O.length = 16) : (skA s O g).length = 18 := by simp [skA, u8s, h]
theorem mdV_or (L : List (List Int)) : mdV L = .agg [.il (lls L) L.length false] ∨ (mdV L = .agg [.v (.slice none 0 0)] ∧ L = []) := by
  unfold mdV
  by_cases h0 : L.length = 0
  · exact .inr ⟨by rw [if_pos h0], List.length_eq_zero_iff.1 h0⟩
  · exact .inl (by rw [if_neg h0])
theorem gd_of {L : List (List Int)} (hc : chk L = 0) : smM L = true ∧ gdM L = true := by
  obtain ⟨-, h16, -, hP, -⟩ := tab_pts hc
  have hs : smM L = true := by simp only [smM, Bool.and_eq_true, decide_eq_true_eq]; omega
  exact ⟨hs, by simp only [gdM, hs, Bool.true_and, decide_eq_true_eq]; exact hc⟩
theorem genV_of {L : List (List Int)} (hc : chk L = 0) : genV L = genN L := by unfold genV; rw [if_pos hc]
end
section
set_option maxRecDepth 4000
def flt (n : Int) (l : List Int) : List Int := l.filterMap fun e => if e < 2 * n then some e else if 2 * n + 1 < e then some (e - 2) else none
theorem flt_snoc (n : Int) (l : List Int) (e : Int) : flt n (l ++ [e]) = if e < 2 * n then flt n l ++ [e] else if 2 * n + 1 < e then flt n l ++ [e - 2] else flt n l := by
  simp only [flt, List.filterMap_append, List.filterMap_cons, List.filterMap_nil]
  split
  · rename_i h
    split at h
    · cases h
    · split at h
      · cases h
      · rename_i h1 h2; rw [if_neg h1, if_neg h2]; simp
  · rename_i x h
    split at h
    · rename_i h1; cases h; rw [if_pos h1]
    · split at h
      · rename_i h1 h2; cases h; rw [if_neg h1, if_pos h2]
      · cases h
theorem flt_len (n : Int) (l : List Int) : (flt n l).length ≤ l.length := List.length_filterMap_le _ _
theorem wk_last (G : List (List Int)) : WkB (.cells (lls G ++ [.v (.slice none 0 0)])) (.cells (lls (G ++ [[]]))) := by
  refine ⟨by simp, fun i x y hx hy => ?_⟩
  have e : lls (G ++ [[]]) = lls G ++ [.il [] 0 false] := by simp [lls, ints, eL]
  rw [e, List.getElem?_append] at hy
  rw [List.getElem?_append] at hx
  split at hx
  · rename_i h; rw [if_pos h, hx] at hy; cases hy; exact .refl
  · rename_i h
    rw [if_neg h] at hy
    cases hi : i - (lls G).length with
    | zero => rw [hi] at hx hy; simp at hx hy; subst hx hy; exact .nil
    | succ j => rw [hi] at hx; simp at hx
def st21 (L : List (List Int)) (u : Bool) (line : Int) (i : Nat) (out : List (List Int)) : ST :=
  ⟨[(1, vI line), (4, .ptr 0 0), (8, fA 1 out), (37, .il (lls L) L.length u), (38, vI L.length), (39, vI i)], (0, .cells [.v (.slice none 0 0)]) :: fH 1 out, 1 + fN out⟩
def in21 (L : List (List Int)) (u : Bool) (line : Int) (i : Nat) (out : List (List Int)) (l : List Int) (k : Nat) (acc : List Int) : ST :=
  ⟨[(1, vI line), (4, .ptr 0 0), (8, fA 1 out), (11, gA (1 + fN out) acc), (37, .il (lls L) L.length u), (38, vI L.length), (39, vI i), (43, .il (ints l) l.length false), (44, vI l.length), (45, vI k)], (0, .cells [.v (.slice none 0 0)]) :: (fH 1 out ++ gH (1 + fN out) acc), 1 + fN out + gN acc⟩
set_option maxHeartbeats 1000000
theorem in21_ok {ss : List Sp} {L : List (List Int)} {u : Bool} {line : Int} {i : Nat} {out : List (List Int)} {l : List Int} {s0 : ST} {Q : Exit → ST → Prop} (hlen : l.length ≤ 10000) (hline : 0 ≤ line ∧ line ≤ 8) (hl : ∀ e ∈ l, 0 ≤ e ∧ e < 16)
    (hs0 : ChgT 0 s0 (in21 L u line i out l 0 [])) (hQ : Q (.exit 3) (in21 L u line i out l l.length (flt line l))) : XZ (rZ (spc ss)) 0 (.loop p21_l0) s0 Q := by
  refine XZ_for (fun k : Nat => in21 L u line i out l k (flt line (l.take k))) (fun k => l.length - k) (fun k => k ≤ l.length) 0 (by simp) (by simpa [flt] using hs0) ?_
  intro k hk N Q' hN hE
  rcases Nat.lt_or_ge k l.length with h | h
  · have hkc : (k : Int) < l.length := by omega
    obtain ⟨e, r, -, e2, e3, -, e5⟩ := drop_split h
    obtain ⟨b0, b1⟩ := hl e e5
    have hnext : flt line (l.take (k + 1)) = if e < 2 * line then flt line (l.take k) ++ [e] else if 2 * line + 1 < e then flt line (l.take k) ++ [e - 2] else flt line (l.take k) := by rw [List.take_succ_eq_append_getElem h, e3]; exact flt_snoc line (l.take k) e
    have hal : (flt line (l.take k)).length ≤ 10000 := Nat.le_trans (flt_len _ _) (by simp; omega)
    have fin : ∀ s', ChgT 0 s' (in21 L u line i out l ((k + 1 : Nat)) (if e < 2 * line then flt line (l.take k) ++ [e] else if 2 * line + 1 < e then flt line (l.take k) ++ [e - 2] else flt line (l.take k))) → N s' := fun s' hh => hN s' (k + 1) (by omega) h (by rw [hnext]; exact hh)
    clear hN hnext
    generalize flt line (l.take k) = acc at *
    by_cases hlo : e < 2 * line
    · rw [if_pos hlo] at fin
      rcases out with _ | ⟨o, orr⟩
      · rcases acc with _ | ⟨a, ar⟩
        · simp only [in21, fA, fH, fN, gA, gH, gN, List.nil_append] at fin ⊢
          delta p21_l0 p21_r12 p21_r13 p21_r14 p21_r15 p21_r16 p21_r17 p21_r18
          simp (disch := omega) [oLt, oLe, oLtN, oLeN, nLt, nLe, nLtN, nLeN, hkc, h, e2, e3, hlo]
          exact fin _ (.tot [4, 11] (by simp))
        · simp only [List.length_cons] at hal
          simp only [in21, fA, fH, fN, gA, gH, gN, List.cons_append] at fin ⊢
          delta p21_l0 p21_r12 p21_r13 p21_r14 p21_r15 p21_r16 p21_r17 p21_r18
          simp (disch := omega) [oLt, oLe, oLtN, oLeN, nLt, nLe, nLtN, nLeN, hkc, h, e2, e3, hlo]
          exact fin _ (.tot [4, 11] (by simp))
      · rcases acc with _ | ⟨a, ar⟩
        · simp only [in21, fA, fH, fN, gA, gH, gN, List.nil_append] at fin ⊢
          delta p21_l0 p21_r12 p21_r13 p21_r14 p21_r15 p21_r16 p21_r17 p21_r18
          simp (disch := omega) [oLt, oLe, oLtN, oLeN, nLt, nLe, nLtN, nLeN, hkc, h, e2, e3, hlo]
          exact fin _ (.tot [4, 8, 11] (by simp))
        · simp only [List.length_cons] at hal
          simp only [in21, fA, fH, fN, gA, gH, gN, List.cons_append] at fin ⊢
          delta p21_l0 p21_r12 p21_r13 p21_r14 p21_r15 p21_r16 p21_r17 p21_r18
          simp (disch := omega) [oLt, oLe, oLtN, oLeN, nLt, nLe, nLtN, nLeN, hkc, h, e2, e3, hlo]
          exact fin _ (.tot [4, 8, 11] (by simp))
    · rw [if_neg hlo] at fin
      by_cases hhi : 2 * line + 1 < e
      · rw [if_pos hhi] at fin
        rcases out with _ | ⟨o, orr⟩
        · rcases acc with _ | ⟨a, ar⟩
          · simp only [in21, fA, fH, fN, gA, gH, gN, List.nil_append] at fin ⊢
            delta p21_l0 p21_r12 p21_r13 p21_r14 p21_r15 p21_r16 p21_r17 p21_r18
            simp (disch := omega) [oLt, oLe, oLtN, oLeN, nLt, nLe, nLtN, nLeN, hkc, h, e2, e3, hlo, hhi]
            exact fin _ (.tot [4, 11] (by simp))
          · simp only [List.length_cons] at hal
            simp only [in21, fA, fH, fN, gA, gH, gN, List.cons_append] at fin ⊢
            delta p21_l0 p21_r12 p21_r13 p21_r14 p21_r15 p21_r16 p21_r17 p21_r18
            simp (disch := omega) [oLt, oLe, oLtN, oLeN, nLt, nLe, nLtN, nLeN, hkc, h, e2, e3, hlo, hhi]
            exact fin _ (.tot [4, 11] (by simp))
        · rcases acc with _ | ⟨a, ar⟩
          · simp only [in21, fA, fH, fN, gA, gH, gN, List.nil_append] at fin ⊢
            delta p21_l0 p21_r12 p21_r13 p21_r14 p21_r15 p21_r16 p21_r17 p21_r18
            simp (disch := omega) [oLt, oLe, oLtN, oLeN, nLt, nLe, nLtN, nLeN, hkc, h, e2, e3, hlo, hhi]
            exact fin _ (.tot [4, 8, 11] (by simp))
          · simp only [List.length_cons] at hal
            simp only [in21, fA, fH, fN, gA, gH, gN, List.cons_append] at fin ⊢
            delta p21_l0 p21_r12 p21_r13 p21_r14 p21_r15 p21_r16 p21_r17 p21_r18
            simp (disch := omega) [oLt, oLe, oLtN, oLeN, nLt, nLe, nLtN, nLeN, hkc, h, e2, e3, hlo, hhi]
            exact fin _ (.tot [4, 8, 11] (by simp))
      · rw [if_neg hhi] at fin
        rcases out with _ | ⟨o, orr⟩
        · rcases acc with _ | ⟨a, ar⟩
          · simp only [in21, fA, fH, fN, gA, gH, gN] at fin ⊢
            delta p21_l0 p21_r12 p21_r13 p21_r14 p21_r15 p21_r16 p21_r17 p21_r18
            simp (disch := omega) [oLt, oLe, oLtN, oLeN, nLt, nLe, nLtN, nLeN, hkc, h, e2, e3, hlo, hhi]
            exact fin _ (.tot [4] (by simp))
          · simp only [in21, fA, fH, fN, gA, gH, gN] at fin ⊢
            delta p21_l0 p21_r12 p21_r13 p21_r14 p21_r15 p21_r16 p21_r17 p21_r18
            simp (disch := omega) [oLt, oLe, oLtN, oLeN, nLt, nLe, nLtN, nLeN, hkc, h, e2, e3, hlo, hhi]
            exact fin _ (.tot [4, 11] (by simp))
        · rcases acc with _ | ⟨a, ar⟩
          · simp only [in21, fA, fH, fN, gA, gH, gN] at fin ⊢
            delta p21_l0 p21_r12 p21_r13 p21_r14 p21_r15 p21_r16 p21_r17 p21_r18
            simp (disch := omega) [oLt, oLe, oLtN, oLeN, nLt, nLe, nLtN, nLeN, hkc, h, e2, e3, hlo, hhi]
            exact fin _ (.tot [4, 8] (by simp))
          · simp only [in21, fA, fH, fN, gA, gH, gN] at fin ⊢
            delta p21_l0 p21_r12 p21_r13 p21_r14 p21_r15 p21_r16 p21_r17 p21_r18
            simp (disch := omega) [oLt, oLe, oLtN, oLeN, nLt, nLe, nLtN, nLeN, hkc, h, e2, e3, hlo, hhi]
            exact fin _ (.tot [4, 8, 11] (by simp))
  · obtain rfl : k = l.length := by omega
    have hkc : ¬ (l.length : Int) < l.length := by omega
    rw [List.take_length]
    clear hN
    generalize flt line l = acc at *
    rcases out with _ | ⟨o, orr⟩
    · rcases acc with _ | ⟨a, ar⟩
      · simp only [in21, fA, fH, fN, gA, gH, gN] at hQ ⊢
        delta p21_l0 p21_r12 p21_r13 p21_r14 p21_r15 p21_r16 p21_r17 p21_r18
        simp (disch := omega) [oLt, oLe, oLtN, oLeN, nLt, nLe, nLtN, nLeN, hkc]
        exact hE _ _ _ (.tot [4] (by simp)) hQ
      · simp only [in21, fA, fH, fN, gA, gH, gN] at hQ ⊢
        delta p21_l0 p21_r12 p21_r13 p21_r14 p21_r15 p21_r16 p21_r17 p21_r18
        simp (disch := omega) [oLt, oLe, oLtN, oLeN, nLt, nLe, nLtN, nLeN, hkc]
        exact hE _ _ _ (.tot [4, 11] (by simp)) hQ
    · rcases acc with _ | ⟨a, ar⟩
      · simp only [in21, fA, fH, fN, gA, gH, gN] at hQ ⊢
        delta p21_l0 p21_r12 p21_r13 p21_r14 p21_r15 p21_r16 p21_r17 p21_r18
        simp (disch := omega) [oLt, oLe, oLtN, oLeN, nLt, nLe, nLtN, nLeN, hkc]
        exact hE _ _ _ (.tot [4, 8] (by simp)) hQ
      · simp only [in21, fA, fH, fN, gA, gH, gN] at hQ ⊢
        delta p21_l0 p21_r12 p21_r13 p21_r14 p21_r15 p21_r16 p21_r17 p21_r18
        simp (disch := omega) [oLt, oLe, oLtN, oLeN, nLt, nLe, nLtN, nLeN, hkc]
        exact hE _ _ _ (.tot [4, 8, 11] (by simp)) hQ
end
end Go.Sx.Ch
