/- What functions of the chart layer's document return: reached, parts. No conditions. -/
import Derived.Test.YtfiebjbhiflfpaaDoorSxJHHtoHI
import Derived.Test.YtfiebjbhiflfpaaDoorSxCS
import Derived.Test.YtfiebjbhiflfpaaDoorSxJCPtoCR
import Derived.Test.YtfiebjbhiflfpaaDoorSxJHFtoHG
import Derived.Test.YtfiebjbhiflfpaaDoorSxJDVtoDV0
import Derived.Test.YtfiebjbhiflfpaaDoorSxJCNtoCO
set_option linter.unusedVariables false
set_option linter.unusedSimpArgs false
set_option maxRecDepth 4000
namespace Go.Sx.Ch
open Go Go.Sx Go.Proofs

theorem chk_in' {L : List (List Int)} (hc : chk L = 0) : inM L = true := List.all_eq_true.2 fun l hl => List.all_eq_true.2 fun e he => by
  have := (chk_cov hc).rng e (List.mem_flatten.2 ⟨l, hl, he⟩)
  have := (chk_cov hc).le
  rw [within_iff]; omega
theorem rchL_len {L : List (List Int)} : ∀ {l met : List Int}, (l.foldl (rchI L) met).length ≤ met.length + l.length
  | [], met => by simp
  | e :: l, met => by
    rw [List.foldl_cons]
    have h1 := rchL_len (L := L) (l := l) (met := rchI L met e)
    have h2 : (rchI L met e).length ≤ met.length + 1 := by unfold rchI; split <;> simp
    simp only [List.length_cons]; omega
theorem rchL_ne {L : List (List Int)} {l met : List Int} (h : met ≠ []) : l.foldl (rchI L) met ≠ [] := by
  obtain ⟨x, hx⟩ := List.exists_mem_of_ne_nil _ h
  intro e
  have : x ∈ l.foldl (rchI L) met := rchL_mem.2 (.inl hx)
  rw [e] at this; cases this
def st103 (L : List (List Int)) (u : Bool) (i : Nat) (met : List Int) (cap : Option Nat) : ST :=
  ⟨[(2, .ptr 0 0), (5, .ref 1 0 met.length 1 cap), (6, vI i)], [(0, .cells [.il (lls L) L.length u]), (1, .cells (ints met))], 2⟩
def in103 (L : List (List Int)) (u : Bool) (i : Nat) (l met : List Int) (cap : Option Nat) (k : Nat) : ST :=
  ⟨[(2, .ptr 0 0), (5, .ref 1 0 met.length 1 cap), (6, vI i), (7, .il (ints l) l.length false), (8, vI k)], [(0, .cells [.il (lls L) L.length u]), (1, .cells (ints met))], 2⟩
set_option maxHeartbeats 4000000
theorem in103_ok {L : List (List Int)} {u : Bool} {i : Nat} {l met0 : List Int} {cap0 : Option Nat} {s0 : ST} {Q : Exit → ST → Prop} (hs : smM L = true) (hin : inL l = true) (hne : met0 ≠ []) (hm : met0.length ≤ 10000) (hl : l.length ≤ 10000) (hcap : cap0 = none ∨ cap0 = some met0.length)
    (hs0 : ChgT 0 s0 (in103 L u i l met0 cap0 0)) (hq : ∀ cap, (cap = none ∨ cap = some (l.foldl (rchI L) met0).length) → Q (.exit 2) (st103 L u i (l.foldl (rchI L) met0) cap)) : XZ (rZ (spc [s75, s86, s98])) 0 (.loop p103_l0) s0 Q := by
  refine XZ_for (fun q : Nat × Option Nat => in103 L u i l ((l.take q.1).foldl (rchI L) met0) q.2 q.1) (fun q => l.length - q.1) (fun q => q.1 ≤ l.length ∧ (q.2 = none ∨ q.2 = some ((l.take q.1).foldl (rchI L) met0).length)) (0, cap0) ⟨Nat.zero_le _, by simpa using hcap⟩ (by simpa using hs0) ?_
  rintro ⟨k, cap⟩ ⟨hk, hc⟩ N Q' hN hE
  simp only at hk hc hN ⊢
  rcases Nat.lt_or_ge k l.length with h | h
  · have hkc : (k : Int) < l.length := by omega
    obtain ⟨e, r, e1, e2, e3, e4, e5⟩ := drop_split h
    have he := List.all_eq_true.1 hin e e5
    have hnx : (l.take (k + 1)).foldl (rchI L) met0 = rchI L ((l.take k).foldl (rchI L) met0) e := by
      rw [List.take_succ_eq_append_getElem h, e3, List.foldl_append]; rfl
    have hlen := rchL_len (L := L) (l := l.take k) (met := met0)
    rw [List.length_take] at hlen
    have hmn := rchL_ne (L := L) (l := l.take k) hne
    have hM : ((l.take k).foldl (rchI L) met0).length ≤ 20000 := by omega
    have fin : ∀ s' cap', (cap' = none ∨ cap' = some (rchI L ((l.take k).foldl (rchI L) met0) e).length) → ChgT 0 s' (in103 L u i l (rchI L ((l.take k).foldl (rchI L) met0) e) cap' (k + 1)) → N s' := fun s' cap' h1 h2 => hN s' (k + 1, cap') (by simp only; omega) ⟨h, by rw [hnx]; exact h1⟩ (by simp only; rw [hnx]; exact h2)
    clear hN hnx hq hs0 hE hcap hlen
    generalize (l.take k).foldl (rchI L) met0 = met at *
    have hsm : small met = true := by simp only [small, decide_eq_true_eq]; omega
    unfold rchI at fin
    obtain ⟨p, hp⟩ : ∃ p, ptL L (otherI e) = p := ⟨_, rfl⟩
    rw [hp] at fin
    obtain ⟨a0, ar, rfl⟩ := List.exists_cons_of_ne_nil hmn
    unfold in103 at fin ⊢
    by_cases hlt : idxL (a0 :: ar) p < 0
    · rw [if_pos hlt] at fin
      simp only [List.length_append, List.length_cons, List.length_nil, List.length_singleton, Nat.zero_add] at fin hc hM ⊢
      rcases hc with rfl | rfl
      · delta p103_l0 p103_r6 p103_r7 p103_r8 p103_r9 p103_r10
        simp (disch := omega) [oLt, oLe, oLtN, oLeN, nLt, nLe, nLtN, nLeN, hkc, h, e2, e3, he, hs, hp, hsm, hlt]
        exact fin _ none (.inl rfl) (.tot [2, 5] (by simp))
      · delta p103_l0 p103_r6 p103_r7 p103_r8 p103_r9 p103_r10
        simp (disch := omega) [oLt, oLe, oLtN, oLeN, nLt, nLe, nLtN, nLeN, hkc, h, e2, e3, he, hs, hp, hsm, hlt]
        exact fin _ none (.inl rfl) (.tot [2, 5] (by simp))
    · rw [if_neg hlt] at fin
      simp only [List.length_cons] at fin hc hM ⊢
      rcases hc with rfl | rfl
      · delta p103_l0 p103_r6 p103_r7 p103_r8 p103_r9 p103_r10
        simp (disch := omega) [oLt, oLe, oLtN, oLeN, nLt, nLe, nLtN, nLeN, hkc, h, e2, e3, he, hs, hp, hsm, hlt]
        exact fin _ none (.inl rfl) (.tot [2, 5] (by simp))
      · delta p103_l0 p103_r6 p103_r7 p103_r8 p103_r9 p103_r10
        simp (disch := omega) [oLt, oLe, oLtN, oLeN, nLt, nLe, nLtN, nLeN, hkc, h, e2, e3, he, hs, hp, hsm, hlt]
        exact fin _ (some (ar.length + 1)) (.inr rfl) (.tot [2, 5] (by simp))
  · obtain rfl : k = l.length := by omega
    have hkc : ¬ (l.length : Int) < l.length := by omega
    rw [List.take_length] at hc ⊢
    have := hq cap hc
    clear hq hN
    generalize l.foldl (rchI L) met0 = met at *
    unfold in103 st103 at *
    delta p103_l0 p103_r6 p103_r7 p103_r8 p103_r9 p103_r10
    simp (disch := omega) [oLt, oLe, oLtN, oLeN, nLt, nLe, nLtN, nLeN, hkc]
    exact hE _ _ _ (.tot [2, 5] (by simp)) this
/-- The map is right. -/
def gdM (L : List (List Int)) : Bool := smM L && decide (chk L = 0)
def s103 : Sp := spT 103 [.mp, .i] fun (L : List (List Int)) (p : Int) => res (gdM L && decide (0 ≤ p ∧ p < L.length)) (.il (ints (rchd L p.toNat)) (rchd L p.toNat).length false)
@[simp] theorem s103_g : s103.g = 103 := rfl
@[simp] theorem s103_f : s103.f = (spT 103 [.mp, .i] fun (L : List (List Int)) (p : Int) => res (gdM L && decide (0 ≤ p ∧ p < L.length)) (.il (ints (rchd L p.toNat)) (rchd L p.toNat).length false)).f := rfl
theorem s103_ok : s103.ok Tryd.prog := by
  apply spT_ok
  simp only [OkT, Ty.all, List.nil_append, List.cons_append]
  intro (L : List (List Int)) u (p : Int)
  apply okT_res; intro hg
  simp only [gdM, Bool.and_eq_true, decide_eq_true_eq] at hg
  obtain ⟨⟨hs, hc⟩, hp0, hpL⟩ := hg
  obtain ⟨p, rfl⟩ := Int.eq_ofNat_of_zero_le hp0
  have hp : p < L.length := by omega
  have g := chk_good hc
  refine P103.rz (ss := [s75, s86, s98]) ⟨s75_ok, s86_ok, s98_ok, trivial⟩ (by simp) fun Q hQ => ?_
  rw [Int.toNat_natCast] at hQ
  delta p103 p103_r0 p103_r1 p103_r2
  simp (disch := omega) [oLt, oLe, oLtN, oLeN, nLt, nLe, nLtN, nLeN]
  refine XZ_for (fun q : Nat × List Int × Option Nat => st103 L u q.1 q.2.1 q.2.2) (fun q => 17 - q.1) (fun q => RInv L (total L) p q.1 q.2.1 ∧ (q.2.2 = none ∨ q.2.2 = some q.2.1.length) ∧ rchF L (17 - q.1) q.1 q.2.1 = rchd L p) (0, [(p : Int)], some 1) ⟨rinv_init hp, .inr rfl, rfl⟩ (.tot [2, 5] (by simp [st103])) ?_
  rintro ⟨i, met, cap⟩ ⟨hI, hcap, hR⟩ N Q' hN hE
  simp only at hI hcap hR hN ⊢
  have hml := hI.len
  have h16 := g.p16
  have hne : met ≠ [] := fun e => by have := hI.fst; rw [e] at this; cases this
  rcases Nat.lt_or_ge i met.length with h | h
  · have hic : (i : Int) < met.length := by omega
    have hst : 17 - i = (17 - (i + 1)) + 1 := by omega
    rw [hst, rchF, if_pos h] at hR
    have hI' := rinv_step g hI h
    obtain ⟨x, hx⟩ : ∃ x, met[i]? = some x := ⟨met[i], by rw [List.getElem?_eq_getElem h]⟩
    have hx' := (List.getElem?_eq_some_iff.1 hx).2
    have hxd : met.getD i 0 = x := by rw [List.getD_eq_getElem?_getD, hx]; rfl
    rw [hxd] at hR hI'
    obtain ⟨q, hq, rfl, -⟩ := hI.pts x (List.mem_of_getElem? hx)
    have hqc : (q : Int) < L.length := by omega
    obtain ⟨l, hl, hil⟩ := inM_get (chk_in' hc) hq
    have hl' := (List.getElem?_eq_some_iff.1 hl).2
    have hsm := smM_small hs (List.mem_of_getElem? hl)
    have hll : l.length ≤ 10000 := by
      have := total_mem (List.mem_of_getElem? hl)
      simp only [smM, Bool.and_eq_true, decide_eq_true_eq] at hs; omega
    have hE2 : rchE L met (q : Int) = l.foldl (rchI L) met := by unfold rchE; rw [Int.toNat_natCast, List.getD_eq_getElem?_getD, hl]; rfl
    rw [hE2] at hR hI'
    have fin : ∀ s' cap', (cap' = none ∨ cap' = some (l.foldl (rchI L) met).length) → ChgT 0 s' (st103 L u (i + 1) (l.foldl (rchI L) met) cap') → N s' := fun s' cap' h1 h2 => hN s' (i + 1, l.foldl (rchI L) met, cap') (by simp only; omega) ⟨hI', h1, hR⟩ h2
    clear hN
    unfold st103 at fin ⊢
    delta p103_l1 p103_r3 p103_r4 p103_r5
    simp (disch := omega) [oLt, oLe, oLtN, oLeN, nLt, nLe, nLtN, nLeN, hic, h, hx, hx', hqc, hq, hl, hl']
    refine in103_ok (u := u) (i := i) (cap0 := cap) hs hil hne (by omega) hll hcap (.tot [2, 5] (by simp [in103])) ?_
    intro cap' hc'
    have hlen2 := rchL_len (L := L) (l := l) (met := met)
    simp only [inBE, thenE, if_true]
    unfold st103
    generalize l.foldl (rchI L) met = met2 at *
    delta p103_r11
    simp (disch := omega) [oLt, oLe, oLtN, oLeN, nLt, nLe, nLtN, nLeN]
    exact fin _ cap' hc' (.tot [2, 5] (by simp))
  · have : i = met.length := by have := hI.i16; omega
    subst this
    have hic : ¬ (met.length : Int) < met.length := by omega
    have hst : 17 - met.length = (16 - met.length) + 1 := by omega
    rw [hst, rchF, if_neg (Nat.lt_irrefl _)] at hR
    rw [← hR] at hQ
    unfold st103
    delta p103_l1 p103_r3 p103_r4 p103_r5
    simp (disch := omega) [oLt, oLe, oLtN, oLeN, nLt, nLe, nLtN, nLeN, hic]
    refine hE _ _ _ .refl ?_
    delta p103_r12
    simp (disch := omega) [oLt, oLe, oLtN, oLeN, nLt, nLe, nLtN, nLeN]
    exact hQ _ _ (.fz [4] _ (.inl rfl) (by simp; rfl) (by simp) (by simp))
end Go.Sx.Ch
set_option maxRecDepth 4000
namespace Go.Sx.Ch
open Go Go.Sx Go.Proofs

theorem relab_succ {P : Nat} {fr to x : Int} {l : List Int} (hx : l[P]? = some x) : relab (P + 1) fr to l = (relab P fr to l).set P (if x = fr then to else x) := by
  have hP := (List.getElem?_eq_some_iff.1 hx).1
  have hx' := (List.getElem?_eq_some_iff.1 hx).2
  unfold relab
  rw [List.take_succ_eq_append_getElem hP, hx', List.map_append, List.drop_eq_getElem_cons hP, hx', List.append_assoc]
  have hl : ((l.take P).map fun x => if x = fr then to else x).length = P := by simp; omega
  rw [List.set_append_right _ _ (by omega), hl, Nat.sub_self]
  rfl
theorem relab_at {P : Nat} {fr to x : Int} {l : List Int} (hx : l[P]? = some x) : (relab P fr to l)[P]? = some x := by
  have hP := (List.getElem?_eq_some_iff.1 hx).1
  unfold relab
  have hl : ((l.take P).map fun x => if x = fr then to else x).length = P := by simp; omega
  rw [List.getElem?_append_right (by omega), hl, Nat.sub_self, List.getElem?_drop, Nat.add_zero]
  exact hx
theorem relab_zero (fr to : Int) (l : List Int) : relab 0 fr to l = l := by simp [relab]
theorem labI_len (P : Nat) : (labI P).length = 16 := by simp [labI]
theorem labI_zero : labI 0 = Z16 := by decide
theorem labI_succ {P : Nat} (h : P < 16) : (labI P).set P (P : Int) = labI (P + 1) := by
  apply List.ext_getElem?
  intro i
  by_cases hi : i < 16
  · by_cases e : i = P
    · subst e
      rw [List.getElem?_set_self (by rw [labI_len]; exact hi)]
      simp [labI, hi]
    · rw [List.getElem?_set_ne (Ne.symm e)]
      simp only [labI, List.getElem?_map, List.getElem?_range hi, Option.map_some, Option.some.injEq]
      by_cases h1 : i < P
      · rw [if_pos h1, if_pos (by omega)]
      · rw [if_neg h1, if_neg (by omega)]
  · rw [List.getElem?_eq_none (by rw [List.length_set, labI_len]; omega), List.getElem?_eq_none (by rw [labI_len]; omega)]
theorem labN_len {at' : Nat → Nat} {P : Nat} : ∀ k, (labN at' P k).1.length = 16
  | 0 => labI_len P
  | k + 1 => by
    rw [labN_succ]; unfold labS
    split
    · exact labN_len k
    · simp only; rw [relab_len, labN_len k]
theorem labN_congr {f g : Nat → Nat} {P : Nat} : ∀ {k : Nat}, (∀ m, m < 2 * k → f m = g m) → labN f P k = labN g P k
  | 0, _ => rfl
  | k + 1, h => by
    rw [labN_succ, labN_succ, labN_congr (k := k) fun m hm => h m (by omega)]
    unfold labS
    rw [h (2 * k) (by omega), h (2 * k + 1) (by omega)]
theorem labN_cnt {at' : Nat → Nat} {P : Nat} : ∀ k, (P : Int) - k ≤ (labN at' P k).2 ∧ (labN at' P k).2 ≤ P
  | 0 => by simp [labN]
  | k + 1 => by
    have := labN_cnt (at' := at') (P := P) k
    rw [labN_succ]; unfold labS
    split
    · omega
    · simp only; omega
set_option maxHeartbeats 4000000
def in85 (C : List Int) (n : Int) (e : Nat) (fr to : Int) (P : Nat) (l : List Int) (p : Nat) : ST :=
  ⟨[(1, .ptr 0 0), (3, .ptr 1 0), (5, vI n), (6, vI e), (7, vI fr), (8, vI to), (48, .ref 1 0 P 1 (some 16)), (49, vI P), (50, vI p)], [(0, .cells (ints C)), (1, .cells (ints (relab p fr to l)))], 2⟩
theorem in85_ok {ss : List Sp} {C : List Int} {n : Int} {e : Nat} {fr to : Int} {P : Nat} {l : List Int} {s0 : ST} {Q : Exit → ST → Prop} (hP : P ≤ 16) (hl : l.length = 16)
    (hs0 : ChgT 0 s0 (in85 C n e fr to P l 0)) (hq : Q (.exit 4) ⟨[(1, .ptr 0 0), (3, .ptr 1 0), (5, vI n), (6, vI e)], [(0, .cells (ints C)), (1, .cells (ints (relab P fr to l)))], 2⟩) : XZ (rZ (spc ss)) 0 (.loop p85_l1) s0 Q := by
  refine XZ_for (fun p : Nat => in85 C n e fr to P l p) (fun p => P - p) (fun p => p ≤ P) 0 (Nat.zero_le _) hs0 ?_
  intro p hp N Q' hN hE
  rcases Nat.lt_or_ge p P with h | h
  · have hpc : (p : Int) < P := by omega
    have hp16 : p < 16 := by omega
    have hp16c : (p : Int) < 16 := by omega
    obtain ⟨x, hx⟩ : ∃ x, l[p]? = some x := ⟨l[p], by rw [List.getElem?_eq_getElem]⟩
    have hg := relab_at (fr := fr) (to := to) hx
    have hsu := relab_succ (fr := fr) (to := to) hx
    have hlen := relab_len p fr to l
    rw [hl] at hlen
    have hg' := (List.getElem?_eq_some_iff.1 hg).2
    have hpl : p < (relab p fr to l).length := by omega
    have fin : ∀ s', ChgT 0 s' ⟨[(1, .ptr 0 0), (3, .ptr 1 0), (5, vI n), (6, vI e), (7, vI fr), (8, vI to), (48, .ref 1 0 P 1 (some 16)), (49, vI P), (50, vI ((p + 1 : Nat) : Int))], [(0, .cells (ints C)), (1, .cells (ints ((relab p fr to l).set p (if x = fr then to else x))))], 2⟩ → N s' := fun s' hh => hN s' (p + 1) (by omega) h (by unfold in85; rw [hsu]; exact hh)
    clear hN hsu hE hq hs0
    unfold in85
    by_cases hxf : x = fr
    · rw [if_pos hxf] at fin
      clear hg'
      generalize relab p fr to l = M at *
      have hg' := (List.getElem?_eq_some_iff.1 hg).2
      delta p85_l1 p85_r14 p85_r15 p85_r16 p85_r17 p85_r18
      simp (disch := omega) [oLt, oLe, oLtN, oLeN, nLt, nLe, nLtN, nLeN, hpc, h, hp16, hp16c, hlen, hpl, hg, hg', hxf]
      exact fin _ (.tot [1, 3] (by simp))
    · rw [if_neg hxf] at fin
      have hself : (relab p fr to l).set p x = relab p fr to l := by
        apply List.ext_getElem?
        intro i
        by_cases hi : i = p
        · subst hi; rw [List.getElem?_set_self hpl, hg]
        · rw [List.getElem?_set_ne (Ne.symm hi)]
      rw [hself] at fin
      clear hg' hself
      generalize relab p fr to l = M at *
      have hg' := (List.getElem?_eq_some_iff.1 hg).2
      delta p85_l1 p85_r14 p85_r15 p85_r16 p85_r17 p85_r18
      simp (disch := omega) [oLt, oLe, oLtN, oLeN, nLt, nLe, nLtN, nLeN, hpc, h, hp16, hp16c, hlen, hpl, hg, hg', hxf]
      exact fin _ (.tot [1, 3] (by simp))
  · obtain rfl : p = P := by omega
    have hpc : ¬ (p : Int) < p := by omega
    unfold in85
    generalize relab p fr to l = M at *
    delta p85_l1 p85_r14 p85_r15 p85_r16 p85_r17 p85_r18
    simp (disch := omega) [oLt, oLe, oLtN, oLeN, nLt, nLe, nLtN, nLeN, hpc]
    exact hE _ _ _ (.tot [1, 3] (by simp)) hq
def atn (C : List Int) (m : Nat) : Nat := (atC C m).toNat
def partC (C : List Int) : Int := (labN (atn C) (ptsC C).toNat ((endsC C).toNat / 2)).2
def g85 (C : List Int) : Bool := g80 C && decide (endsC C % 2 = 0)
def s85 : Sp := spT 85 [.tb] fun (C : List Int) => res (g85 C) (vI (partC C))
@[simp] theorem s85_g : s85.g = 85 := rfl
@[simp] theorem s85_f : s85.f = (spT 85 [.tb] fun (C : List Int) => res (g85 C) (vI (partC C))).f := rfl
theorem s85_ok : s85.ok Tryd.prog := by
  apply spT_ok
  simp only [OkT, Ty.all, List.nil_append, List.cons_append]
  intro (C : List Int)
  apply okT_res; intro hg
  refine P85.rz (ss := []) trivial (by simp) fun Q hQ => ?_
  delta p85 p85_r0 p85_r1 p85_r2
  simp only [g85, Bool.and_eq_true, decide_eq_true_eq] at hg
  obtain ⟨hg, hev⟩ := hg
  obtain ⟨n, P, h34, hn, hP, h0, h33, en, eP, hf⟩ := g80_facts hg
  have h0' := (List.getElem?_eq_some_iff.1 h0).2
  have h33' := (List.getElem?_eq_some_iff.1 h33).2
  have hr : partC C = (labN (atn C) P (n / 2)).2 := by unfold partC; rw [en, eP]; simp
  rw [en] at hev
  rw [hr] at hQ
  simp (disch := omega) [oLt, oLe, oLtN, oLeN, nLt, nLe, nLtN, nLeN, zl16, h34, h0, h0', h33, h33']
  refine XZ_for (fun p : Nat => ⟨[(1, .ptr 0 0), (3, .ptr 1 0), (12, vI P), (13, vI p)], [(0, .cells (ints C)), (1, .cells (ints (labI p)))], 2⟩) (fun p => P - p) (fun p => p ≤ P) 0 (Nat.zero_le _) (.tot [1, 3] (by simp [labI_zero])) ?_
  intro p hp N Q' hN hE
  rcases Nat.lt_or_ge p P with h | h
  · have hpc : (p : Int) < P := by omega
    have hp16 : p < 16 := by omega
    have hp16c : (p : Int) < 16 := by omega
    have hlen := labI_len p
    have hsu := labI_succ hp16
    have fin : ∀ s', ChgT 0 s' ⟨[(1, .ptr 0 0), (3, .ptr 1 0), (12, vI P), (13, vI ((p + 1 : Nat) : Int))], [(0, .cells (ints C)), (1, .cells (ints ((labI p).set p (p : Int))))], 2⟩ → N s' := fun s' hh => hN s' (p + 1) (by omega) h (by rw [← hsu]; exact hh)
    clear hN hsu
    generalize labI p = M at *
    delta p85_l0 p85_r3 p85_r4 p85_r5 p85_r6
    simp (disch := omega) [oLt, oLe, oLtN, oLeN, nLt, nLe, nLtN, nLeN, hpc, hp16, hp16c, hlen]
    exact fin _ (.tot [1, 3] (by simp))
  · obtain rfl : p = P := by omega
    have hpc : ¬ (p : Int) < p := by omega
    have hI : labI p = (labN (atn C) p 0).1 := rfl
    have hI2 : (p : Int) = (labN (atn C) p 0).2 := rfl
    delta p85_l0 p85_r3 p85_r4 p85_r5 p85_r6
    simp (disch := omega) [oLt, oLe, oLtN, oLeN, nLt, nLe, nLtN, nLeN, hpc]
    refine hE _ _ _ .refl ?_
    delta p85_r7 p85_r8
    simp (disch := omega) [oLt, oLe, oLtN, oLeN, nLt, nLe, nLtN, nLeN, h34, h33, h33']
    clear hN hE
    refine XZ_for (fun k : Nat => ⟨[(1, .ptr 0 0), (3, .ptr 1 0), (5, vI (labN (atn C) p k).2), (6, vI (2 * k : Nat))], [(0, .cells (ints C)), (1, .cells (ints (labN (atn C) p k).1))], 2⟩) (fun k => n / 2 - k) (fun k => k ≤ n / 2) 0 (Nat.zero_le _) (.tot [1, 3] (by simp [hI.symm]; exact hI2)) ?_
    intro k hk N Q' hN hE
    have hlen := labN_len (at' := atn C) (P := p) k
    have hcnt := labN_cnt (at' := atn C) (P := p) k
    have hsu := labN_succ (atn C) p k
    unfold labS at hsu
    obtain ⟨e, he⟩ : ∃ e, 2 * k = e := ⟨_, rfl⟩
    rcases Nat.lt_or_ge k (n / 2) with h | h
    · have hen : e < n := by omega
      have hec : (e : Int) < n := by omega
      have h16c : (e : Int) < 16 := by omega
      have h16c1 : (e : Int) + 1 < 16 := by omega
      have h16' : e < 16 := by omega
      have h16'' : e + 1 < 16 := by omega
      obtain ⟨-, a, -, -, ha, -, -, q1, -, q2, -⟩ := hf e hen
      obtain ⟨-, b, -, -, hb, -, -, q3, -, q4, -⟩ := hf (e + 1) (by omega)
      have q1' := (List.getElem?_eq_some_iff.1 q1).2
      have q3' := (List.getElem?_eq_some_iff.1 q3).2
      have ea : atn C (2 * k) = a := by unfold atn; rw [he, q2]; simp
      have eb : atn C (2 * k + 1) = b := by unfold atn; rw [he, q4]; simp
      have ha16 : a < 16 := by omega
      have hb16 : b < 16 := by omega
      have ha16c : (a : Int) < 16 := by omega
      have hb16c : (b : Int) < 16 := by omega
      obtain ⟨x, hx⟩ : ∃ x, (labN (atn C) p k).1[a]? = some x := ⟨(labN (atn C) p k).1[a], by rw [List.getElem?_eq_getElem]⟩
      obtain ⟨y, hy⟩ : ∃ y, (labN (atn C) p k).1[b]? = some y := ⟨(labN (atn C) p k).1[b], by rw [List.getElem?_eq_getElem]⟩
      rw [ea, eb, List.getD_eq_getElem?_getD, List.getD_eq_getElem?_getD, hx, hy, Option.getD_some, Option.getD_some] at hsu
      have fin : ∀ s', ChgT 0 s' ⟨[(1, .ptr 0 0), (3, .ptr 1 0), (5, vI (labN (atn C) p (k + 1)).2), (6, vI ((e + 2 : Nat) : Int))], [(0, .cells (ints C)), (1, .cells (ints (labN (atn C) p (k + 1)).1))], 2⟩ → N s' := fun s' hh => hN s' (k + 1) (by omega) h (by rw [show 2 * (k + 1) = e + 2 by omega]; exact hh)
      rw [hsu] at fin
      rw [he]
      clear hN hsu hE
      by_cases hxy : x = y
      · rw [if_pos hxy] at fin
        generalize (labN (atn C) p k).1 = M at *
        generalize (labN (atn C) p k).2 = m at *
        have hx' := (List.getElem?_eq_some_iff.1 hx).2
        have hy' := (List.getElem?_eq_some_iff.1 hy).2
        delta p85_l2 p85_r9 p85_r10 p85_r11 p85_r12 p85_r13
        delta p85_r19
        simp (disch := omega) [oLt, oLe, oLtN, oLeN, nLt, nLe, nLtN, nLeN, hec, h34, h0, h0', h16c, h16c1, h16', h16'', q1, q3, q1', q3', ha16, hb16, ha16c, hb16c, hlen, hx, hx', hy, hy', hxy]
        exact fin _ (.tot [1, 3] (by simp))
      · rw [if_neg hxy] at fin
        simp only at fin
        generalize (labN (atn C) p k).1 = M at *
        generalize (labN (atn C) p k).2 = m at *
        have hx' := (List.getElem?_eq_some_iff.1 hx).2
        have hy' := (List.getElem?_eq_some_iff.1 hy).2
        delta p85_l2 p85_r9 p85_r10 p85_r11 p85_r12 p85_r13
        simp (disch := omega) [oLt, oLe, oLtN, oLeN, nLt, nLe, nLtN, nLeN, hec, h34, h0, h0', h33, h33', h16c, h16c1, h16', h16'', q1, q3, q1', q3', ha16, hb16, ha16c, hb16c, hlen, hx, hx', hy, hy', hxy, effSlcA, hP]
        refine in85_ok (C := C) (n := m - 1) (e := e) (fr := x) (to := y) (P := p) (l := M) hP hlen (.tot [1, 3] (by simp [in85, relab_zero])) ?_
        simp only [inBE, thenE, if_true]
        generalize relab p x y M = M2 at *
        delta p85_r19
        simp (disch := omega) [oLt, oLe, oLtN, oLeN, nLt, nLe, nLtN, nLeN]
        exact fin _ (.tot [1, 3] (by simp))
    · obtain rfl : k = n / 2 := by omega
      have hec : ¬ (e : Int) < n := by omega
      rw [he]
      generalize (labN (atn C) p (n / 2)).1 = M at *
      generalize (labN (atn C) p (n / 2)).2 = m at *
      delta p85_l2 p85_r9 p85_r10 p85_r11 p85_r12 p85_r13
      simp (disch := omega) [oLt, oLe, oLtN, oLeN, nLt, nLe, nLtN, nLeN, hec, h34, h0, h0']
      refine hE _ _ _ .refl ?_
      delta p85_r20
      simp (disch := omega) [oLt, oLe, oLtN, oLeN, nLt, nLe, nLtN, nLeN]
      exact hQ _ _ (.p (.inl rfl) (by simp) rfl)
end Go.Sx.Ch
