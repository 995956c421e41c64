/- What functions of the chart layer return: Back. No conditions. -/
import Derived.Test.YtfiebjbhiflfpaaDoorSxJCDtoHM0
import Derived.Test.YtfiebjbhiflfpaaDoorSxJHFtoHG
import Derived.Test.YtfiebjbhiflfpaaDoorSxJKAtoDV0
import Derived.Test.YtfiebjbhiflfpaaDoorSxJCAtoCC
import Derived.Test.YtfiebjbhiflfpaaDoorSxJNtoNq
import Derived.KernelRfl
import Derived.Test.YtfiebjbhiflfpaaDoorProg
import Derived.Test.YtfiebjbhiflfpaaDoorSxDF0
import Derived.Test.YtfiebjbhiflfpaaDoorSxJHHtoHJ0
import Derived.Test.YtfiebjbhiflfpaaDoorSxJJAtoKI
import Derived.Test.YtfiebjbhiflfpaaDoorSxJKBtoKH
import Derived.Test.YtfiebjbhiflfpaaDoorSxJHPtoDZ
set_option linter.unusedVariables false
set_option linter.unusedSimpArgs false
namespace Go.Sx.Ch
open Go Go.Sx Go.Proofs
section
set_option maxRecDepth 4000
def Z16 : List Int := List.replicate 16 0
theorem zl16 : [AV.v (Value.int IntKind.i64 0), AV.v (Value.int IntKind.i64 0), AV.v (Value.int IntKind.i64 0), AV.v (Value.int IntKind.i64 0), AV.v (Value.int IntKind.i64 0), AV.v (Value.int IntKind.i64 0), AV.v (Value.int IntKind.i64 0), AV.v (Value.int IntKind.i64 0), AV.v (Value.int IntKind.i64 0), AV.v (Value.int IntKind.i64 0), AV.v (Value.int IntKind.i64 0), AV.v (Value.int IntKind.i64 0), AV.v (Value.int IntKind.i64 0), AV.v (Value.int IntKind.i64 0), AV.v (Value.int IntKind.i64 0), AV.v (Value.int IntKind.i64 0)] = ints Z16 := rfl
def befN (C : List Int) (n : Nat) : List Int := (List.range n).foldl (fun B (k : Nat) => B.set (afterC C k).toNat k) Z16
theorem befN_succ (C : List Int) (n : Nat) : befN C (n + 1) = (befN C n).set (afterC C n).toNat n := by simp [befN, List.range_succ, List.foldl_append]
theorem befN_len (C : List Int) (n : Nat) : (befN C n).length = 16 := by
  induction n with
  | zero => rfl
  | succ n ih => rw [befN_succ]; simp [ih]
def backL (L : List (List Int)) : List (List Int) := if chk L = 0 then cyc (backC (befN (tabF L) (total L))) (total L) else []
def backV (L : List (List Int)) : AV := .tup [if chk L = 0 then .agg [.il (lls (backL L)) (backL L).length false] else nilA, vI (chk L)]
def g19 (L : List (List Int)) : Bool := smM L && (decide (¬ chk L = 0) || ((List.range (total L)).all (fun (k : Nat) => within 0 (afterC (tabF L) k) 15) && okS (backC (befN (tabF L) (total L))) (total L)))
set_option maxHeartbeats 2000000
def s19 : Sp := spT 19 [.mp] fun (L : List (List Int)) => res (g19 L) (backV L)
@[simp] theorem s19_g : s19.g = 19 := rfl
@[simp] theorem s19_f : s19.f = (spT 19 [.mp] fun (L : List (List Int)) => res (g19 L) (backV L)).f := rfl
theorem s19_ok : s19.ok Tryd.prog := by
  apply spT_ok
  simp only [OkT, Ty.all, List.nil_append, List.cons_append]
  intro (L : List (List Int)) u
  apply okT_res; intro hg
  refine P19.rz (ss := [s67, s68, s69]) ⟨s67_ok, s68_ok, s69_ok, trivial⟩ (by simp) fun Q hQ => ?_
  delta p19
  simp only [g19, Bool.and_eq_true, Bool.or_eq_true, decide_eq_true_eq] at hg
  obtain ⟨hs, hg⟩ := hg
  by_cases hc : chk L = 0
  · obtain ⟨h34, he⟩ := tab_ends hc hs
    obtain ⟨h16, -, -⟩ := chk_zero hc
    obtain ⟨haf, hok⟩ := hg.resolve_left (fun h => h hc)
    have hen : endsC (tabF L) = ((total L : Nat) : Int) := he
    have ht : (tabF L).take 34 = tabF L := List.take_of_length_le (by omega)
    have hv : openV L = .tup [.agg (ints (tabF L)), vI 0] := by unfold openV; rw [hc]; rfl
    have hsp : splice (ints Z34) 0 (ints (tabF L)) = ints (tabF L) := splice_all (by simp [h34, z34_len])
    have hF : cyc (backC (befN (tabF L) (total L))) (total L) = backL L := by unfold backL; rw [if_pos hc]
    have hr : backV L = .tup [.agg [.il (lls (backL L)) (backL L).length false], vI 0] := by unfold backV; rw [hc, if_pos rfl]
    have hT : t34 (tabF L) = true := by simp [t34, h34]
    have hcy : cycF (tabF L) (.fn (.func 69) [] [.elt (ints (befN (tabF L) (total L))) 0]) = res true (.il (lls (backL L)) (backL L).length false) := by
      unfold cycF; simp only [stepOf_69, befN_len, if_true, hT, hen, Int.toNat_natCast, hok, hF, Bool.and_true, Bool.true_and]
      rw [decide_eq_true (by omega)]
    have hin : ∀ k, k < total L → ∃ m : Nat, m < 16 ∧ (tabF L)[1 + k]? = some (m : Int) ∧ afterC (tabF L) k = m := fun k hk => by
      have h1 := within_iff.1 (List.all_eq_true.1 haf k (List.mem_range.2 hk))
      obtain ⟨m, hm⟩ := Int.eq_ofNat_of_zero_le h1.1
      refine ⟨m, by omega, ?_, hm⟩
      rw [List.getElem?_eq_getElem (by omega)]
      have : afterC (tabF L) k = (tabF L)[1 + k] := by simp [afterC, List.getD_eq_getElem?_getD, show 1 + k < (tabF L).length by omega]
      rw [← this, hm]
    have h0 : (tabF L)[0]? = some ((total L : Nat) : Int) := by
      rw [List.getElem?_eq_getElem (by omega)]
      have : endsC (tabF L) = (tabF L)[0] := by simp [endsC, List.getD_eq_getElem?_getD, h34]
      rw [← this, hen]
    have h0' := (List.getElem?_eq_some_iff.1 h0).2
    generalize backL L = F at *
    generalize hCe : tabF L = C at *
    generalize hn : total L = n at *
    rw [hr] at hQ
    refine XZ_step ?_ (fun N Q_ hN => ?_) ?_
    rotate_left
    · delta p19_r0; simp (disch := omega) [oLt, oLe, oLtN, oLeN, nLt, nLe, nLtN, nLeN]
      exact hN
    refine XZ_step ?_ (fun N Q_ hN => ?_) ?_
    rotate_left
    · delta p19_r1; simp (disch := omega) [oLt, oLe, oLtN, oLeN, nLt, nLe, nLtN, nLeN, hs, hv, zl, hsp, h34, z34_len, ht]
      exact hN
    delta p19_r2 p19_r4 p19_r5
    simp (disch := omega) [oLt, oLe, oLtN, oLeN, nLt, nLe, nLtN, nLeN, zl16, h34, h0, h0']
    refine XZ_for (fun k : Nat => ⟨[(2, .ptr 0 0), (4, .ptr 1 0), (6, .ptr 2 0), (18, vI n), (19, vI k)], [(0, .cells [.v (.slice none 0 0)]), (1, .cells (ints C)), (2, .cells (ints (befN C k)))], 3⟩) (fun k => n - k) (fun k => k ≤ n) 0 (by simp) (.tot [2, 4, 6] (by simp [befN])) ?_
    intro k hk N Q' hN hE
    rcases Nat.lt_or_ge k n with h | h
    · have hkc : (k : Int) < n := by omega
      have hk16 : (k : Int) < 16 := by omega
      obtain ⟨m, hm, hm1, hm2⟩ := hin k h
      have hm3 := (List.getElem?_eq_some_iff.1 hm1).2
      have hmc : (m : Int) < 16 := by omega
      have hb := befN_succ C k
      rw [hm2, Int.toNat_natCast] at hb
      have hbl := befN_len C k
      have fin : ∀ s', ChgT 0 s' ⟨[(2, .ptr 0 0), (4, .ptr 1 0), (6, .ptr 2 0), (18, vI n), (19, vI ((k + 1 : Nat) : Int))], [(0, .cells [.v (.slice none 0 0)]), (1, .cells (ints C)), (2, .cells (ints ((befN C k).set m k)))], 3⟩ → N s' := fun s' hh => hN s' (k + 1) (by omega) h (by rw [hb]; exact hh)
      clear hN hb
      generalize befN C k = B at *
      delta p19_l0 p19_r6 p19_r7 p19_r8 p19_r9
      simp (disch := omega) [oLt, oLe, oLtN, oLeN, nLt, nLe, nLtN, nLeN, hkc, hk16, hm, hm1, hm3, hmc, hbl, h34]
      exact fin _ (.tot [2, 4, 6] (by simp))
    · obtain rfl : k = n := by omega
      have hkc : ¬ (k : Int) < k := by omega
      have hbl := befN_len C k
      generalize befN C k = B at *
      delta p19_l0 p19_r6 p19_r7 p19_r8 p19_r9
      simp (disch := omega) [oLt, oLe, oLtN, oLeN, nLt, nLe, nLtN, nLeN, hkc]
      refine hE _ _ _ (.frz 2 (by simp; rfl) (by simp) .refl) ?_
      simp only [inBE, thenE, if_true]
      delta p19_r10
      simp (disch := omega) [oLt, oLe, oLtN, oLeN, nLt, nLe, nLtN, nLeN, h34, ht, hcy, effMkfn, frzS]
      exact hQ _ _ (.p (.inl rfl) (by simp [Eff.exec]) (by simp))
  · delta p19_r0 p19_r1 p19_r2 p19_r3
    have hv : openV L = .tup [.agg (ints Z34), vI (chk L)] := by unfold openV; rw [if_neg hc]
    have hr : backV L = .tup [.agg [.v (.slice none 0 0)], vI (chk L)] := by unfold backV; rw [if_neg hc]; rfl
    rw [hr] at hQ
    generalize chk L = c at *
    simp (disch := omega) [oLt, oLe, oLtN, oLeN, nLt, nLe, nLtN, nLeN, hs, hv, zl, zz, z34_len, hc]
    exact hQ _ _ (.p (.inl rfl) (by simp [Eff.exec]) (by simp))
end
section
set_option maxRecDepth 4000
theorem relab_succ {P : Nat} {fr to x : Int} {l : List Int} (hx : l[P]? = some x) : relab (P + 1) fr to l = (relab P fr to l).set P (if x = fr then to else x) := by
  have hP := (List.getElem?_eq_some_iff.1 hx).1
  have hx' := (List.getElem?_eq_some_iff.1 hx).2
  unfold relab
  rw [List.take_succ_eq_append_getElem hP, hx', List.map_append, List.drop_eq_getElem_cons hP, hx', List.append_assoc]
  have hl : ((l.take P).map fun x => if x = fr then to else x).length = P := by simp; omega
  rw [List.set_append_right _ _ (by omega), hl, Nat.sub_self]
  rfl
theorem relab_at {P : Nat} {fr to x : Int} {l : List Int} (hx : l[P]? = some x) : (relab P fr to l)[P]? = some x := by
  have hP := (List.getElem?_eq_some_iff.1 hx).1
  unfold relab
  have hl : ((l.take P).map fun x => if x = fr then to else x).length = P := by simp; omega
  rw [List.getElem?_append_right (by omega), hl, Nat.sub_self, List.getElem?_drop, Nat.add_zero]
  exact hx
theorem relab_zero (fr to : Int) (l : List Int) : relab 0 fr to l = l := by simp [relab]
theorem labI_len (P : Nat) : (labI P).length = 16 := by simp [labI]
theorem labI_zero : labI 0 = Z16 := by decide
theorem labI_succ {P : Nat} (h : P < 16) : (labI P).set P (P : Int) = labI (P + 1) := by
  apply List.ext_getElem?
  intro i
  by_cases hi : i < 16
  · by_cases e : i = P
    · subst e
      rw [List.getElem?_set_self (by rw [labI_len]; exact hi)]
      simp [labI, hi]
    · rw [List.getElem?_set_ne (Ne.symm e)]
      simp only [labI, List.getElem?_map, List.getElem?_range hi, Option.map_some, Option.some.injEq]
      by_cases h1 : i < P
      · rw [if_pos h1, if_pos (by omega)]
      · rw [if_neg h1, if_neg (by omega)]
  · rw [List.getElem?_eq_none (by rw [List.length_set, labI_len]; omega), List.getElem?_eq_none (by rw [labI_len]; omega)]
theorem labN_len {at' : Nat → Nat} {P : Nat} : ∀ k, (labN at' P k).1.length = 16
  | 0 => labI_len P
  | k + 1 => by
    rw [labN_succ]; unfold labS
    split
    · exact labN_len k
    · simp only; rw [relab_len, labN_len k]
theorem labN_congr {f g : Nat → Nat} {P : Nat} : ∀ {k : Nat}, (∀ m, m < 2 * k → f m = g m) → labN f P k = labN g P k
  | 0, _ => rfl
  | k + 1, h => by
    rw [labN_succ, labN_succ, labN_congr (k := k) fun m hm => h m (by omega)]
    unfold labS
    rw [h (2 * k) (by omega), h (2 * k + 1) (by omega)]
theorem labN_cnt {at' : Nat → Nat} {P : Nat} : ∀ k, (P : Int) - k ≤ (labN at' P k).2 ∧ (labN at' P k).2 ≤ P
  | 0 => by simp [labN]
  | k + 1 => by
    have := labN_cnt (at' := at') (P := P) k
    rw [labN_succ]; unfold labS
    split
    · omega
    · simp only; omega
set_option maxHeartbeats 4000000
def in85 (C : List Int) (n : Int) (e : Nat) (fr to : Int) (P : Nat) (l : List Int) (p : Nat) : ST :=
  ⟨[(1, .ptr 0 0), (3, .ptr 1 0), (5, vI n), (6, vI e), (7, vI fr), (8, vI to), (48, .ref 1 0 P 1 (some 16)), (49, vI P), (50, vI p)], [(0, .cells (ints C)), (1, .cells (ints (relab p fr to l)))], 2⟩
theorem in85_ok {ss : List Sp} {C : List Int} {n : Int} {e : Nat} {fr to : Int} {P : Nat} {l : List Int} {s0 : ST} {Q : Exit → ST → Prop} (hP : P ≤ 16) (hl : l.length = 16)
    (hs0 : ChgT 0 s0 (in85 C n e fr to P l 0)) (hq : Q (.exit 4) ⟨[(1, .ptr 0 0), (3, .ptr 1 0), (5, vI n), (6, vI e)], [(0, .cells (ints C)), (1, .cells (ints (relab P fr to l)))], 2⟩) : XZ (rZ (spc ss)) 0 (.loop p85_l1) s0 Q := by
  refine XZ_for (fun p : Nat => in85 C n e fr to P l p) (fun p => P - p) (fun p => p ≤ P) 0 (Nat.zero_le _) hs0 ?_
  intro p hp N Q' hN hE
  rcases Nat.lt_or_ge p P with h | h
  · have hpc : (p : Int) < P := by omega
    have hp16 : p < 16 := by omega
    have hp16c : (p : Int) < 16 := by omega
    obtain ⟨x, hx⟩ : ∃ x, l[p]? = some x := ⟨l[p], by rw [List.getElem?_eq_getElem]⟩
    have hg := relab_at (fr := fr) (to := to) hx
    have hsu := relab_succ (fr := fr) (to := to) hx
    have hlen := relab_len p fr to l
    rw [hl] at hlen
    have hg' := (List.getElem?_eq_some_iff.1 hg).2
    have hpl : p < (relab p fr to l).length := by omega
    have fin : ∀ s', ChgT 0 s' ⟨[(1, .ptr 0 0), (3, .ptr 1 0), (5, vI n), (6, vI e), (7, vI fr), (8, vI to), (48, .ref 1 0 P 1 (some 16)), (49, vI P), (50, vI ((p + 1 : Nat) : Int))], [(0, .cells (ints C)), (1, .cells (ints ((relab p fr to l).set p (if x = fr then to else x))))], 2⟩ → N s' := fun s' hh => hN s' (p + 1) (by omega) h (by unfold in85; rw [hsu]; exact hh)
    clear hN hsu hE hq hs0
    unfold in85
    by_cases hxf : x = fr
    · rw [if_pos hxf] at fin
      clear hg'
      generalize relab p fr to l = M at *
      have hg' := (List.getElem?_eq_some_iff.1 hg).2
      delta p85_l1 p85_r14 p85_r15 p85_r16 p85_r17 p85_r18
      simp (disch := omega) [oLt, oLe, oLtN, oLeN, nLt, nLe, nLtN, nLeN, hpc, h, hp16, hp16c, hlen, hpl, hg, hg', hxf]
      exact fin _ (.tot [1, 3] (by simp))
    · rw [if_neg hxf] at fin
      have hself : (relab p fr to l).set p x = relab p fr to l := by
        apply List.ext_getElem?
        intro i
        by_cases hi : i = p
        · subst hi; rw [List.getElem?_set_self hpl, hg]
        · rw [List.getElem?_set_ne (Ne.symm hi)]
      rw [hself] at fin
      clear hg' hself
      generalize relab p fr to l = M at *
      have hg' := (List.getElem?_eq_some_iff.1 hg).2
      delta p85_l1 p85_r14 p85_r15 p85_r16 p85_r17 p85_r18
      simp (disch := omega) [oLt, oLe, oLtN, oLeN, nLt, nLe, nLtN, nLeN, hpc, h, hp16, hp16c, hlen, hpl, hg, hg', hxf]
      exact fin _ (.tot [1, 3] (by simp))
  · obtain rfl : p = P := by omega
    have hpc : ¬ (p : Int) < p := by omega
    unfold in85
    generalize relab p fr to l = M at *
    delta p85_l1 p85_r14 p85_r15 p85_r16 p85_r17 p85_r18
    simp (disch := omega) [oLt, oLe, oLtN, oLeN, nLt, nLe, nLtN, nLeN, hpc]
    exact hE _ _ _ (.tot [1, 3] (by simp)) hq
def atn (C : List Int) (m : Nat) : Nat := (atC C m).toNat
def partC (C : List Int) : Int := (labN (atn C) (ptsC C).toNat ((endsC C).toNat / 2)).2
def g85 (C : List Int) : Bool := g80 C && decide (endsC C % 2 = 0)
def s85 : Sp := spT 85 [.tb] fun (C : List Int) => res (g85 C) (vI (partC C))
@[simp] theorem s85_g : s85.g = 85 := rfl
@[simp] theorem s85_f : s85.f = (spT 85 [.tb] fun (C : List Int) => res (g85 C) (vI (partC C))).f := rfl
theorem s85_ok : s85.ok Tryd.prog := by
  apply spT_ok
  simp only [OkT, Ty.all, List.nil_append, List.cons_append]
  intro (C : List Int)
  apply okT_res; intro hg
  refine P85.rz (ss := []) trivial (by simp) fun Q hQ => ?_
  delta p85 p85_r0 p85_r1 p85_r2
  simp only [g85, Bool.and_eq_true, decide_eq_true_eq] at hg
  obtain ⟨hg, hev⟩ := hg
  obtain ⟨n, P, h34, hn, hP, h0, h33, en, eP, hf⟩ := g80_facts hg
  have h0' := (List.getElem?_eq_some_iff.1 h0).2
  have h33' := (List.getElem?_eq_some_iff.1 h33).2
  have hr : partC C = (labN (atn C) P (n / 2)).2 := by unfold partC; rw [en, eP]; simp
  rw [en] at hev
  rw [hr] at hQ
  simp (disch := omega) [oLt, oLe, oLtN, oLeN, nLt, nLe, nLtN, nLeN, zl16, h34, h0, h0', h33, h33']
  refine XZ_for (fun p : Nat => ⟨[(1, .ptr 0 0), (3, .ptr 1 0), (12, vI P), (13, vI p)], [(0, .cells (ints C)), (1, .cells (ints (labI p)))], 2⟩) (fun p => P - p) (fun p => p ≤ P) 0 (Nat.zero_le _) (.tot [1, 3] (by simp [labI_zero])) ?_
  intro p hp N Q' hN hE
  rcases Nat.lt_or_ge p P with h | h
  · have hpc : (p : Int) < P := by omega
    have hp16 : p < 16 := by omega
    have hp16c : (p : Int) < 16 := by omega
    have hlen := labI_len p
    have hsu := labI_succ hp16
    have fin : ∀ s', ChgT 0 s' ⟨[(1, .ptr 0 0), (3, .ptr 1 0), (12, vI P), (13, vI ((p + 1 : Nat) : Int))], [(0, .cells (ints C)), (1, .cells (ints ((labI p).set p (p : Int))))], 2⟩ → N s' := fun s' hh => hN s' (p + 1) (by omega) h (by rw [← hsu]; exact hh)
    clear hN hsu
    generalize labI p = M at *
    delta p85_l0 p85_r3 p85_r4 p85_r5 p85_r6
    simp (disch := omega) [oLt, oLe, oLtN, oLeN, nLt, nLe, nLtN, nLeN, hpc, hp16, hp16c, hlen]
    exact fin _ (.tot [1, 3] (by simp))
  · obtain rfl : p = P := by omega
    have hpc : ¬ (p : Int) < p := by omega
    have hI : labI p = (labN (atn C) p 0).1 := rfl
    have hI2 : (p : Int) = (labN (atn C) p 0).2 := rfl
    delta p85_l0 p85_r3 p85_r4 p85_r5 p85_r6
    simp (disch := omega) [oLt, oLe, oLtN, oLeN, nLt, nLe, nLtN, nLeN, hpc]
    refine hE _ _ _ .refl ?_
    delta p85_r7 p85_r8
    simp (disch := omega) [oLt, oLe, oLtN, oLeN, nLt, nLe, nLtN, nLeN, h34, h33, h33']
    clear hN hE
    refine XZ_for (fun k : Nat => ⟨[(1, .ptr 0 0), (3, .ptr 1 0), (5, vI (labN (atn C) p k).2), (6, vI (2 * k : Nat))], [(0, .cells (ints C)), (1, .cells (ints (labN (atn C) p k).1))], 2⟩) (fun k => n / 2 - k) (fun k => k ≤ n / 2) 0 (Nat.zero_le _) (.tot [1, 3] (by simp [hI.symm]; exact hI2)) ?_
    intro k hk N Q' hN hE
    have hlen := labN_len (at' := atn C) (P := p) k
    have hcnt := labN_cnt (at' := atn C) (P := p) k
    have hsu := labN_succ (atn C) p k
    unfold labS at hsu
    obtain ⟨e, he⟩ : ∃ e, 2 * k = e := ⟨_, rfl⟩
    rcases Nat.lt_or_ge k (n / 2) with h | h
    · have hen : e < n := by omega
      have hec : (e : Int) < n := by omega
      have h16c : (e : Int) < 16 := by omega
      have h16c1 : (e : Int) + 1 < 16 := by omega
      have h16' : e < 16 := by omega
      have h16'' : e + 1 < 16 := by omega
      obtain ⟨-, a, -, -, ha, -, -, q1, -, q2, -⟩ := hf e hen
      obtain ⟨-, b, -, -, hb, -, -, q3, -, q4, -⟩ := hf (e + 1) (by omega)
      have q1' := (List.getElem?_eq_some_iff.1 q1).2
      have q3' := (List.getElem?_eq_some_iff.1 q3).2
      have ea : atn C (2 * k) = a := by unfold atn; rw [he, q2]; simp
      have eb : atn C (2 * k + 1) = b := by unfold atn; rw [he, q4]; simp
      have ha16 : a < 16 := by omega
      have hb16 : b < 16 := by omega
      have ha16c : (a : Int) < 16 := by omega
      have hb16c : (b : Int) < 16 := by omega
      obtain ⟨x, hx⟩ : ∃ x, (labN (atn C) p k).1[a]? = some x := ⟨(labN (atn C) p k).1[a], by rw [List.getElem?_eq_getElem]⟩
      obtain ⟨y, hy⟩ : ∃ y, (labN (atn C) p k).1[b]? = some y := ⟨(labN (atn C) p k).1[b], by rw [List.getElem?_eq_getElem]⟩
      rw [ea, eb, List.getD_eq_getElem?_getD, List.getD_eq_getElem?_getD, hx, hy, Option.getD_some, Option.getD_some] at hsu
      have fin : ∀ s', ChgT 0 s' ⟨[(1, .ptr 0 0), (3, .ptr 1 0), (5, vI (labN (atn C) p (k + 1)).2), (6, vI ((e + 2 : Nat) : Int))], [(0, .cells (ints C)), (1, .cells (ints (labN (atn C) p (k + 1)).1))], 2⟩ → N s' := fun s' hh => hN s' (k + 1) (by omega) h (by rw [show 2 * (k + 1) = e + 2 by omega]; exact hh)
      rw [hsu] at fin
      rw [he]
      clear hN hsu hE
      by_cases hxy : x = y
      · rw [if_pos hxy] at fin
        generalize (labN (atn C) p k).1 = M at *
        generalize (labN (atn C) p k).2 = m at *
        have hx' := (List.getElem?_eq_some_iff.1 hx).2
        have hy' := (List.getElem?_eq_some_iff.1 hy).2
        delta p85_l2 p85_r9 p85_r10 p85_r11 p85_r12 p85_r13
        delta p85_r19
        simp (disch := omega) [oLt, oLe, oLtN, oLeN, nLt, nLe, nLtN, nLeN, hec, h34, h0, h0', h16c, h16c1, h16', h16'', q1, q3, q1', q3', ha16, hb16, ha16c, hb16c, hlen, hx, hx', hy, hy', hxy]
        exact fin _ (.tot [1, 3] (by simp))
      · rw [if_neg hxy] at fin
        simp only at fin
        generalize (labN (atn C) p k).1 = M at *
        generalize (labN (atn C) p k).2 = m at *
        have hx' := (List.getElem?_eq_some_iff.1 hx).2
        have hy' := (List.getElem?_eq_some_iff.1 hy).2
        delta p85_l2 p85_r9 p85_r10 p85_r11 p85_r12 p85_r13
        simp (disch := omega) [oLt, oLe, oLtN, oLeN, nLt, nLe, nLtN, nLeN, hec, h34, h0, h0', h33, h33', h16c, h16c1, h16', h16'', q1, q3, q1', q3', ha16, hb16, ha16c, hb16c, hlen, hx, hx', hy, hy', hxy, effSlcA, hP]
        refine in85_ok (C := C) (n := m - 1) (e := e) (fr := x) (to := y) (P := p) (l := M) hP hlen (.tot [1, 3] (by simp [in85, relab_zero])) ?_
        simp only [inBE, thenE, if_true]
        generalize relab p x y M = M2 at *
        delta p85_r19
        simp (disch := omega) [oLt, oLe, oLtN, oLeN, nLt, nLe, nLtN, nLeN]
        exact fin _ (.tot [1, 3] (by simp))
    · obtain rfl : k = n / 2 := by omega
      have hec : ¬ (e : Int) < n := by omega
      rw [he]
      generalize (labN (atn C) p (n / 2)).1 = M at *
      generalize (labN (atn C) p (n / 2)).2 = m at *
      delta p85_l2 p85_r9 p85_r10 p85_r11 p85_r12 p85_r13
      simp (disch := omega) [oLt, oLe, oLtN, oLeN, nLt, nLe, nLtN, nLeN, hec, h34, h0, h0']
      refine hE _ _ _ .refl ?_
      delta p85_r20
      simp (disch := omega) [oLt, oLe, oLtN, oLeN, nLt, nLe, nLtN, nLeN]
      exact hQ _ _ (.p (.inl rfl) (by simp) rfl)
end
section
set_option maxRecDepth 4000
set_option maxHeartbeats 1000000
theorem drop_eq_of_lt {α : Type} {a b : List α} {i : Nat} {x y : α} (hx : a[i]? = some x) (hy : b[i]? = some y) : (a.drop i = b.drop i) ↔ x = y ∧ a.drop (i + 1) = b.drop (i + 1) := by
  obtain ⟨h1, e1⟩ := List.getElem?_eq_some_iff.1 hx
  obtain ⟨h2, e2⟩ := List.getElem?_eq_some_iff.1 hy
  rw [List.drop_eq_getElem_cons h1, List.drop_eq_getElem_cons h2, e1, e2, List.cons.injEq]
def s30 : Sp := spT 30 [.l, .l] fun (a : List Int) (b : List Int) => res (small a) (vB (decide (a = b)))
@[simp] theorem s30_g : s30.g = 30 := rfl
@[simp] theorem s30_f : s30.f = (spT 30 [.l, .l] fun (a : List Int) (b : List Int) => res (small a) (vB (decide (a = b)))).f := rfl
theorem s30_ok : s30.ok Tryd.prog := by
  apply spT_ok
  simp only [OkT, Ty.all, List.nil_append, List.cons_append]
  intro (a : List Int) u (b : List Int) v
  apply okT_res; intro hg
  refine P30.rz (ss := []) trivial (by simp) fun Q hQ => ?_
  delta p30 p30_r0 p30_r1 p30_r2 p30_r3
  simp only [small, decide_eq_true_eq] at hg
  by_cases hlen : a.length = b.length
  · have hlc : (a.length : Int) = b.length := by omega
    simp (disch := omega) [oLt, oLe, oLtN, oLeN, nLt, nLe, nLtN, nLeN, hlc]
    refine XZ_for (fun i : Nat => ⟨[(0, .il (ints a) a.length u), (1, .il (ints b) b.length v), (5, vI i)], [], 0⟩) (fun i => a.length - i) (fun i => i ≤ a.length ∧ ((a = b) ↔ a.drop i = b.drop i)) 0 ⟨by simp, by simp⟩ (.to [] (by simp)) ?_
    rintro i ⟨hi, hinv⟩ N Q' hN hE
    rcases Nat.lt_or_ge i a.length with h | h
    · have hic : (i : Int) < a.length := by omega
      have hic2 : (i : Int) < b.length := by omega
      have hb : i < b.length := by omega
      obtain ⟨x, hx⟩ : ∃ x, a[i]? = some x := ⟨a[i], by rw [List.getElem?_eq_getElem h]⟩
      obtain ⟨y, hy⟩ : ∃ y, b[i]? = some y := ⟨b[i], by rw [List.getElem?_eq_getElem hb]⟩
      have hx' := (List.getElem?_eq_some_iff.1 hx).2
      have hy' := (List.getElem?_eq_some_iff.1 hy).2
      rw [drop_eq_of_lt hx hy] at hinv
      by_cases hxy : x = y
      · have hxy' : ¬ x ≠ y := fun h => h hxy
        delta p30_l0 p30_r4 p30_r5 p30_r6 p30_r7
        simp (disch := omega) [oLt, oLe, oLtN, oLeN, nLt, nLe, nLtN, nLeN, hic, hic2, h, hb, hx, hx', hy, hy', hxy]
        exact hN _ (i + 1) (by omega) ⟨h, by rw [hinv]; simp [hxy]⟩ (.to [] (by simp))
      · have hne : ¬ a = b := fun e => hxy (hinv.1 e).1
        delta p30_l0 p30_r4 p30_r5 p30_r6 p30_r7
        simp (disch := omega) [oLt, oLe, oLtN, oLeN, nLt, nLe, nLtN, nLeN, hic, hic2, h, hb, hx, hx', hy, hy', hxy]
        exact hE _ _ _ .refl (hQ _ _ (.p (.inl rfl) (by simp [hne]) rfl))
    · obtain rfl : i = a.length := by omega
      have hic : ¬ (a.length : Int) < a.length := by omega
      have heq : a = b := hinv.2 (by rw [List.drop_eq_nil_of_le (Nat.le_refl _), List.drop_eq_nil_of_le (by omega)])
      delta p30_l0 p30_r4 p30_r5 p30_r6 p30_r7
      simp (disch := omega) [oLt, oLe, oLtN, oLeN, nLt, nLe, nLtN, nLeN, hic, hlc]
      refine hE _ _ _ .refl ?_
      delta p30_r8
      simp (disch := omega) [oLt, oLe, oLtN, oLeN, nLt, nLe, nLtN, nLeN]
      exact hQ _ _ (.p (.inl rfl) (by simp [heq]) rfl)
  · have hlc : ¬ (a.length : Int) = b.length := by omega
    have hne : ¬ a = b := fun e => hlen (by rw [e])
    simp (disch := omega) [oLt, oLe, oLtN, oLeN, nLt, nLe, nLtN, nLeN, hlc]
    exact hQ _ _ (.p (.inl rfl) (by simp [hne]) rfl)
def s23 : Sp := spT 23 [.ll, .ll] fun (a : List (List Int)) (b : List (List Int)) => res (decide (a.length ≤ 10000) && a.all small) (vB (decide (a = b)))
@[simp] theorem s23_g : s23.g = 23 := rfl
@[simp] theorem s23_f : s23.f = (spT 23 [.ll, .ll] fun (a : List (List Int)) (b : List (List Int)) => res (decide (a.length ≤ 10000) && a.all small) (vB (decide (a = b)))).f := rfl
theorem s23_ok : s23.ok Tryd.prog := by
  apply spT_ok
  simp only [OkT, Ty.all, List.nil_append, List.cons_append]
  intro (a : List (List Int)) u (b : List (List Int)) v
  apply okT_res; intro hg
  refine P23.rz (ss := [s30]) ⟨s30_ok, trivial⟩ (by simp) fun Q hQ => ?_
  delta p23 p23_r0 p23_r1 p23_r2 p23_r3
  simp only [Bool.and_eq_true, decide_eq_true_eq] at hg
  obtain ⟨hg, hsm⟩ := hg
  by_cases hlen : a.length = b.length
  · have hlc : (a.length : Int) = b.length := by omega
    simp (disch := omega) [oLt, oLe, oLtN, oLeN, nLt, nLe, nLtN, nLeN, hlc]
    refine XZ_for (fun i : Nat => ⟨[(0, .il (lls a) a.length u), (1, .il (lls b) b.length v), (5, vI i)], [], 0⟩) (fun i => a.length - i) (fun i => i ≤ a.length ∧ ((a = b) ↔ a.drop i = b.drop i)) 0 ⟨by simp, by simp⟩ (.to [] (by simp)) ?_
    rintro i ⟨hi, hinv⟩ N Q' hN hE
    rcases Nat.lt_or_ge i a.length with h | h
    · have hic : (i : Int) < a.length := by omega
      have hic2 : (i : Int) < b.length := by omega
      have hb : i < b.length := by omega
      obtain ⟨x, hx⟩ : ∃ x, a[i]? = some x := ⟨a[i], by rw [List.getElem?_eq_getElem h]⟩
      obtain ⟨y, hy⟩ : ∃ y, b[i]? = some y := ⟨b[i], by rw [List.getElem?_eq_getElem hb]⟩
      have hx' := (List.getElem?_eq_some_iff.1 hx).2
      have hy' := (List.getElem?_eq_some_iff.1 hy).2
      have hxs : small x = true := List.all_eq_true.1 hsm x (List.mem_of_getElem? hx)
      rw [drop_eq_of_lt hx hy] at hinv
      by_cases hxy : x = y
      · subst hxy
        delta p23_l0 p23_r4 p23_r5 p23_r6 p23_r7
        simp (disch := omega) [oLt, oLe, oLtN, oLeN, nLt, nLe, nLtN, nLeN, hic, hic2, h, hb, hx, hx', hy, hy', hxs, hlc]
        exact hN _ (i + 1) (by omega) ⟨h, by rw [hinv]; simp⟩ (.to [] (by simp))
      · have hne : ¬ a = b := fun e => hxy (hinv.1 e).1
        delta p23_l0 p23_r4 p23_r5 p23_r6 p23_r7
        simp (disch := omega) [oLt, oLe, oLtN, oLeN, nLt, nLe, nLtN, nLeN, hic, hic2, h, hb, hx, hx', hy, hy', hxy, hxs, hlc]
        exact hE _ _ _ .refl (hQ _ _ (.p (.inl rfl) (by simp [hne]) rfl))
    · obtain rfl : i = a.length := by omega
      have hic : ¬ (a.length : Int) < a.length := by omega
      have heq : a = b := hinv.2 (by rw [List.drop_eq_nil_of_le (Nat.le_refl _), List.drop_eq_nil_of_le (by omega)])
      delta p23_l0 p23_r4 p23_r5 p23_r6 p23_r7
      simp (disch := omega) [oLt, oLe, oLtN, oLeN, nLt, nLe, nLtN, nLeN, hic, hlc]
      refine hE _ _ _ .refl ?_
      delta p23_r8
      simp (disch := omega) [oLt, oLe, oLtN, oLeN, nLt, nLe, nLtN, nLeN]
      exact hQ _ _ (.p (.inl rfl) (by simp [heq]) rfl)
  · have hlc : ¬ (a.length : Int) = b.length := by omega
    have hne : ¬ a = b := fun e => hlen (by rw [e])
    simp (disch := omega) [oLt, oLe, oLtN, oLeN, nLt, nLe, nLtN, nLeN, hlc]
    exact hQ _ _ (.p (.inl rfl) (by simp [hne]) rfl)
end
section
set_option maxRecDepth 4000
set_option maxHeartbeats 4000000
def partRk (L : List (List Int)) (k : Nat) : Nat := ((List.range k).filter fun p => decide (hd (rchd L p) = p)).length
theorem partRk_succ (L : List (List Int)) (k : Nat) : partRk L (k + 1) = if hd (rchd L k) = k then partRk L k + 1 else partRk L k := by
  unfold partRk
  rw [List.range_succ, List.filter_append, List.length_append]
  by_cases h : hd (rchd L k) = k
  · rw [if_pos h]; simp [h]
  · rw [if_neg h]; simp [h]
theorem partRk_le (L : List (List Int)) : ∀ k, partRk L k ≤ k
  | 0 => by simp [partRk]
  | k + 1 => by
    rw [partRk_succ]
    have := partRk_le L k
    split <;> omega
theorem partC_eq {L : List (List Int)} (hc : chk L = 0) : partC (tabF L) = partR L ∧ g85 (tabF L) = true := by
  obtain ⟨h34, h16, hev, hl, h0, h33, hp⟩ := tab_pts hc
  have e0 : endsC (tabF L) = total L := by unfold endsC; rw [List.getD_eq_getElem?_getD, h0]; rfl
  have e33 : ptsC (tabF L) = L.length := by unfold ptsC; rw [List.getD_eq_getElem?_getD, h33]; rfl
  refine ⟨?_, ?_⟩
  · rw [← part_eq hc]
    unfold partC partN
    rw [e0, e33, Int.toNat_natCast, Int.toNat_natCast, labN_congr (g := atN L)]
    intro m hm
    obtain ⟨k, -, -, k2, k3⟩ := hp m (by omega)
    unfold atn atN
    rw [k2, k3]
  · simp only [g85, Bool.and_eq_true, decide_eq_true_eq]
    exact ⟨g80_tab hc, by rw [e0]; omega⟩
def genV (L : List (List Int)) : Int := if chk L = 0 then genN L else 0
theorem partR_le (L : List (List Int)) : partR L ≤ L.length := partRk_le L L.length
def s37 : Sp := spT 37 [.mp] fun (L : List (List Int)) => res (smM L) (.tup [vI (genV L), vI (chk L)])
@[simp] theorem s37_g : s37.g = 37 := rfl
@[simp] theorem s37_f : s37.f = (spT 37 [.mp] fun (L : List (List Int)) => res (smM L) (.tup [vI (genV L), vI (chk L)])).f := rfl
theorem s37_ok : s37.ok Tryd.prog := by
  apply spT_ok
  simp only [OkT, Ty.all, List.nil_append, List.cons_append]
  intro (L : List (List Int)) u
  apply okT_res; intro hs
  refine P37.rz (ss := [s67, s68, s85]) ⟨s67_ok, s68_ok, s85_ok, trivial⟩ (by simp) fun Q hQ => ?_
  delta p37 p37_r0 p37_r1 p37_r2 p37_r3 p37_r4
  by_cases hc : chk L = 0
  · obtain ⟨h34, h16, hev, hl, h0, h33, -⟩ := tab_pts hc
    have h0' := (List.getElem?_eq_some_iff.1 h0).2
    have h33' := (List.getElem?_eq_some_iff.1 h33).2
    have ht : (tabF L).take 34 = tabF L := List.take_of_length_le (by omega)
    have hv : openV L = .tup [.agg (ints (tabF L)), vI 0] := by unfold openV; rw [hc]; rfl
    have hsp : splice (ints Z34) 0 (ints (tabF L)) = ints (tabF L) := splice_all (by simp [h34, z34_len])
    obtain ⟨hp, hg⟩ := partC_eq hc
    have hpl := partR_le L
    have hok : okS (alongC (tabF L)) (total L) = true := by
      have := g33_ok hs
      simp only [g33, Bool.and_eq_true, Bool.or_eq_true, decide_eq_true_eq] at this
      exact this.2.resolve_left (fun h => h hc)
    have hen : endsC (tabF L) = ((total L : Nat) : Int) := by unfold endsC; rw [List.getD_eq_getElem?_getD, h0]; rfl
    have hT : t34 (tabF L) = true := by simp [t34, h34]
    have hF : cyc (alongC (tabF L)) (total L) = faceL L := by unfold faceL; rw [if_pos hc]
    have hFl : (faceL L).length ≤ 16 := by
      rw [← hF]
      have := (cycN_len (alongC (tabF L)) (total L)).2
      unfold cyc; omega
    have hcy : cycF (tabF L) (.fn (.func 84) [.agg (ints (tabF L))] []) = res true (.il (lls (faceL L)) (faceL L).length false) := by
      unfold cycF; simp only [stepOf_84, hT, if_true, hen, Int.toNat_natCast, hok, hF, Bool.and_true, Bool.true_and]
      rw [decide_eq_true (by omega)]
    have hgen := genus_eq hc
    have hr : genV L = genN L := by unfold genV; rw [if_pos hc]
    obtain ⟨g', hg'⟩ := euler_map hc
    have hpe' := part_eq hc
    obtain ⟨t, htt⟩ : ∃ t : Int, (L.length : Int) - (total L / 2 : Nat) + (faceL L).length = 2 * t := ⟨partN L - g', by omega⟩
    have htd : ((L.length : Int) - (total L : Int) / 2 + (faceL L).length).tdiv 2 = t := by
      have e : (L.length : Int) - (total L : Int) / 2 + (faceL L).length = 2 * t := by omega
      rw [e, Int.mul_tdiv_cancel_left _ (by decide)]
    have ht1 : -50 ≤ t ∧ t ≤ 50 := by omega
    rw [hr, hc, ← hgen, htt, Int.mul_tdiv_cancel_left _ (by decide), part_eq hc] at hQ
    clear hgen hg' htt hpe'
    generalize faceL L = F at *
    generalize tabF L = C at *
    generalize partR L = p at *
    generalize total L = n at *
    simp (disch := omega) [oLt, oLe, oLtN, oLeN, nLt, nLe, nLtN, nLeN, hs, hv, zl, hsp, h34, z34_len, ht, hg, hp, h0, h0', h33, h33', hcy, effMkfn, htd]
    exact hQ _ _ (.p (.inl rfl) (by simp) rfl)
  · have hv : openV L = .tup [.agg (ints Z34), vI (chk L)] := by unfold openV; rw [if_neg hc]
    have hr : genV L = 0 := by unfold genV; rw [if_neg hc]
    rw [hr] at hQ
    generalize chk L = c at *
    simp (disch := omega) [oLt, oLe, oLtN, oLeN, nLt, nLe, nLtN, nLeN, hs, hv, zl, zz, z34_len, hc]
    exact hQ _ _ (.p (.inl rfl) (by simp) rfl)
end
section
theorem mdS_flat (O : List Int) (g n i : Nat) : (mdS O g n (i + 1)).2.flatten = (mdS O g n i).2.flatten ++ [(mdS O g n i).1.getD ((O.getD i 0).toNat % (mdS O g n i).1.length) 0] := by
  simp only [mdS]
  generalize (mdS O g n i).1.getD ((O.getD i 0).toNat % (mdS O g n i).1.length) 0 = y
  generalize (mdS O g n i).2 = L
  split
  · simp
  · rcases List.eq_nil_or_concat L with rfl | ⟨D, c, rfl⟩
    · simp
    · simp [List.dropLast_concat, List.getLastD_concat]
theorem mdS_perm (O : List Int) (g n : Nat) : ∀ i : Nat, i ≤ n → ((mdS O g n i).1 ++ (mdS O g n i).2.flatten).Perm (iota n)
  | 0, _ => by simp [mdS]
  | i + 1, h => by
    have ih := mdS_perm O g n i (by omega)
    have hl := mdS_len O g n (i := i) (by omega)
    rw [mdS_flat]
    have e1 : (mdS O g n (i + 1)).1 = (mdS O g n i).1.eraseIdx ((O.getD i 0).toNat % (mdS O g n i).1.length) := rfl
    rw [e1]
    have hk : (O.getD i 0).toNat % (mdS O g n i).1.length < (mdS O g n i).1.length := Nat.mod_lt _ (by omega)
    generalize (O.getD i 0).toNat % (mdS O g n i).1.length = k at *
    generalize (mdS O g n i).1 = l at *
    generalize (mdS O g n i).2.flatten = F at *
    have hy : l.getD k 0 = l[k] := by rw [List.getD_eq_getElem?_getD, List.getElem?_eq_getElem hk]; rfl
    rw [hy]
    refine List.Perm.trans ?_ ih
    have p1 : (l[k] :: l.eraseIdx k).Perm l := by
      have e : l = l.take k ++ l[k] :: l.drop (k + 1) := by rw [← List.drop_eq_getElem_cons hk, List.take_append_drop]
      have e2 : (l[k] :: (l.take k ++ l.drop (k + 1))).Perm (l.take k ++ l[k] :: l.drop (k + 1)) := List.perm_middle.symm
      rw [← e] at e2
      rw [List.eraseIdx_eq_take_drop_succ]
      exact e2
    have p2 : (l.eraseIdx k ++ (F ++ [l[k]])).Perm (l[k] :: (l.eraseIdx k ++ F)) := by
      rw [← List.append_assoc]
      exact List.perm_append_singleton _ _
    exact p2.trans (p1.append_right F)
theorem mdS_no (O : List Int) (g n : Nat) : ∀ i : Nat, ∀ l ∈ (mdS O g n i).2, l.length ≠ 0
  | 0, l, h => by simp [mdS] at h
  | i + 1, l, h => by
    simp only [mdS] at h
    split at h
    · rw [List.mem_append, List.mem_singleton] at h
      rcases h with h | rfl
      · exact mdS_no O g n i l h
      · simp
    · rw [List.mem_append, List.mem_singleton] at h
      rcases h with h | rfl
      · exact mdS_no O g n i l (List.dropLast_subset _ h)
      · simp
theorem mdL_cov (s : Nat) (O : List Int) (g most : Nat) (hm : most ≤ 8) : Cov (mdL s O g most) (2 * (s % (most + 1))) := by
  have hs : s % (most + 1) < most + 1 := Nat.mod_lt _ (by omega)
  unfold mdL
  generalize hn : 2 * (s % (most + 1)) = n
  have hp := mdS_perm O g n n (Nat.le_refl _)
  have hl := mdS_len O g n (i := n) (Nat.le_refl _)
  have h0 : (mdS O g n n).1 = [] := List.length_eq_zero_iff.1 (by omega)
  rw [h0, List.nil_append] at hp
  have hnd : (iota n).Nodup := by
    unfold iota
    exact List.Pairwise.map _ (fun a b h e => h (by omega)) List.nodup_range
  refine ⟨hp.nodup_iff.2 hnd, fun x hx => ?_, ?_, by omega⟩
  · have := hp.mem_iff.1 hx
    simp only [iota, List.mem_map, List.mem_range] at this
    obtain ⟨a, ha, rfl⟩ := this
    omega
  · rw [← total_flatten, hp.length_eq, iota_len]
theorem mdL_chk (s : Nat) (O : List Int) (g most : Nat) (hm : most ≤ 8) : chk (mdL s O g most) = 0 :=
  (mdL_cov s O g most hm).chk (mdS_no O g _ _) (by omega)
end
section
set_option maxRecDepth 4000
theorem XZ_stepC' {R : Rsv} {k0 : Nat} {a b : PCode} {s : ST} {Q : Exit → ST → Prop} (s1 s2 : ST) (h1 : ∀ (N : ST → Prop) (Q' : Exit → ST → Prop), N s1 → XZ R k0 a s (thenE N Q')) (hc : ChgT k0 s1 s2) (h2 : XZ R k0 b s2 Q) : XZ R k0 (.seqC a b) s Q := h1 _ _ ⟨s2, hc, h2⟩
theorem sk_len {s : Int} {O : List Int} {g : Int} (h : O.length = 16) : (skA s O g).length = 18 := by simp [skA, u8s, h]
theorem mdV_or (L : List (List Int)) : mdV L = .agg [.il (lls L) L.length false] ∨ (mdV L = .agg [.v (.slice none 0 0)] ∧ L = []) := by
  unfold mdV
  by_cases h0 : L.length = 0
  · exact .inr ⟨by rw [if_pos h0], List.length_eq_zero_iff.1 h0⟩
  · exact .inl (by rw [if_neg h0])
theorem md_weak {t : Nat} : ChgT 0 ⟨[(t, .ptr 0 0)], [(0, .cells [.v (.slice none 0 0)])], 1⟩ ⟨[(t, .ptr 0 0)], [(0, .cells [.il (lls []) 0 false])], 1⟩ :=
  .weak (s' := ⟨[(t, .ptr 0 0)], [(0, .cells [.il (lls []) 0 false])], 1⟩) ⟨rfl, .refl, trivial⟩ ⟨rfl, ⟨rfl, fun i u v hu hv => by
    cases i with
    | zero => cases hu; cases hv; exact .nil
    | succ i => simp at hu⟩, trivial⟩ rfl .refl
theorem gd_of {L : List (List Int)} (hc : chk L = 0) : smM L = true ∧ gdM L = true := by
  obtain ⟨-, h16, -, hP, -⟩ := tab_pts hc
  have hs : smM L = true := by simp only [smM, Bool.and_eq_true, decide_eq_true_eq]; omega
  exact ⟨hs, by simp only [gdM, hs, Bool.true_and, decide_eq_true_eq]; exact hc⟩
theorem tid_small {L : List (List Int)} (hc : chk L = 0) : (decide ((tidL L).length ≤ 10000) && (tidL L).all small) = true := by
  obtain ⟨-, h16, -, -, -⟩ := tab_pts hc
  unfold tidL
  rw [if_pos hc]
  exact (cyc_small (chk_cov hc).prm h16).2
theorem facV_of {L : List (List Int)} (hc : chk L = 0) : facV L = .tup [.il (lls (faceL L)) (faceL L).length false, vI 0] := by unfold facV; rw [hc]
theorem genV_of {L : List (List Int)} (hc : chk L = 0) : genV L = genN L := by unfold genV; rw [if_pos hc]
end
section
set_option maxRecDepth 4000
/-! ### Some lines -/
inductive ConA (s : Nat → Nat) (n : Nat) (ls : List Nat) (x : Nat) : Nat → Prop
  | refl : ConA s n ls x x
  | st {y : Nat} (h : ConA s n ls x y) (hy : y < n) : ConA s n ls x (s y)
  | ln {y k : Nat} (h : ConA s n ls x y) (hy : y < n) (hk : k ∈ ls) : ConA s n ls x (sw (2 * k) (2 * k + 1) y)
theorem ConA.trans {s n ls x y z} (a : ConA s n ls x y) (b : ConA s n ls y z) : ConA s n ls x z := by
  induction b with
  | refl => exact a
  | st h hy ih => exact .st ih hy
  | ln h hy hk ih => exact .ln ih hy hk
theorem ConA.lead {s n ls x y} (h : Stp s n) (hx : x < n) (l : Lead s x y) : ConA s n ls x y :=
  lead_in h (Q := fun x y => ConA s n ls x y) (fun _ _ => .refl) (fun _ _ _ _ _ _ u v => u.trans v) (fun x hx => .st .refl hx) hx l
def Lns (n : Nat) (ls : List Nat) : Prop := ∀ k ∈ ls, 2 * k + 1 < n
theorem ConA.lt {s n ls x y} (h : Stp s n) (hl : Lns n ls) (hx : x < n) (c : ConA s n ls x y) : y < n := by
  induction c with
  | refl => exact hx
  | st h1 hy ih => exact h.rng _ hy
  | ln h1 hy hk ih => exact sw_lt (by have := hl _ hk; omega) (hl _ hk) hy
theorem ConA.symm {s n ls x y} (h : Stp s n) (hl : Lns n ls) (hx : x < n) (c : ConA s n ls x y) : ConA s n ls y x := by
  induction c with
  | refl => exact .refl
  | st h1 hy ih => exact (ConA.lead h (h.rng _ hy) (h.symm hy .one)).trans ih
  | @ln y k h1 hy hk ih =>
    have := ConA.ln (s := s) (n := n) (ls := ls) (x := sw (2 * k) (2 * k + 1) y) .refl (sw_lt (by have := hl _ hk; omega) (hl _ hk) hy) hk
    rw [sw_sw] at this
    exact this.trans ih
theorem ConA.eqv {s n ls} (h : Stp s n) (hl : Lns n ls) : Eqv n (ConA s n ls) := ⟨fun _ _ => .refl, fun _ _ hx _ c => c.symm h hl hx, fun _ _ _ _ _ _ a b => a.trans b⟩
/-! ### An end is taken out -/
/-! ### Without two ends that are apart -/
end
section
set_option maxRecDepth 4000
def revL (L : List (List Int)) : List (List Int) := L.map List.reverse
set_option maxHeartbeats 1000000
end
section
theorem total_rev (G : List (List Int)) : total (revL G) = total G := by simp [total, revL, Function.comp_def]
theorem mem_rev {G : List (List Int)} {x : Int} : x ∈ (revL G).flatten ↔ x ∈ G.flatten := by
  simp only [revL, List.mem_flatten, List.mem_map]
  constructor
  · rintro ⟨l, ⟨a, ha, rfl⟩, hx⟩; exact ⟨a, ha, List.mem_reverse.1 hx⟩
  · rintro ⟨l, hl, hx⟩; exact ⟨l.reverse, ⟨l, hl, rfl⟩, List.mem_reverse.2 hx⟩
theorem nd_rev {l : List Int} (h : l.Nodup) : l.reverse.Nodup := by
  unfold List.Nodup at *
  rw [List.pairwise_reverse]
  exact h.imp fun h => Ne.symm h
theorem nodup_rev : ∀ {G : List (List Int)}, G.flatten.Nodup → (revL G).flatten.Nodup
  | [], h => h
  | l :: G, h => by
    rw [List.flatten_cons] at h
    obtain ⟨h1, h2, h3⟩ := List.nodup_append.1 h
    show ((l.reverse) :: revL G).flatten.Nodup
    rw [List.flatten_cons]
    refine List.nodup_append.2 ⟨nd_rev h1, nodup_rev h2, fun x hx y hy => h3 x (by simpa using hx) y (mem_rev.1 hy)⟩
theorem Cov.rev {G n} (h : Cov G n) : Cov (revL G) n :=
  ⟨nodup_rev h.nd, fun x hx => h.rng x (mem_rev.1 hx), by rw [total_rev, h.len], h.le⟩
theorem befN_get {C : List Int} {n : Nat} (h : Prm (afterC C) n) (hn : n ≤ 16) : ∀ j, j ≤ n → ∀ k, k < j → (befN C j).getD (afterC C k).toNat 0 = k
  | 0, _, k, hk => by omega
  | j + 1, hj, k, hk => by
    rw [befN_succ]
    have r1 := h.rng j (by omega)
    have r2 := h.rng k (by omega)
    by_cases e : k = j
    · subst e; rw [getD_set_eq (by rw [befN_len]; omega)]
    · have hne : (afterC C j).toNat ≠ (afterC C k).toNat := fun he => e (h.inj k j (by omega) (by omega) (by omega))
      rw [getD_set_ne hne]
      exact befN_get h hn j (by omega) k (by omega)
theorem Cov.back {G n} (h : Cov G n) {m : Nat} (hm : m < n) : backC (befN (tabF G) n) m = afterC (tabF (revL G)) m := by
  obtain ⟨l, k, hl, hk, hkm⟩ := h.place hm
  have hlr : l.reverse ∈ revL G := List.mem_map.2 ⟨l, hl, rfl⟩
  have hlen : l.reverse.length = l.length := List.length_reverse
  -- the place before
  obtain ⟨p, hp, hpk⟩ : ∃ p, p < l.length ∧ (p + 1) % l.length = k := by
    cases k with
    | zero => exact ⟨l.length - 1, by omega, by rw [show l.length - 1 + 1 = l.length by omega, Nat.mod_self]⟩
    | succ k => exact ⟨k, by omega, Nat.mod_eq_of_lt hk⟩
  have hpm : l[p]? = some l[p] := List.getElem?_eq_getElem hp
  have hr := h.rng l[p] (List.mem_flatten.2 ⟨l, hl, List.getElem_mem hp⟩)
  obtain ⟨q, hq⟩ := Int.eq_ofNat_of_zero_le hr.1
  rw [hq] at hpm hr
  have ha := h.after hl hp hpm
  rw [hpk, List.getD_eq_getElem?_getD, hkm, Option.getD_some] at ha
  have hb := befN_get h.prm h.le n (Nat.le_refl _) q (by omega)
  rw [ha, Int.toNat_natCast] at hb
  have hk' : l.length - 1 - k < l.reverse.length := by omega
  have hrk : l.reverse[l.length - 1 - k]? = some (m : Int) := by
    rw [List.getElem?_reverse (by omega), ← hkm]; congr 1; omega
  rw [h.rev.after hlr hk' hrk]
  unfold backC
  rw [Int.toNat_natCast, hb, hlen, List.getD_eq_getElem?_getD]
  have hidx : (l.length - 1 - k + 1) % l.length = l.length - 1 - p := by
    rcases Nat.lt_or_ge (p + 1) l.length with h1 | h1
    · rw [Nat.mod_eq_of_lt h1] at hpk
      rw [Nat.mod_eq_of_lt (by omega)]; omega
    · have e1 : p + 1 = l.length := by omega
      rw [e1, Nat.mod_self] at hpk
      rw [show l.length - 1 - k + 1 = l.length by omega, Nat.mod_self]; omega
  rw [hidx, List.getElem?_reverse (by omega), show l.length - 1 - (l.length - 1 - p) = p by omega, hpm]
  rfl
theorem g19_ok {L : List (List Int)} (hs : smM L = true) : g19 L = true := by
  simp only [g19, Bool.and_eq_true, Bool.or_eq_true, decide_eq_true_eq, List.all_eq_true, List.mem_range]
  refine ⟨hs, ?_⟩
  by_cases hc : chk L = 0
  · have h := chk_cov hc
    have hn := (chk_zero hc).1
    refine .inr ⟨fun k hk => ?_, (h.rev.prm.congr (fun m hm => h.back hm)).ok hn⟩
    have := h.prm.rng k hk
    exact within_iff.2 ⟨by omega, by omega⟩
  · exact .inl hc
end
section
theorem join_sym {L : List (List Int)} (hc : chk L = 0) {p q : Nat} (h : joinR L p q = true) : p < L.length ∧ q < L.length ∧ joinR L q p = true := by
  have hcv := chk_cov hc
  have hne := chk_ne hc
  obtain ⟨-, -, hev⟩ := chk_zero hc
  unfold joinR at h
  rw [Int.toNat_natCast] at h
  have hp : p < L.length := by
    apply Classical.byContradiction
    intro hp
    rw [List.getD_eq_getElem?_getD, List.getElem?_eq_none (by omega)] at h
    simp at h
  rw [List.getD_eq_getElem?_getD, List.getElem?_eq_getElem hp, Option.getD_some] at h
  obtain ⟨e, he, he2⟩ := List.any_eq_true.1 h
  rw [decide_eq_true_eq] at he2
  obtain ⟨e1, e2⟩ := hcv.rng e (List.mem_flatten.2 ⟨_, List.getElem_mem hp, he⟩)
  obtain ⟨m, rfl⟩ := Int.eq_ofNat_of_zero_le e1
  have hpt := (hcv.at hne (List.getElem?_eq_getElem hp) he).2
  rw [other_onat] at he2
  obtain ⟨k, l, k1, k2, -, k3⟩ := hcv.pnt hne (m := onat m) (onat_lt hev (by omega))
  rw [k3] at he2
  obtain rfl : k = q := by omega
  have hq := (List.getElem?_eq_some_iff.1 k1).1
  refine ⟨hp, hq, ?_⟩
  unfold joinR
  rw [Int.toNat_natCast, List.getD_eq_getElem?_getD, k1, Option.getD_some]
  have ho : onat (onat m) = m := by unfold onat; split <;> split <;> omega
  exact List.any_eq_true.2 ⟨_, k2, by rw [other_onat, ho, hpt]; simp⟩
end
section
def rot {α : Type} (k : Nat) (l : List α) : List α := l.drop k ++ l.take k
theorem mod_add {r a n : Nat} (hr : r < n) (ha : a < n) : (r + a) % n = if r + a < n then r + a else r + a - n := by
  split
  · rename_i h; exact Nat.mod_eq_of_lt h
  · rename_i h
    rw [Nat.mod_eq_sub_mod (by omega)]; exact Nat.mod_eq_of_lt (by omega)
theorem rot_get {α : Type} {k j : Nat} {l : List α} (hk : k < l.length) (hj : j < l.length) : (rot k l)[j]? = l[(k + j) % l.length]? := by
  rw [mod_add hk hj]
  unfold rot
  split
  · rename_i h
    rw [List.getElem?_append_left (by simp; omega), List.getElem?_drop]
  · rename_i h
    rw [List.getElem?_append_right (by simp; omega), List.getElem?_take]
    simp only [List.length_drop]
    rw [if_pos (by omega)]; congr 1; omega
theorem join_iff {L : List (List Int)} (hc : chk L = 0) {p q : Nat} : joinR L p q = true ↔ ∃ m : Nat, m < total L ∧ (m : Int) ∈ L.getD p [] ∧ (onat m : Int) ∈ L.getD q [] := by
  have hcv := chk_cov hc
  have hne := chk_ne hc
  obtain ⟨-, -, hev⟩ := chk_zero hc
  have hget : ∀ {p : Nat} {x : Int}, x ∈ L.getD p [] → ∃ l, L[p]? = some l ∧ x ∈ l := fun {p x} h => by
    rw [List.getD_eq_getElem?_getD] at h
    cases hh : L[p]? with
    | none => rw [hh] at h; simp at h
    | some l => rw [hh] at h; exact ⟨l, rfl, h⟩
  unfold joinR
  rw [Int.toNat_natCast, List.any_eq_true]
  constructor
  · rintro ⟨e, he, he2⟩
    rw [decide_eq_true_eq] at he2
    obtain ⟨l, h1, h2⟩ := hget he
    obtain ⟨e1, e2⟩ := hcv.rng e (List.mem_flatten.2 ⟨l, List.mem_of_getElem? h1, h2⟩)
    obtain ⟨m, rfl⟩ := Int.eq_ofNat_of_zero_le e1
    rw [other_onat] at he2
    obtain ⟨k, l2, k1, k2, -, k3⟩ := hcv.pnt hne (m := onat m) (onat_lt hev (by omega))
    rw [k3] at he2
    obtain rfl : k = q := by omega
    exact ⟨m, by omega, he, by rw [List.getD_eq_getElem?_getD, k1]; exact k2⟩
  · rintro ⟨m, hm, h1, h2⟩
    obtain ⟨l, h3, h4⟩ := hget h2
    exact ⟨m, h1, by rw [other_onat, (hcv.at hne h3 h4).2]; simp⟩
structure Same (A B : List (List Int)) (s : Nat → Nat) : Prop where
  ca : chk A = 0
  cb : chk B = 0
  len : A.length = B.length
  tot : total A = total B
  lt : ∀ j, j < A.length → s j < A.length
  inj : ∀ i j, i < A.length → j < A.length → s i = s j → i = j
  mem : ∀ j, j < A.length → ∀ x, x ∈ A.getD j [] ↔ x ∈ B.getD (s j) []
theorem Same.join {A B s} (h : Same A B s) {p q : Nat} (hp : p < A.length) (hq : q < A.length) : joinR A p q = true ↔ joinR B (s p) (s q) = true := by
  rw [join_iff h.ca, join_iff h.cb, h.tot]
  simp only [h.mem p hp, h.mem q hq]
theorem Same.fits {A B s} (h : Same A B s) {k : Nat} {c : List Int} (hf : Fits (JR B) k c) (hl : c.length = B.length) : ∃ c', Fits (JR A) k c' ∧ c'.length = A.length := by
  have hget : ∀ j, j < A.length → ((List.range A.length).map fun j => c.getD (s j) 0).getD j 0 = c.getD (s j) 0 := fun j hj => by
    simp [List.getD_eq_getElem?_getD, hj]
  have hle := h.len
  refine ⟨(List.range A.length).map fun j => c.getD (s j) 0, ⟨fun i hi => ?_, fun p q hq hp ⟨e, hj⟩ => ?_⟩, by simp⟩
  · rw [List.length_map, List.length_range] at hi
    rw [hget i hi]
    exact hf.rng _ (by have := h.lt i hi; omega)
  · rw [List.length_map, List.length_range] at hp
    have hq' : q < A.length := by omega
    rw [hget p hp, hget q hq'] at e
    have hj2 : joinR B (s p) (s q) = true := (h.join hp hq').1 hj
    obtain ⟨-, -, hj3⟩ := join_sym h.cb hj2
    have l1 := h.lt p hp
    have l2 := h.lt q hq'
    rcases Nat.lt_trichotomy (s q) (s p) with hlt | heq | hlt
    · exact hf.ok _ _ hlt (by omega) ⟨e, hj2⟩
    · have := h.inj q p hq' hp heq; omega
    · exact hf.ok _ _ hlt (by omega) ⟨e.symm, hj3⟩
theorem Same.loop {A B s} (h : Same A B s) (hA : loopR A = true) : loopR B = true := by
  obtain ⟨p, hp, hj⟩ := List.any_eq_true.1 hA
  rw [List.mem_range] at hp
  have := h.lt p hp
  have hl := h.len
  exact List.any_eq_true.2 ⟨s p, List.mem_range.2 (by omega), (h.join hp hp).1 hj⟩
end
section
set_option maxRecDepth 4000
def Nx (l : List Int) (x y : Int) : Prop := ∃ k, k < l.length ∧ l[k]? = some x ∧ l.getD ((k + 1) % l.length) 0 = y
theorem Nx.rot {A C : List Int} {x y : Int} (h : Nx (A ++ C) x y) : Nx (C ++ A) x y := by
  rcases A with _ | ⟨a, A⟩
  · simpa using h
  have e : (a :: A) ++ C = Go.Sx.Ch.rot C.length (C ++ a :: A) := by
    unfold Go.Sx.Ch.rot
    rw [List.drop_left' rfl, List.take_left' rfl]
  have hlen : ((a :: A) ++ C).length = (C ++ a :: A).length := by simp; omega
  obtain ⟨k, h1, h2, h3⟩ := h
  rw [hlen] at h1 h3
  rw [e] at h2 h3
  have ht : C.length < (C ++ a :: A).length := by simp
  generalize C ++ a :: A = l at *
  generalize C.length = t at *
  rw [rot_get ht h1] at h2
  refine ⟨(t + k) % l.length, Nat.mod_lt _ (by omega), h2, ?_⟩
  have hm : (k + 1) % l.length < l.length := Nat.mod_lt _ (by omega)
  rw [List.getD_eq_getElem?_getD, rot_get ht hm] at h3
  rw [List.getD_eq_getElem?_getD, Nat.mod_add_mod, Nat.add_assoc]
  rw [Nat.add_mod_mod] at h3
  exact h3
theorem Nx.out {A B : List Int} {e x y : Int} (hx : x ≠ e) (hnd : (A ++ e :: B).Nodup) (h : Nx (A ++ e :: B) x y) : (y ≠ e → Nx (A ++ B) x y) ∧ (y = e → ∀ z, Nx (A ++ e :: B) e z → Nx (A ++ B) x z) := by
  have hR : e ∉ B ++ A := by
    obtain ⟨n1, n2, n3⟩ := List.nodup_append.1 hnd
    obtain ⟨n4, n5⟩ := List.nodup_cons.1 n2
    intro hm
    rcases List.mem_append.1 hm with hm | hm
    · exact n4 hm
    · exact n3 e hm e List.mem_cons_self rfl
  have hr := h.rot
  have hz : ∀ z, Nx (A ++ e :: B) e z → Nx (e :: (B ++ A)) e z := fun z hz => hz.rot
  have back : ∀ y, Nx (B ++ A) x y → Nx (A ++ B) x y := fun y hy => hy.rot
  rw [List.cons_append] at hr
  generalize B ++ A = R at *
  obtain ⟨k, h1, h2, h3⟩ := hr
  rcases k with _ | i
  · simp at h2; exact absurd h2.symm hx
  rw [List.getElem?_cons_succ] at h2
  have hi := (List.getElem?_eq_some_iff.1 h2).1
  rw [List.length_cons] at h3
  rcases Nat.lt_or_ge (i + 1) R.length with c | c
  · rw [Nat.mod_eq_of_lt (by omega), List.getD_cons_succ] at h3
    have hy : R[i + 1]? = some y := by
      rw [List.getD_eq_getElem?_getD, List.getElem?_eq_getElem c] at h3
      rw [List.getElem?_eq_getElem c]; exact congrArg some h3
    refine ⟨fun _ => back y ⟨i, hi, h2, by rw [Nat.mod_eq_of_lt c]; exact h3⟩, fun he => absurd (he ▸ List.mem_of_getElem? hy) hR⟩
  · have e1 : i + 1 = R.length := by omega
    rw [show i + 1 + 1 = R.length + 1 by omega, Nat.mod_self, List.getD_cons_zero] at h3
    refine ⟨fun hy => absurd h3.symm hy, fun _ z hzz => back z ⟨i, hi, h2, ?_⟩⟩
    obtain ⟨k, k1, k2, k3⟩ := hz z hzz
    rcases k with _ | k
    · rw [List.length_cons, Nat.mod_eq_of_lt (by omega), List.getD_cons_succ] at k3
      rw [e1, Nat.mod_self]; exact k3
    · rw [List.getElem?_cons_succ] at k2
      exact absurd (List.mem_of_getElem? k2) hR
def flE (e : Int) (l : List Int) : List Int := l.filter fun x => decide (x ≠ e)
theorem flE_mid {A B : List Int} {e : Int} (hnd : (A ++ e :: B).Nodup) : flE e (A ++ e :: B) = A ++ B := by
  obtain ⟨n1, n2, n3⟩ := List.nodup_append.1 hnd
  obtain ⟨n4, n5⟩ := List.nodup_cons.1 n2
  unfold flE
  rw [List.filter_append, List.filter_cons, if_neg (by simp)]
  rw [List.filter_eq_self.2 fun x hx => by simpa using n3 x hx e List.mem_cons_self, List.filter_eq_self.2 fun x hx => by
    have : x ≠ e := fun h => n4 (h ▸ hx)
    simpa using this]
theorem flE_off {l : List Int} {e : Int} (h : e ∉ l) : flE e l = l := List.filter_eq_self.2 fun x hx => by
  have : x ≠ e := fun hh => h (hh ▸ hx)
  simpa using this
theorem flE_flat (e : Int) : ∀ G : List (List Int), (G.map (flE e)).flatten = flE e G.flatten
  | [] => rfl
  | l :: G => by
    rw [List.map_cons, List.flatten_cons, List.flatten_cons, flE_flat e G]
    unfold flE
    rw [List.filter_append]
structure Gd (G : List (List Int)) : Prop where
  h16 : G.all in16 = true
  nd : G.flatten.Nodup
theorem Gd.ndl {G : List (List Int)} (h : Gd G) {l : List Int} (hl : l ∈ G) : l.Nodup := by
  have hnd := h.nd
  obtain ⟨A, B, rfl⟩ := List.append_of_mem hl
  rw [List.flatten_append, List.flatten_cons] at hnd
  obtain ⟨-, h2, -⟩ := List.nodup_append.1 hnd
  exact (List.nodup_append.1 h2).1
theorem Gd.fl {G : List (List Int)} (h : Gd G) (e : Int) : Gd (G.map (flE e)) := by
  refine ⟨List.all_eq_true.2 fun l hl => ?_, ?_⟩
  · obtain ⟨l0, h0, rfl⟩ := List.mem_map.1 hl
    have := List.all_eq_true.1 h.h16 l0 h0
    exact List.all_eq_true.2 fun x hx => List.all_eq_true.1 this x (List.mem_filter.1 hx).1
  · rw [flE_flat]
    exact h.nd.filter _
theorem Gd.nx {G : List (List Int)} (h : Gd G) {l : List Int} (hl : l ∈ G) {m : Nat} {y : Int} (hx : Nx l m y) : afterC (tabF G) m = y := by
  obtain ⟨k, k1, k2, k3⟩ := hx
  rw [tabF_after h.h16 h.nd hl k1 k2, k3]
theorem Nx.ex {l : List Int} {x : Int} (hx : x ∈ l) : ∃ y, Nx l x y ∧ y ∈ l := by
  obtain ⟨k, hk, e⟩ := List.getElem_of_mem hx
  obtain ⟨-, y, -, y2, y3⟩ := next_get hk
  exact ⟨y, ⟨k, hk, by rw [List.getElem?_eq_getElem hk, e], y2⟩, y3⟩
theorem Gd.after {G : List (List Int)} (h : Gd G) {e m : Nat} (hm : (m : Int) ∈ G.flatten) (hme : m ≠ e) : afterC (tabF (G.map (flE e))) m = if afterC (tabF G) m = e then afterC (tabF G) e else afterC (tabF G) m := by
  obtain ⟨l, hl, hx⟩ := List.mem_flatten.1 hm
  obtain ⟨y, hy, hyl⟩ := Nx.ex hx
  have hme' : (m : Int) ≠ e := by omega
  have e0 := h.nx hl hy
  have hl' : flE e l ∈ G.map (flE e) := List.mem_map.2 ⟨l, hl, rfl⟩
  rw [e0]
  by_cases hel : (e : Int) ∈ l
  · obtain ⟨A, B, rfl⟩ := List.append_of_mem hel
    have hnd := h.ndl hl
    obtain ⟨o1, o2⟩ := Nx.out hme' hnd hy
    rw [flE_mid hnd] at hl'
    by_cases c : y = e
    · rw [if_pos c]
      obtain ⟨z, hz, -⟩ := Nx.ex hel
      rw [h.nx hl hz]
      exact (h.fl e).nx hl' (o2 c z hz)
    · rw [if_neg c]
      exact (h.fl e).nx hl' (o1 c)
  · rw [flE_off hel] at hl'
    have : y ≠ e := fun hh => hel (hh ▸ hyl)
    rw [if_neg this]
    exact (h.fl e).nx hl' hy
theorem Nx.map {l : List Int} {x y : Int} (f : Int → Int) (h : Nx l x y) : Nx (l.map f) (f x) (f y) := by
  obtain ⟨k, k1, k2, k3⟩ := h
  have hm : (k + 1) % l.length < l.length := Nat.mod_lt _ (by omega)
  refine ⟨k, by simpa using k1, by rw [List.getElem?_map, k2]; rfl, ?_⟩
  rw [List.getD_eq_getElem?_getD, List.length_map, List.getElem?_map, List.getElem?_eq_getElem hm]
  rw [List.getD_eq_getElem?_getD, List.getElem?_eq_getElem hm] at k3
  simp only [Option.getD_some, Option.map_some] at k3 ⊢
  rw [k3]
theorem Stp.pre {s n} (h : Stp s n) {e : Nat} (he : e < n) : ∃ p, p < n ∧ s p = e := by
  obtain ⟨q, q0, -, hq⟩ := h.per he
  obtain ⟨q, rfl⟩ : ∃ q', q = q' + 1 := ⟨q - 1, by omega⟩
  rw [it_succ] at hq
  exact ⟨_, h.it he q, hq⟩
end
section
set_option maxRecDepth 4000
theorem Nx.rev {l : List Int} {x y : Int} (h : Nx l x y) : Nx l.reverse y x := by
  obtain ⟨k, k1, k2, k3⟩ := h
  have hm : (k + 1) % l.length < l.length := Nat.mod_lt _ (by omega)
  have hy : l[(k + 1) % l.length]? = some y := by
    rw [List.getD_eq_getElem?_getD, List.getElem?_eq_getElem hm] at k3
    rw [List.getElem?_eq_getElem hm]; exact congrArg some k3
  have hlen : l.reverse.length = l.length := List.length_reverse
  refine ⟨l.length - 1 - (k + 1) % l.length, by omega, by rw [List.getElem?_reverse (by omega), show l.length - 1 - (l.length - 1 - (k + 1) % l.length) = (k + 1) % l.length by omega]; exact hy, ?_⟩
  have hn : (l.length - 1 - (k + 1) % l.length + 1) % l.length = l.length - 1 - k := by
    rcases Nat.lt_or_ge (k + 1) l.length with c | c
    · rw [Nat.mod_eq_of_lt c, Nat.mod_eq_of_lt (by omega)]; omega
    · have e : k + 1 = l.length := by omega
      rw [e, Nat.mod_self, show l.length - 1 - 0 + 1 = l.length by omega, Nat.mod_self]; omega
  rw [hlen, hn, List.getD_eq_getElem?_getD, List.getElem?_reverse (by omega), show l.length - 1 - (l.length - 1 - k) = k by omega, k2]; rfl
def oI (x : Int) : Int := (onat x.toNat : Nat)
theorem oI_nat (m : Nat) : oI (m : Int) = (onat m : Nat) := by unfold oI; rw [Int.toNat_natCast]
def othL (F : List (List Int)) : List (List Int) := F.map fun l => (l.map oI).reverse
theorem othL_eq (F : List (List Int)) : othL F = revL (F.map fun l => l.map oI) := by unfold othL revL; rw [List.map_map]; rfl
theorem oI_inj {x y : Int} (hx : 0 ≤ x) (hy : 0 ≤ y) (h : oI x = oI y) : x = y := by
  obtain ⟨a, rfl⟩ := Int.eq_ofNat_of_zero_le hx
  obtain ⟨b, rfl⟩ := Int.eq_ofNat_of_zero_le hy
  rw [oI_nat, oI_nat] at h
  have : onat a = onat b := by omega
  rw [onat_inj this]
theorem map_flat (f : Int → Int) : ∀ G : List (List Int), (G.map fun l => l.map f).flatten = G.flatten.map f
  | [] => rfl
  | l :: G => by rw [List.map_cons, List.flatten_cons, List.flatten_cons, List.map_append, map_flat f G]
theorem nodup_map {f : Int → Int} : ∀ {l : List Int}, l.Nodup → (∀ x ∈ l, ∀ y ∈ l, f x = f y → x = y) → (l.map f).Nodup
  | [], _, _ => List.nodup_nil
  | a :: l, h, hf => by
    obtain ⟨h1, h2⟩ := List.nodup_cons.1 h
    rw [List.map_cons]
    refine List.nodup_cons.2 ⟨fun hm => ?_, nodup_map h2 fun x hx y hy => hf x (List.mem_cons_of_mem _ hx) y (List.mem_cons_of_mem _ hy)⟩
    obtain ⟨b, hb, he⟩ := List.mem_map.1 hm
    have := hf b (List.mem_cons_of_mem _ hb) a List.mem_cons_self he
    exact h1 (this ▸ hb)
theorem Cov.oth {F : List (List Int)} {n : Nat} (h : Cov F n) (hev : n % 2 = 0) : Cov (othL F) n := by
  rw [othL_eq]
  refine Cov.rev ⟨?_, ?_, ?_, h.le⟩
  · rw [map_flat]
    exact nodup_map h.nd fun x hx y hy e => oI_inj (h.rng x hx).1 (h.rng y hy).1 e
  · intro x hx
    rw [map_flat] at hx
    obtain ⟨y, hy, rfl⟩ := List.mem_map.1 hx
    have hr := h.rng y hy
    obtain ⟨m, rfl⟩ := Int.eq_ofNat_of_zero_le hr.1
    rw [oI_nat]
    have := onat_lt (n := n) (m := m) hev (by omega)
    omega
  · rw [← total_flatten, map_flat, List.length_map, total_flatten, h.len]
theorem oth_len (F : List (List Int)) : (othL F).length = F.length := by simp [othL]
theorem back_map {L : List (List Int)} (hc : chk L = 0) : chk (backL L) = 0 ∧ total (backL L) = total L ∧ backL L = tidL (revL L) ∧ chk (revL L) = 0 ∧ (∀ m : Nat, m < total L → afterC (tabF (backL L)) (stpM L m) = m) := by
  obtain ⟨-, h16, hev, -, -⟩ := tab_pts hc
  have h := chk_cov hc
  have hr := h.rev
  have hne : ∀ l ∈ revL L, l.length ≠ 0 := fun l hl => by
    obtain ⟨l0, h0, rfl⟩ := List.mem_map.1 hl
    rw [List.length_reverse]; exact chk_ne hc l0 h0
  have hcr : chk (revL L) = 0 := hr.chk hne hev
  have hb : backL L = cyc (backC (befN (tabF L) (total L))) (total L) := by unfold backL; rw [if_pos hc]
  have hp : Prm (backC (befN (tabF L) (total L))) (total L) := hr.prm.congr fun m hm => h.back hm
  obtain ⟨a, b, -, d⟩ := cyc_map hp h16 hev
  rw [← hb] at a b d
  refine ⟨a, b, ?_, hcr, fun m hm => ?_⟩
  · unfold tidL
    rw [if_pos hcr, total_rev, hb]
    exact cyc_cong hr.prm fun m hm => h.back hm
  · have hn := h.prm.nat hm
    have hlt : stpM L m < total L := hn.2
    rw [d _ hlt]
    have := befN_get h.prm h16 (total L) (Nat.le_refl _) m hm
    unfold backC
    rw [hn.1] at this
    exact this
theorem stp_back {L : List (List Int)} (hc : chk L = 0) {m : Nat} (hm : m < total L) : stpM (backL L) (stpM L m) = m := by
  obtain ⟨-, -, -, -, h⟩ := back_map hc
  have := h m hm
  unfold stpM at this ⊢
  unfold natS at this ⊢
  rw [this]; simp
theorem back_stp {L : List (List Int)} (hc : chk L = 0) {m : Nat} (hm : m < total L) : stpM (backL L) m < total L ∧ stpM L (stpM (backL L) m) = m := by
  have hs : Stp (stpM L) (total L) := (chk_cov hc).prm.stp
  obtain ⟨p, hp, rfl⟩ := hs.pre hm
  rw [stp_back hc hp]; exact ⟨hp, rfl⟩
theorem back_back {L : List (List Int)} (hc : chk L = 0) : backL (backL L) = tidL L := by
  obtain ⟨-, h16, hev, -, -⟩ := tab_pts hc
  obtain ⟨a, b, -, -, -⟩ := back_map hc
  have h := chk_cov hc
  have hB := chk_cov a
  rw [b] at hB
  have e : backL (backL L) = cyc (backC (befN (tabF (backL L)) (total L))) (total L) := by rw [backL, if_pos a, b]
  rw [e]
  unfold tidL
  rw [if_pos hc]
  refine cyc_cong h.prm fun m hm => ?_
  have hn := h.prm.nat hm
  have hlt : stpM L m < total L := hn.2
  have hx := (hB.prm.nat hlt).1
  have hy : natS (afterC (tabF (backL L))) (stpM L m) = m := stp_back hc hm
  rw [hy] at hx
  have := befN_get hB.prm h16 (total L) (Nat.le_refl _) (stpM L m) hlt
  rw [hx, Int.toNat_natCast] at this
  unfold backC
  rw [Int.toNat_natCast, this]
  exact hn.1.symm
theorem back_len {L : List (List Int)} (hc : chk L = 0) : (backL L).length = L.length := by
  obtain ⟨-, -, c, d, -⟩ := back_map hc
  rw [c, tid_len d]; simp [revL]
theorem back_part {L : List (List Int)} (hc : chk L = 0) : partR (backL L) = partR L := by
  obtain ⟨a, b, -, -, -⟩ := back_map hc
  have hs : Stp (stpM L) (total L) := (chk_cov hc).prm.stp
  have ht : Stp (stpM (backL L)) (total L) := by
    have := (chk_cov a).prm.stp
    rw [b] at this; exact this
  refine part_same hc a b (fun y hy => ?_) fun y hy => ?_
  · have l : Lead (stpM (backL L)) (stpM L y) y := by
      have := Lead.one (f := stpM (backL L)) (x := stpM L y)
      rwa [stp_back hc hy] at this
    exact Con.lead ht hy (ht.symm (hs.rng y hy) l)
  · obtain ⟨h1, h2⟩ := back_stp hc hy
    have l : Lead (stpM L) (stpM (backL L) y) y := by
      have := Lead.one (f := stpM L) (x := stpM (backL L) y)
      rwa [h2] at this
    exact Con.lead hs hy (hs.symm h1 l)
theorem back_face {L : List (List Int)} (hc : chk L = 0) : tdW (othL (faceL L)) = faceL (backL L) ∧ (∀ l ∈ faceL L, l.length ≠ 0) ∧ Cov (othL (faceL L)) (total L) ∧ (∀ l ∈ othL (faceL L), l.length ≠ 0) := by
  obtain ⟨-, h16, hev, -, -⟩ := tab_pts hc
  obtain ⟨a, b, -, -, -⟩ := back_map hc
  obtain ⟨fa, fb, fc⟩ := face_map hc
  have hF := chk_cov fa
  rw [fb] at hF
  have hO := hF.oth hev
  have hne := chk_ne fa
  have hneO : ∀ l ∈ othL (faceL L), l.length ≠ 0 := fun l hl => by
    obtain ⟨l0, h0, rfl⟩ := List.mem_map.1 hl
    rw [List.length_reverse, List.length_map]; exact hne l0 h0
  refine ⟨?_, hne, hO, hneO⟩
  rw [tdW_tidyF hO hneO, (tidy_cyc hO _ (Nat.le_refl _)).1]
  have e : faceL (backL L) = cyc (alongC (tabF (backL L))) (total L) := by rw [faceL, if_pos a, b]
  rw [e]
  have hB := chk_cov a
  rw [b] at hB
  refine cyc_cong (hB.along hev) fun m hm => ?_
  have ho := onat_lt hev hm
  obtain ⟨y1, y2⟩ := back_stp hc ho
  have e1 : alongC (tabF (backL L)) m = stpM (backL L) (onat m) := by
    unfold alongC
    rw [oth_onat m (by omega)]
    exact (hB.prm.nat ho).1
  rw [e1]
  generalize stpM (backL L) (onat m) = y at *
  have hoy := onat_lt hev y1
  have e2 : afterC (tabF (faceL L)) (onat y : Nat) = (onat m : Nat) := by
    rw [fc _ hoy]
    unfold alongC
    rw [oth_onat _ (by omega), onat_onat, ((chk_cov hc).prm.nat y1).1]
    show ((stpM L y : Nat) : Int) = _
    rw [y2]
  obtain ⟨l, hl, hx⟩ := List.mem_flatten.1 (hF.cover hoy)
  obtain ⟨z, hz, -⟩ := Nx.ex hx
  have gF : Gd (faceL L) := ⟨hF.h16, hF.nd⟩
  have gO : Gd (othL (faceL L)) := ⟨hO.h16, hO.nd⟩
  have := gF.nx hl hz
  rw [e2] at this
  rw [← this] at hz
  have h3 := (hz.map oI).rev
  rw [oI_nat, oI_nat, onat_onat, onat_onat] at h3
  exact gO.nx (List.mem_map.2 ⟨l, hl, rfl⟩) h3
theorem back_gen {L : List (List Int)} (hc : chk L = 0) : genN (backL L) = genN L := by
  obtain ⟨a, b, -, -, -⟩ := back_map hc
  obtain ⟨e, -, hO, hneO⟩ := back_face hc
  have hl : (faceL (backL L)).length = (faceL L).length := by
    rw [← e]
    unfold tdW
    rw [(srtOn_ok (hO.dst hneO) (by rw [tdM_len]; exact Nat.le_refl _)).1.len, tdM_len, oth_len]
  unfold genN
  rw [back_part hc, b, back_len hc, hl]
end
end Go.Sx.Ch
