/- What functions of the chart layer return: Faces, Dual. No conditions. -/
import Derived.Test.YtfiebjbhiflfpaaDoorSxCM
set_option linter.unusedVariables false
set_option linter.unusedSimpArgs false
set_option maxRecDepth 4000
namespace Go.Sx.Ch
open Go Go.Sx Go.Proofs

theorem tab_ends {L : List (List Int)} (h : chk L = 0) (hs : smM L = true) : (tabF L).length = 34 ∧ endsC (tabF L) = total L := by
  have hg := chk_g70 h hs
  simp only [g70, Bool.and_eq_true] at hg
  obtain ⟨h1, h2, -⟩ := tabF_facts hg.1.1
  exact ⟨h1, h2⟩
def faceL (L : List (List Int)) : List (List Int) := if chk L = 0 then cyc (alongC (tabF L)) (total L) else []
def facV (L : List (List Int)) : AV := .tup [.il (lls (faceL L)) (faceL L).length false, vI (chk L)]
def g33 (L : List (List Int)) : Bool := smM L && (decide (¬ chk L = 0) || okS (alongC (tabF L)) (total L))
set_option maxHeartbeats 2000000
def s33 : Sp := spT 33 [.mp] fun (L : List (List Int)) => res (g33 L) (facV L)
@[simp] theorem s33_g : s33.g = 33 := rfl
@[simp] theorem s33_f : s33.f = (spT 33 [.mp] fun (L : List (List Int)) => res (g33 L) (facV L)).f := rfl
theorem s33_ok : s33.ok Tryd.prog := by
  apply spT_ok
  simp only [OkT, Ty.all, List.nil_append, List.cons_append]
  intro (L : List (List Int)) u
  apply okT_res; intro hg
  refine P33.rz (ss := [s67, s68]) ⟨s67_ok, s68_ok, trivial⟩ (by simp) fun Q hQ => ?_
  delta p33 p33_r0 p33_r1 p33_r2 p33_r3 p33_r4
  simp only [g33, Bool.and_eq_true, Bool.or_eq_true, decide_eq_true_eq] at hg
  obtain ⟨hs, hg⟩ := hg
  by_cases hc : chk L = 0
  · obtain ⟨h34, he⟩ := tab_ends hc hs
    have hok : okS (alongC (tabF L)) (total L) = true := hg.resolve_left (fun h => h hc)
    have hT : t34 (tabF L) = true := by simp [t34, h34]
    have hen : endsC (tabF L) = ((total L : Nat) : Int) := he
    have ht : (tabF L).take 34 = tabF L := List.take_of_length_le (by omega)
    have hv : openV L = .tup [.agg (ints (tabF L)), vI 0] := by unfold openV; rw [hc]; rfl
    have hsp : splice (ints Z34) 0 (ints (tabF L)) = ints (tabF L) := splice_all (by simp [h34, z34_len])
    have hF : cyc (alongC (tabF L)) (total L) = faceL L := by unfold faceL; rw [if_pos hc]
    have hr : facV L = .tup [.il (lls (faceL L)) (faceL L).length false, vI 0] := by unfold facV; rw [hc]
    have hcy : cycF (tabF L) (.fn (.func 84) [.agg (ints (tabF L))] []) = res true (.il (lls (faceL L)) (faceL L).length false) := by
      unfold cycF; simp only [stepOf_84, hT, if_true, hen, Int.toNat_natCast, hok, hF, Bool.and_true, Bool.true_and]
      rw [decide_eq_true (by omega)]
    generalize faceL L = F at *
    generalize tabF L = C at *
    rw [hr] at hQ
    simp (disch := omega) [oLt, oLe, oLtN, oLeN, nLt, nLe, nLtN, nLeN, hs, hv, zl, hsp, h34, z34_len, ht, hcy, effMkfn]
    exact hQ _ _ (.fz [2, 3] _ (.inl rfl) (by simp; rfl) (by simp) (by simp))
  · have hv : openV L = .tup [.agg (ints Z34), vI (chk L)] := by unfold openV; rw [if_neg hc]
    have hr : facV L = .tup [.il [] 0 false, vI (chk L)] := by unfold facV faceL; rw [if_neg hc]; rfl
    rw [hr] at hQ
    generalize chk L = c at *
    simp (disch := omega) [oLt, oLe, oLtN, oLeN, nLt, nLe, nLtN, nLeN, hs, hv, zl, zz, z34_len, hc]
    exact hQ _ _ (.fz [2, 3] _ (.inl rfl) (by simp; rfl) (by simp) (by simp))
def dualV (L : List (List Int)) : AV := .tup [.agg [.il (lls (faceL L)) (faceL L).length false], vI (chk L)]
def s17 : Sp := spT 17 [.mp] fun (L : List (List Int)) => res (g33 L) (dualV L)
@[simp] theorem s17_g : s17.g = 17 := rfl
@[simp] theorem s17_f : s17.f = (spT 17 [.mp] fun (L : List (List Int)) => res (g33 L) (dualV L)).f := rfl
theorem s17_ok : s17.ok Tryd.prog := by
  apply spT_ok
  simp only [OkT, Ty.all, List.nil_append, List.cons_append]
  intro (L : List (List Int)) u
  apply okT_res; intro hg
  refine P17.rz (ss := [s33]) ⟨s33_ok, trivial⟩ (by simp) fun Q hQ => ?_
  delta p17 p17_r0 p17_r1 p17_r2
  have hr : facV L = .tup [.il (lls (faceL L)) (faceL L).length false, vI (chk L)] := rfl
  have hd : dualV L = .tup [.agg [.il (lls (faceL L)) (faceL L).length false], vI (chk L)] := rfl
  rw [hd] at hQ
  generalize chk L = c at *
  generalize faceL L = F at *
  simp (disch := omega) [oLt, oLe, oLtN, oLeN, nLt, nLe, nLtN, nLeN, hg, hr]
  exact hQ _ _ (.p (.inl rfl) (by simp [Eff.exec]) (by simp))
end Go.Sx.Ch
set_option maxRecDepth 4000
namespace Go.Sx.Ch
open Go Go.Sx Go.Proofs

def Z16 : List Int := List.replicate 16 0
theorem zl16 : [AV.v (Value.int IntKind.i64 0), AV.v (Value.int IntKind.i64 0), AV.v (Value.int IntKind.i64 0), AV.v (Value.int IntKind.i64 0), AV.v (Value.int IntKind.i64 0), AV.v (Value.int IntKind.i64 0), AV.v (Value.int IntKind.i64 0), AV.v (Value.int IntKind.i64 0), AV.v (Value.int IntKind.i64 0), AV.v (Value.int IntKind.i64 0), AV.v (Value.int IntKind.i64 0), AV.v (Value.int IntKind.i64 0), AV.v (Value.int IntKind.i64 0), AV.v (Value.int IntKind.i64 0), AV.v (Value.int IntKind.i64 0), AV.v (Value.int IntKind.i64 0)] = ints Z16 := rfl
/-- What comes before each end, of the first so many. -/
def befN (C : List Int) (n : Nat) : List Int := (List.range n).foldl (fun B (k : Nat) => B.set (afterC C k).toNat k) Z16
theorem befN_succ (C : List Int) (n : Nat) : befN C (n + 1) = (befN C n).set (afterC C n).toNat n := by simp [befN, List.range_succ, List.foldl_append]
theorem befN_len (C : List Int) (n : Nat) : (befN C n).length = 16 := by
  induction n with
  | zero => rfl
  | succ n ih => rw [befN_succ]; simp [ih]
def backL (L : List (List Int)) : List (List Int) := if chk L = 0 then cyc (backC (befN (tabF L) (total L))) (total L) else []
def nilA : AV := .agg [.v (.slice none 0 0)]
def backV (L : List (List Int)) : AV := .tup [if chk L = 0 then .agg [.il (lls (backL L)) (backL L).length false] else nilA, vI (chk L)]
def g19 (L : List (List Int)) : Bool := smM L && (decide (¬ chk L = 0) || ((List.range (total L)).all (fun (k : Nat) => within 0 (afterC (tabF L) k) 15) && okS (backC (befN (tabF L) (total L))) (total L)))
set_option maxHeartbeats 2000000
def s19 : Sp := spT 19 [.mp] fun (L : List (List Int)) => res (g19 L) (backV L)
@[simp] theorem s19_g : s19.g = 19 := rfl
@[simp] theorem s19_f : s19.f = (spT 19 [.mp] fun (L : List (List Int)) => res (g19 L) (backV L)).f := rfl
theorem s19_ok : s19.ok Tryd.prog := by
  apply spT_ok
  simp only [OkT, Ty.all, List.nil_append, List.cons_append]
  intro (L : List (List Int)) u
  apply okT_res; intro hg
  refine P19.rz (ss := [s67, s68, s69]) ⟨s67_ok, s68_ok, s69_ok, trivial⟩ (by simp) fun Q hQ => ?_
  delta p19
  simp only [g19, Bool.and_eq_true, Bool.or_eq_true, decide_eq_true_eq] at hg
  obtain ⟨hs, hg⟩ := hg
  by_cases hc : chk L = 0
  · obtain ⟨h34, he⟩ := tab_ends hc hs
    obtain ⟨h16, -, -⟩ := chk_zero hc
    obtain ⟨haf, hok⟩ := hg.resolve_left (fun h => h hc)
    have hen : endsC (tabF L) = ((total L : Nat) : Int) := he
    have ht : (tabF L).take 34 = tabF L := List.take_of_length_le (by omega)
    have hv : openV L = .tup [.agg (ints (tabF L)), vI 0] := by unfold openV; rw [hc]; rfl
    have hsp : splice (ints Z34) 0 (ints (tabF L)) = ints (tabF L) := splice_all (by simp [h34, z34_len])
    have hF : cyc (backC (befN (tabF L) (total L))) (total L) = backL L := by unfold backL; rw [if_pos hc]
    have hr : backV L = .tup [.agg [.il (lls (backL L)) (backL L).length false], vI 0] := by unfold backV; rw [hc, if_pos rfl]
    have hT : t34 (tabF L) = true := by simp [t34, h34]
    have hcy : cycF (tabF L) (.fn (.func 69) [] [.elt (ints (befN (tabF L) (total L))) 0]) = res true (.il (lls (backL L)) (backL L).length false) := by
      unfold cycF; simp only [stepOf_69, befN_len, if_true, hT, hen, Int.toNat_natCast, hok, hF, Bool.and_true, Bool.true_and]
      rw [decide_eq_true (by omega)]
    have hin : ∀ k, k < total L → ∃ m : Nat, m < 16 ∧ (tabF L)[1 + k]? = some (m : Int) ∧ afterC (tabF L) k = m := fun k hk => by
      have h1 := within_iff.1 (List.all_eq_true.1 haf k (List.mem_range.2 hk))
      obtain ⟨m, hm⟩ := Int.eq_ofNat_of_zero_le h1.1
      refine ⟨m, by omega, ?_, hm⟩
      rw [List.getElem?_eq_getElem (by omega)]
      have : afterC (tabF L) k = (tabF L)[1 + k] := by simp [afterC, List.getD_eq_getElem?_getD, show 1 + k < (tabF L).length by omega]
      rw [← this, hm]
    have h0 : (tabF L)[0]? = some ((total L : Nat) : Int) := by
      rw [List.getElem?_eq_getElem (by omega)]
      have : endsC (tabF L) = (tabF L)[0] := by simp [endsC, List.getD_eq_getElem?_getD, h34]
      rw [← this, hen]
    have h0' := (List.getElem?_eq_some_iff.1 h0).2
    generalize backL L = F at *
    generalize hCe : tabF L = C at *
    generalize hn : total L = n at *
    rw [hr] at hQ
    refine XZ_step ?_ (fun N Q_ hN => ?_) ?_
    rotate_left
    · delta p19_r0; simp (disch := omega) [oLt, oLe, oLtN, oLeN, nLt, nLe, nLtN, nLeN]
      exact hN
    refine XZ_step ?_ (fun N Q_ hN => ?_) ?_
    rotate_left
    · delta p19_r1; simp (disch := omega) [oLt, oLe, oLtN, oLeN, nLt, nLe, nLtN, nLeN, hs, hv, zl, hsp, h34, z34_len, ht]
      exact hN
    delta p19_r2 p19_r4 p19_r5
    simp (disch := omega) [oLt, oLe, oLtN, oLeN, nLt, nLe, nLtN, nLeN, zl16, h34, h0, h0']
    refine XZ_for (fun k : Nat => ⟨[(2, .ptr 0 0), (4, .ptr 1 0), (6, .ptr 2 0), (18, vI n), (19, vI k)], [(0, .cells [.v (.slice none 0 0)]), (1, .cells (ints C)), (2, .cells (ints (befN C k)))], 3⟩) (fun k => n - k) (fun k => k ≤ n) 0 (by simp) (.tot [2, 4, 6] (by simp [befN])) ?_
    intro k hk N Q' hN hE
    rcases Nat.lt_or_ge k n with h | h
    · have hkc : (k : Int) < n := by omega
      have hk16 : (k : Int) < 16 := by omega
      obtain ⟨m, hm, hm1, hm2⟩ := hin k h
      have hm3 := (List.getElem?_eq_some_iff.1 hm1).2
      have hmc : (m : Int) < 16 := by omega
      have hb := befN_succ C k
      rw [hm2, Int.toNat_natCast] at hb
      have hbl := befN_len C k
      have fin : ∀ s', ChgT 0 s' ⟨[(2, .ptr 0 0), (4, .ptr 1 0), (6, .ptr 2 0), (18, vI n), (19, vI ((k + 1 : Nat) : Int))], [(0, .cells [.v (.slice none 0 0)]), (1, .cells (ints C)), (2, .cells (ints ((befN C k).set m k)))], 3⟩ → N s' := fun s' hh => hN s' (k + 1) (by omega) h (by rw [hb]; exact hh)
      clear hN hb
      generalize befN C k = B at *
      delta p19_l0 p19_r6 p19_r7 p19_r8 p19_r9
      simp (disch := omega) [oLt, oLe, oLtN, oLeN, nLt, nLe, nLtN, nLeN, hkc, hk16, hm, hm1, hm3, hmc, hbl, h34]
      exact fin _ (.tot [2, 4, 6] (by simp))
    · obtain rfl : k = n := by omega
      have hkc : ¬ (k : Int) < k := by omega
      have hbl := befN_len C k
      generalize befN C k = B at *
      delta p19_l0 p19_r6 p19_r7 p19_r8 p19_r9
      simp (disch := omega) [oLt, oLe, oLtN, oLeN, nLt, nLe, nLtN, nLeN, hkc]
      refine hE _ _ _ (.frz 2 (by simp; rfl) (by simp) .refl) ?_
      simp only [inBE, thenE, if_true]
      delta p19_r10
      simp (disch := omega) [oLt, oLe, oLtN, oLeN, nLt, nLe, nLtN, nLeN, h34, ht, hcy, effMkfn, frzS]
      exact hQ _ _ (.p (.inl rfl) (by simp [Eff.exec]) (by simp))
  · delta p19_r0 p19_r1 p19_r2 p19_r3
    have hv : openV L = .tup [.agg (ints Z34), vI (chk L)] := by unfold openV; rw [if_neg hc]
    have hr : backV L = .tup [.agg [.v (.slice none 0 0)], vI (chk L)] := by unfold backV; rw [if_neg hc]; rfl
    rw [hr] at hQ
    generalize chk L = c at *
    simp (disch := omega) [oLt, oLe, oLtN, oLeN, nLt, nLe, nLtN, nLeN, hs, hv, zl, zz, z34_len, hc]
    exact hQ _ _ (.p (.inl rfl) (by simp [Eff.exec]) (by simp))
end Go.Sx.Ch
