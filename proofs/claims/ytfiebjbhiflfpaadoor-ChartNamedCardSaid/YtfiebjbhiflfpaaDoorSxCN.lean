/- What functions of the chart layer return: Faces, Dual. No conditions. -/
import Derived.Test.YtfiebjbhiflfpaaDoorSxJCMtoHJ0
import Derived.Test.YtfiebjbhiflfpaaDoorSxJCItoCL
set_option linter.unusedVariables false
set_option linter.unusedSimpArgs false
set_option maxRecDepth 4000
namespace Go.Sx.Ch
open Go Go.Sx Go.Proofs

theorem tab_ends {L : List (List Int)} (h : chk L = 0) (hs : smM L = true) : (tabF L).length = 34 ∧ endsC (tabF L) = total L := by
  have hg := chk_g70 h hs
  simp only [g70, Bool.and_eq_true] at hg
  obtain ⟨h1, h2, -⟩ := tabF_facts hg.1.1
  exact ⟨h1, h2⟩
def nilA : AV := .agg [.v (.slice none 0 0)]
def faceL (L : List (List Int)) : List (List Int) := if chk L = 0 then cyc (alongC (tabF L)) (total L) else []
def facV (L : List (List Int)) : AV := .tup [.il (lls (faceL L)) (faceL L).length false, vI (chk L)]
def g33 (L : List (List Int)) : Bool := smM L && (decide (¬ chk L = 0) || okS (alongC (tabF L)) (total L))
set_option maxHeartbeats 2000000
def s33 : Sp := spT 33 [.mp] fun (L : List (List Int)) => res (g33 L) (facV L)
@[simp] theorem s33_g : s33.g = 33 := rfl
@[simp] theorem s33_f : s33.f = (spT 33 [.mp] fun (L : List (List Int)) => res (g33 L) (facV L)).f := rfl
theorem s33_ok : s33.ok Tryd.prog := by
  apply spT_ok
  simp only [OkT, Ty.all, List.nil_append, List.cons_append]
  intro (L : List (List Int)) u
  apply okT_res; intro hg
  refine P33.rz (ss := [s67, s68]) ⟨s67_ok, s68_ok, trivial⟩ (by simp) fun Q hQ => ?_
  delta p33 p33_r0 p33_r1 p33_r2 p33_r3 p33_r4
  simp only [g33, Bool.and_eq_true, Bool.or_eq_true, decide_eq_true_eq] at hg
  obtain ⟨hs, hg⟩ := hg
  by_cases hc : chk L = 0
  · obtain ⟨h34, he⟩ := tab_ends hc hs
    have hok : okS (alongC (tabF L)) (total L) = true := hg.resolve_left (fun h => h hc)
    have hT : t34 (tabF L) = true := by simp [t34, h34]
    have hen : endsC (tabF L) = ((total L : Nat) : Int) := he
    have ht : (tabF L).take 34 = tabF L := List.take_of_length_le (by omega)
    have hv : openV L = .tup [.agg (ints (tabF L)), vI 0] := by unfold openV; rw [hc]; rfl
    have hsp : splice (ints Z34) 0 (ints (tabF L)) = ints (tabF L) := splice_all (by simp [h34, z34_len])
    have hF : cyc (alongC (tabF L)) (total L) = faceL L := by unfold faceL; rw [if_pos hc]
    have hr : facV L = .tup [.il (lls (faceL L)) (faceL L).length false, vI 0] := by unfold facV; rw [hc]
    have hcy : cycF (tabF L) (.fn (.func 84) [.agg (ints (tabF L))] []) = res true (.il (lls (faceL L)) (faceL L).length false) := by
      unfold cycF; simp only [stepOf_84, hT, if_true, hen, Int.toNat_natCast, hok, hF, Bool.and_true, Bool.true_and]
      rw [decide_eq_true (by omega)]
    generalize faceL L = F at *
    generalize tabF L = C at *
    rw [hr] at hQ
    simp (disch := omega) [oLt, oLe, oLtN, oLeN, nLt, nLe, nLtN, nLeN, hs, hv, zl, hsp, h34, z34_len, ht, hcy, effMkfn]
    exact hQ _ _ (.fz [2, 3] _ (.inl rfl) (by simp; rfl) (by simp) (by simp))
  · have hv : openV L = .tup [.agg (ints Z34), vI (chk L)] := by unfold openV; rw [if_neg hc]
    have hr : facV L = .tup [.il [] 0 false, vI (chk L)] := by unfold facV faceL; rw [if_neg hc]; rfl
    rw [hr] at hQ
    generalize chk L = c at *
    simp (disch := omega) [oLt, oLe, oLtN, oLeN, nLt, nLe, nLtN, nLeN, hs, hv, zl, zz, z34_len, hc]
    exact hQ _ _ (.fz [2, 3] _ (.inl rfl) (by simp; rfl) (by simp) (by simp))
def dualV (L : List (List Int)) : AV := .tup [.agg [.il (lls (faceL L)) (faceL L).length false], vI (chk L)]
def s17 : Sp := spT 17 [.mp] fun (L : List (List Int)) => res (g33 L) (dualV L)
@[simp] theorem s17_g : s17.g = 17 := rfl
@[simp] theorem s17_f : s17.f = (spT 17 [.mp] fun (L : List (List Int)) => res (g33 L) (dualV L)).f := rfl
theorem s17_ok : s17.ok Tryd.prog := by
  apply spT_ok
  simp only [OkT, Ty.all, List.nil_append, List.cons_append]
  intro (L : List (List Int)) u
  apply okT_res; intro hg
  refine P17.rz (ss := [s33]) ⟨s33_ok, trivial⟩ (by simp) fun Q hQ => ?_
  delta p17 p17_r0 p17_r1 p17_r2
  have hr : facV L = .tup [.il (lls (faceL L)) (faceL L).length false, vI (chk L)] := rfl
  have hd : dualV L = .tup [.agg [.il (lls (faceL L)) (faceL L).length false], vI (chk L)] := rfl
  rw [hd] at hQ
  generalize chk L = c at *
  generalize faceL L = F at *
  simp (disch := omega) [oLt, oLe, oLtN, oLeN, nLt, nLe, nLtN, nLeN, hg, hr]
  exact hQ _ _ (.p (.inl rfl) (by simp [Eff.exec]) (by simp))
end Go.Sx.Ch
