/- What functions of the chart layer return: Tidy. No conditions. -/
import Derived.Test.YtfiebjbhiflfpaaDoorSxDK1
import Derived.Test.YtfiebjbhiflfpaaDoorSxPCc
set_option linter.unusedVariables false
set_option linter.unusedSimpArgs false
set_option maxRecDepth 4000
namespace Go.Sx.Ch
open Go Go.Sx Go.Proofs

set_option maxHeartbeats 4000000
def mpB (l : List (List Int)) : AV := .agg [.il (lls l) l.length false]
def tidL (L : List (List Int)) : List (List Int) := if chk L = 0 then cyc (afterC (tabF L)) (total L) else []
def tidV (L : List (List Int)) : AV := .tup [if chk L = 0 then mpB (tidL L) else nilA, vI (chk L)]
def s42 : Sp := spT 42 [.mp] fun (L : List (List Int)) => res (smM L) (tidV L)
@[simp] theorem s42_g : s42.g = 42 := rfl
@[simp] theorem s42_f : s42.f = (spT 42 [.mp] fun (L : List (List Int)) => res (smM L) (tidV L)).f := rfl
theorem s42_ok : s42.ok Tryd.prog := by
  apply spT_ok
  simp only [OkT, Ty.all, List.nil_append, List.cons_append]
  intro (L : List (List Int)) u
  apply okT_res; intro hs
  refine P42.rz (ss := [s67, s68]) ⟨s67_ok, s68_ok, trivial⟩ (by simp) fun Q hQ => ?_
  delta p42 p42_r0 p42_r1 p42_r2 p42_r3 p42_r4
  by_cases hc : chk L = 0
  · obtain ⟨h34, he⟩ := tab_ends hc hs
    obtain ⟨h16, -, -⟩ := chk_zero hc
    have hok : okS (afterC (tabF L)) (total L) = true := (chk_cov hc).prm.ok h16
    have hT : t34 (tabF L) = true := by simp [t34, h34]
    have hen : endsC (tabF L) = ((total L : Nat) : Int) := he
    have ht : (tabF L).take 34 = tabF L := List.take_of_length_le (by omega)
    have hv : openV L = .tup [.agg (ints (tabF L)), vI 0] := by unfold openV; rw [hc]; rfl
    have hsp : splice (ints Z34) 0 (ints (tabF L)) = ints (tabF L) := splice_all (by simp [h34, z34_len])
    have hF : cyc (afterC (tabF L)) (total L) = tidL L := by unfold tidL; rw [if_pos hc]
    have hr : tidV L = .tup [.agg [.il (lls (tidL L)) (tidL L).length false], vI 0] := by unfold tidV; rw [hc, if_pos rfl]; rfl
    have hcy : cycF (tabF L) (.fn (.func 71) [.agg (ints (tabF L))] []) = res true (.il (lls (tidL L)) (tidL L).length false) := by
      unfold cycF; simp only [stepOf_71, hT, if_true, hen, Int.toNat_natCast, hok, hF, Bool.and_true, Bool.true_and]
      rw [decide_eq_true (by omega)]
    generalize tidL L = F at *
    generalize tabF L = C at *
    rw [hr] at hQ
    simp (disch := omega) [oLt, oLe, oLtN, oLeN, nLt, nLe, nLtN, nLeN, hs, hv, zl, hsp, h34, z34_len, ht, hcy, effMkfn]
    exact hQ _ _ (.p (.inl rfl) (by simp [Eff.exec]) (by simp))
  · have hv : openV L = .tup [.agg (ints Z34), vI (chk L)] := by unfold openV; rw [if_neg hc]
    have hr : tidV L = .tup [.agg [.v (.slice none 0 0)], vI (chk L)] := by unfold tidV; rw [if_neg hc]; rfl
    rw [hr] at hQ
    generalize chk L = c at *
    simp (disch := omega) [oLt, oLe, oLtN, oLeN, nLt, nLe, nLtN, nLeN, hs, hv, zl, zz, z34_len, hc]
    exact hQ _ _ (.p (.inl rfl) (by simp [Eff.exec]) (by simp))
end Go.Sx.Ch
