/- What functions of the walk layer return: Groups; WalkGroups's walk. No conditions. -/
import Derived.Test.YtmakepdccccmaaaSxO5
import Derived.Test.YtmakepdccccmaaaSxJS29toR5
set_option linter.unusedVariables false
set_option linter.unusedSimpArgs false
set_option maxRecDepth 4000
namespace Go.Sx.Wk
open Go Go.Sx Go.Proofs

def s70 : Sp := put70 5
@[simp] theorem s70_g : s70.g = 70 := rfl
@[simp] theorem s70_f : s70.f = G70 5 := rfl
theorem s70_ok : s70.ok Try.prog := put70_ok 5
set_option maxHeartbeats 4000000
def s36 : Sp := spT 36 [.l] fun (t : List Int) => res (small t) (grpV t)
@[simp] theorem s36_g : s36.g = 36 := rfl
@[simp] theorem s36_f : s36.f = (spT 36 [.l] fun (t : List Int) => res (small t) (grpV t)).f := rfl
theorem s36_ok : s36.ok Try.prog := by
  apply spT_ok
  simp only [OkT, Ty.all, List.nil_append, List.cons_append]
  intro (t : List Int) ut
  apply okT_res; intro hst
  refine P36.rz (ss := [s23, s70]) ⟨s23_ok, s70_ok, trivial⟩ (by simp) fun Q hQ => ?_
  delta p36 p36_r0 p36_r1 p36_r2 p36_r3 p36_r4 p36_r5 p36_r6 p36_r7
  by_cases hc : chk t = 0
  case neg =>
    simp (disch := omega) [oLt, oLe, oLtN, oLeN, nLt, nLe, nLtN, nLeN, hst, hc]
    exact hQ _ _ (.fz [2, 3] _ (.inl rfl) (by simp; rfl) (by simp [grpV, hc]) (by simp [grpV, hc]))
  obtain ⟨ht, h4, hne⟩ := chk_facts hc
  obtain ⟨m, q1, q2, q3, q4, q5, q6⟩ := best_put ht h4 hne
  have htp : 0 < t.length := List.length_pos_iff.2 hne
  have hg : ∀ k : Nat, 1 ≤ k → k ≤ m → g70 5 t [] k = true := fun k h1 h2 => g70_iff.2 ⟨ht, h4, by simp, by simp; omega, h1, by omega, by simp, by simp [nextL], htp⟩
  simp (disch := omega) [oLt, oLe, oLtN, oLeN, nLt, nLe, nLtN, nLeN, hst, hc, effMkfn]
  refine XZ_for (fun k : Nat => ⟨[(5, .ptr 1 0), (6, .ptr 2 0), (7, vI k)], hpA t ut (.v (.slice none 0 0)), 3⟩) (fun k => m - k) (fun k => 1 ≤ k ∧ k ≤ m) 1 ⟨by simp, q2⟩ (.to [0, 7, 8] (by simp [hpA])) ?_
  rintro k ⟨hk1, hkm⟩ N Q' hN hE
  have hgk := hg k hk1 hkm
  by_cases hlt : k < m
  · have hR : R70 t k [] = none := by simp only [R70, List.length_nil, Nat.sub_zero]; exact q6 k hlt
    have ho : outA t ut k = (vB false, hpA t ut (.v (.slice none 0 0)), 3) := by simp only [outA, hR]
    delta p36_l0 p36_r8 p36_r9
    simp (disch := omega) [oLt, oLe, oLtN, oLeN, nLt, nLe, nLtN, nLeN, hpA, G70, hgk, ho]
    exact hN _ (k + 1) (by omega) ⟨by omega, by omega⟩ (.to [0, 1, 2] (by simp [hpA]))
  · have hkm' : k = m := by omega
    have hR : R70 t k [] = some (best t).1 := by simp only [R70, List.length_nil, Nat.sub_zero]; rw [hkm']; exact q4
    have ho : outA t ut k = (vB true, hpA t ut (.ref 3 0 (best t).1.length 1 none) ++ [(3, .cells (ints (best t).1))], 4) := by simp only [outA, hR]
    delta p36_l0 p36_r8 p36_r9
    simp (disch := omega) [oLt, oLe, oLtN, oLeN, nLt, nLe, nLtN, nLeN, hpA, G70, hgk, ho]
    refine hE _ _ _ .refl ?_
    delta p36_r10
    simp (disch := omega) [oLt, oLe, oLtN, oLeN, nLt, nLe, nLtN, nLeN]
    exact hQ _ _ (.fz [2, 3] _ (.inl rfl) (by simp; rfl) (by simp [grpV, hc]) (by simp [grpV, hc]))

theorem best_small {t : List Int} (h : chk t = 0) : small (best t).1 = true := by
  obtain ⟨ht, h4, hne⟩ := chk_facts h
  obtain ⟨m, -, -, -, -, q5, -⟩ := best_put ht h4 hne
  simp [small]; omega
theorem grp_tup (t : List Int) : ∃ l e, grpV t = .tup [.il (ints l) l.length false, vI e] ∧ small l = true := by
  unfold grpV
  split
  · rename_i h; exact ⟨_, _, rfl, best_small h⟩
  · exact ⟨[], _, rfl, rfl⟩
end Go.Sx.Wk
