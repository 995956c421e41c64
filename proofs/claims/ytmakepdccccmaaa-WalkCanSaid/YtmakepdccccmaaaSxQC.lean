/- What functions of the walk layer return: whether, and for how long, walks go on. No conditions. -/
import Derived.Test.YtmakepdccccmaaaSxQB
set_option linter.unusedVariables false
set_option linter.unusedSimpArgs false
set_option maxRecDepth 4000
namespace Go.Sx.Wk
open Go Go.Sx Go.Proofs

attribute [simp] effMkmap
@[simp] theorem mE_nil : mE [] = [] := rfl
@[simp] theorem mI_nil : mI [] = [] := rfl
@[simp] theorem unmE_nil : unmE [] = some [] := rfl
@[simp] theorem unmI_nil : unmI [] = some [] := rfl
theorem splice6 {t : List Int} (h : t.length ≤ 4) (a b : AV) : splice [vI 0, vI 0, vI 0, vI 0, a, b] 0 (ints t) = ints (pad t t) ++ [a, b] := by
  match t, h with
  | [], _ => rfl
  | [x], _ => rfl
  | [x, y], _ => rfl
  | [x, y, z], _ => rfl
  | [x, y, z, w], _ => rfl
  | x :: y :: z :: w :: v :: r, h => simp at h
def s54 : Sp := spT 54 [.l] fun (t : List Int) => if (decide (t.length ≤ 4)) = true then some (.ptr 0 0, shp t false (pad t t) [] [], 3) else none
@[simp] theorem s54_g : s54.g = 54 := rfl
@[simp] theorem s54_f : s54.f = (spT 54 [.l] fun (t : List Int) => if (decide (t.length ≤ 4)) = true then some (.ptr 0 0, shp t false (pad t t) [] [], 3) else none).f := rfl
theorem s54_ok : s54.ok Try.prog := by
  apply spT_ok
  simp only [OkT, Ty.all, List.nil_append, List.cons_append]
  intro t u r h' k' hh
  split at hh
  · rename_i h4
    simp only [decide_eq_true_eq] at h4
    cases hh
    rw [hp_eq]
    refine P54.rz (ss := []) trivial (by simp) fun Q hQ => ?_
    delta p54 p54_r0 p54_r1 p54_r2 p54_r3
    simp (disch := omega) [oLt, oLe, oLtN, oLeN, nLt, nLe, nLtN, nLeN]
    have h6 := splice6 h4 (.map 2) (.map 3)
    simp only [vI] at h6
    rw [h6]
    refine hQ _ _ (.chg (.trans (.to (s' := ⟨[(2, .ptr 0 0)], shp t u (pad t t) [] [], 3⟩) [5, 2, 3] (by simp [shp])) (.weak (s' := ⟨[(2, .ptr 0 0)], shp t false (pad t t) [] [], 3⟩) ?_ ?_ rfl .refl)) (.fin' (.inl rfl) rfl rfl rfl))
    · exact ⟨rfl, .refl, trivial⟩
    · refine ⟨rfl, ⟨rfl, fun i x y hx hy => ?_⟩, rfl, .refl, rfl, .refl, trivial⟩
      rcases i with _ | i
      · simp at hx hy; subst hx hy; exact .open
      · simp only [List.getElem?_cons_succ] at hx hy
        rw [hx] at hy; cases hy; exact .refl
  · cases hh
theorem chk_facts {t : List Int} (h : chk t = 0) : ok8 t = true ∧ t.length ≤ 4 ∧ t ≠ [] := by
  obtain ⟨h0, h4, h8⟩ := chk_ok h
  exact ⟨ok8_iff.2 h8, h4, h0⟩
def s55 : Sp := s55n 5000
@[simp] theorem s55_g : s55.g = 55 := rfl
@[simp] theorem s55_f : s55.f = (spS 55 (G55 5000)).f := rfl
theorem s55_ok : s55.ok Try.prog := s55n_ok 5000
theorem pad4 {t : List Int} (h : t.length ≤ 4) : ∃ a b c d, pad t t = [a, b, c, d] := by
  match t, h with
  | [], _ => exact ⟨_, _, _, _, rfl⟩
  | [x], _ => exact ⟨_, _, _, _, rfl⟩
  | [x, y], _ => exact ⟨_, _, _, _, rfl⟩
  | [x, y, z], _ => exact ⟨_, _, _, _, rfl⟩
  | [x, y, z, w], _ => exact ⟨_, _, _, _, rfl⟩
  | x :: y :: z :: w :: v :: r, h => simp at h
/-- What the search from the beginning says. -/
theorem goF_top {t : List Int} (ht : ok8 t = true) (h4 : t.length ≤ 4) : ∃ ev sh, goF t 5000 (pad t t) [] [] = some (canB t, ev, sh) ∧ Inv t [] ev sh ∧ (canB t = false → lk (pad t t) ev = some false) := by
  obtain ⟨b, ev, sh, h1, h2, _, h3, h5⟩ := goF_ok ht h4 5000 [] t [] [] (val_self (ok8_iff.1 ht)) inv_nil (fun k hk => by simp at hk) (unv_nil ht h4)
  have hb : b = canB t := by
    cases b with
    | true => exact ((canB_iff ht h4).2 (h3 rfl)).symm
    | false =>
      obtain ⟨l, m, e1, e2, e3, e4⟩ := h2.fa _ (h5 rfl)
      have := pad_inj rfl (val_len e2) e1
      subst this
      cases hc : canB t with
      | false => rfl
      | true => have := (canB_iff ht h4).1 hc (m + 1); rw [e4.2] at this; cases this
  subst hb
  exact ⟨ev, sh, h1, h2, h5⟩

def s19 : Sp := spT 19 [.l] fun (t : List Int) => res (small t) (canF t)
@[simp] theorem s19_g : s19.g = 19 := rfl
@[simp] theorem s19_f : s19.f = (spT 19 [.l] fun (t : List Int) => res (small t) (canF t)).f := rfl
theorem s19_ok : s19.ok Try.prog := by
  apply spT_ok
  simp only [OkT, Ty.all, List.nil_append, List.cons_append]
  intro (t : List Int) ut
  apply okT_res; intro hg
  refine P19.rz (ss := [s23, s54, s55]) ⟨s23_ok, s54_ok, s55_ok, trivial⟩ (by simp) fun Q hQ => ?_
  delta p19 p19_r0 p19_r1 p19_r2 p19_r3 p19_r4 p19_r5
  by_cases h0 : chk t = 0
  · obtain ⟨ht, h4, hne⟩ := chk_facts h0
    obtain ⟨ev, sh, h1, h2, h3⟩ := goF_top ht h4
    obtain ⟨a, b, c, d, hp⟩ := pad4 h4
    rw [hp] at h1
    have h55 : G55 5000 t [a, b, c, d] [] [] [.agg [vI a, vI b, vI c, vI d]] = some (vB (canB t), ev, sh) := by simp [G55, h1]
    simp (disch := omega) [oLt, oLe, oLtN, oLeN, nLt, nLe, nLtN, nLeN, hg, h0, h4, hp, shp, h55]
    exact hQ _ _ (.p (.inl rfl) (by simp [canF, h0]) (by simp [canF, h0]))
  · simp (disch := omega) [oLt, oLe, oLtN, oLeN, nLt, nLe, nLtN, nLeN, hg, h0]
    exact hQ _ _ (.p (.inl rfl) (by simp [canF, h0]) (by simp [canF, h0]))

def s21 : Sp := spT 21 [.l] fun (t : List Int) => res (small t) (longF t)
@[simp] theorem s21_g : s21.g = 21 := rfl
@[simp] theorem s21_f : s21.f = (spT 21 [.l] fun (t : List Int) => res (small t) (longF t)).f := rfl
theorem s21_ok : s21.ok Try.prog := by
  apply spT_ok
  simp only [OkT, Ty.all, List.nil_append, List.cons_append]
  intro (t : List Int) ut
  apply okT_res; intro hg
  refine P21.rz (ss := [s23, s54, s55]) ⟨s23_ok, s54_ok, s55_ok, trivial⟩ (by simp) fun Q hQ => ?_
  delta p21 p21_r0 p21_r1 p21_r2 p21_r3 p21_r4 p21_r5 p21_r6 p21_r7
  by_cases h0 : chk t = 0
  · obtain ⟨ht, h4, hne⟩ := chk_facts h0
    obtain ⟨ev, sh, h1, h2, h3⟩ := goF_top ht h4
    obtain ⟨a, b, c, d, hp⟩ := pad4 h4
    rw [hp] at h1 h3
    have h55 : G55 5000 t [a, b, c, d] [] [] [.agg [vI a, vI b, vI c, vI d]] = some (vB (canB t), ev, sh) := by simp [G55, h1]
    cases hc : canB t with
    | true =>
      rw [hc] at h55
      simp (disch := omega) [oLt, oLe, oLtN, oLeN, nLt, nLe, nLtN, nLeN, hg, h0, h4, hp, shp, h55]
      exact hQ _ _ (.p (.inl rfl) (by simp [longF, h0, hc]) (by simp [longF, h0, hc]))
    | false =>
      rw [hc] at h55
      obtain ⟨l, m, e1, e2, e3, e4⟩ := h2.fa _ (h3 hc)
      have hl := pad_inj rfl (val_len e2) (by rw [hp]; exact e1)
      subst hl
      have hm : (aliveF t).2 = (m : Int) := by
        rcases aliveF_spec ht h4 with ⟨q1, _, _⟩ | ⟨n, q1, q2⟩
        · have := q1 (m + 1); rw [e4.2] at this; cases this
        · rw [q1, long_uniq e4 q2]
      have hkI := keys4_I h2.k2
      have hkS : (KTy.ar 4 .i64).ok (kS [a, b, c, d]) = true := kS_ok rfl
      have hv : (AV.agg [vI a, vI b, vI c, vI d]).val = some (kS [a, b, c, d]) := val_ints [a, b, c, d]
      cases hfd : findP [a, b, c, d] sh 0 with
      | some r =>
        obtain ⟨i, n⟩ := r
        have hn : n = m := by rw [← e3]; simp [getS, hfd]
        subst hn
        simp (disch := omega) [oLt, oLe, oLtN, oLeN, nLt, nLe, nLtN, nLeN, hg, h0, h4, hp, shp, h55, hkI, hkS, hv, hfd]
        exact hQ _ _ (.p (.inl rfl) (by simp [longF, h0, hc, hm]) (by simp [longF, h0, hc]))
      | none =>
        have hn : (0 : Int) = m := by rw [← e3]; simp [getS, hfd]
        simp (disch := omega) [oLt, oLe, oLtN, oLeN, nLt, nLe, nLtN, nLeN, hg, h0, h4, hp, shp, h55, hkI, hkS, hv, hfd]
        exact hQ _ _ (.p (.inl rfl) (by simp [longF, h0, hc, hm, ← hn]) (by simp [longF, h0, hc]))
  · simp (disch := omega) [oLt, oLe, oLtN, oLeN, nLt, nLe, nLtN, nLeN, hg, h0]
    exact hQ _ _ (.p (.inl rfl) (by simp [longF, h0]) (by simp [longF, h0]))
end Go.Sx.Wk
