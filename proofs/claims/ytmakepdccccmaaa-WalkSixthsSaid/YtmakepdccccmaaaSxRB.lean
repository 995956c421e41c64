/- The first walk, tide by tide: plain facts. No conditions. -/
import Derived.Test.YtmakepdccccmaaaSxJN1toN2
set_option linter.unusedVariables false
set_option linter.unusedSimpArgs false
namespace Go.Sx.Wk
open Go Go.Sx Go.Proofs

theorem stpB_first {e : List Int → Bool} {t l : List Int} : ∀ {r s : Nat} {q : List Int}, r ≤ t.length → stpB e t l r = some (s, q) → ∀ s' q', t.length - r ≤ s' → s' < s → aftG (s' : Nat) t l 0 = some q' → e q' = false
  | 0, s, q, hr, h => by simp [stpB] at h
  | r + 1, s, q, hr, h => by
    intro s' q' h1 h2 h3
    simp only [stpB] at h
    cases ha : aftG ((t.length - (r + 1) : Nat) : Int) t l 0 with
    | none =>
      rw [ha] at h
      simp only at h
      by_cases he : s' = t.length - (r + 1)
      · rw [he, ha] at h3; cases h3
      · exact stpB_first (by omega) h s' q' (by omega) h2 h3
    | some q0 =>
      rw [ha] at h
      simp only at h
      by_cases he0 : e q0 = true
      · rw [if_pos he0] at h
        cases h
        omega
      · rw [if_neg he0] at h
        by_cases he : s' = t.length - (r + 1)
        · rw [he, ha] at h3; cases h3; simpa using he0
        · exact stpB_first (by omega) h s' q' (by omega) h2 h3
theorem good_snoc {x : Int} {t : List Int} (h1 : ∀ y ∈ t, 1 ≤ y) : ∀ {w l : List Int}, val t l → goodG w 0 t l = true → aftG x t (endG w 0 t l) 0 = if goodG (w ++ [x]) 0 t l = true then some (endG (w ++ [x]) 0 t l) else none
  | [], l, hv, hg => by
    rw [endG_nil hv, List.nil_append]
    cases ha : aftG x t l 0 with
    | none => rw [if_neg (by rw [goodG_none hv ha]; simp)]
    | some l' =>
      have hv' := aft_val hv h1 ha
      obtain ⟨g, e⟩ := goodG_some (r := []) hv ha
      rw [if_pos (by rw [g]; exact goodG_nil), e, endG_nil hv']
  | y :: r, l, hv, hg => by
    cases ha : aftG y t l 0 with
    | none => rw [goodG_none hv ha] at hg; cases hg
    | some l' =>
      have hv' := aft_val hv h1 ha
      obtain ⟨g, e⟩ := goodG_some (r := r) hv ha
      obtain ⟨g2, e2⟩ := goodG_some (r := r ++ [x]) hv ha
      rw [g] at hg
      rw [e, List.cons_append, g2, e2]
      exact good_snoc h1 hv' hg
theorem walkB_at {t : List Int} (ht : ok8 t = true) (h4 : t.length ≤ 4) (hc : canB t = true) : ∀ (n : Nat) (l : List Int), val t l → Ever t l → (walkB t n l).length = n ∧ goodG (walkB t n l) 0 t l = true ∧
    ∀ i, i < n → ∃ s q, (walkB t n l)[i]? = some ((s : Nat) : Int) ∧ s < t.length ∧ goodG ((walkB t n l).take i) 0 t l = true ∧ val t (endG ((walkB t n l).take i) 0 t l) ∧ stpB (everB t) t (endG ((walkB t n l).take i) 0 t l) t.length = some (s, q)
  | 0, l, hv, he => ⟨rfl, goodG_nil, fun i hi => by omega⟩
  | n + 1, l, hv, he => by
    have h1 : ∀ y ∈ t, 1 ≤ y := fun y hy => (ok8_iff.1 ht y hy).1
    obtain ⟨s, q, e1, e2, e3, e4, e5⟩ := stpB_ever ht h4 hc hv he
    obtain ⟨i1, i2, i3⟩ := walkB_at ht h4 hc n q e4 e5
    have hw : walkB t (n + 1) l = (s : Int) :: walkB t n q := by simp only [walkB, e1]
    rw [hw]
    obtain ⟨g, _⟩ := goodG_some (r := walkB t n q) hv e3
    refine ⟨by simp [i1], by rw [g]; exact i2, fun i hi => ?_⟩
    rcases i with _ | i
    · exact ⟨s, q, rfl, e2, goodG_nil, by rw [List.take_zero, endG_nil hv]; exact hv, by rw [List.take_zero, endG_nil hv]; exact e1⟩
    · obtain ⟨s', q', j1, j2, j3, j4, j5⟩ := i3 i (by omega)
      obtain ⟨g', f'⟩ := goodG_some (r := (walkB t n q).take i) hv e3
      refine ⟨s', q', by rw [List.getElem?_cons_succ]; exact j1, j2, ?_, ?_, ?_⟩
      · rw [List.take_succ_cons, g']; exact j3
      · rw [List.take_succ_cons, f']; exact j4
      · rw [List.take_succ_cons, f']; exact j5
/-- What the law says of the first walk. -/
structure FirstF (t w : List Int) (n : Nat) : Prop where
  len : w.length = n
  good : goodL w 0 t = true
  at_ : ∀ i, i < n → ∃ x : Nat, w[i]? = some (x : Int) ∧ x < t.length ∧ ∀ s : Nat, s ≤ x → goodL (w.take i ++ [(s : Int)]) 0 t = true → (canB t && everB t (leftL (w.take i ++ [(s : Int)]) 0 t)) = decide (s = x)
theorem first_facts {t : List Int} (ht : ok8 t = true) (h4 : t.length ≤ 4) (hc : canB t = true) (n : Nat) : FirstF t (walkB t n t) n := by
  have ht8 := ok8_iff.1 ht
  have h1 : ∀ y ∈ t, 1 ≤ y := fun y hy => (ht8 y hy).1
  have hv := val_self ht8
  obtain ⟨a, b, c⟩ := walkB_at ht h4 hc n t hv ((canB_iff ht h4).1 hc)
  refine ⟨a, by rw [← goodG_top]; exact b, fun i hi => ?_⟩
  obtain ⟨x, q, e1, e2, e3, e4, e5⟩ := c i hi
  refine ⟨x, e1, e2, fun s hs hg => ?_⟩
  have hsn := good_snoc (x := (s : Int)) h1 hv e3
  have hg' : goodG ((walkB t n t).take i ++ [(s : Int)]) 0 t t = true := by rw [← hg]; exact goodG_top
  rw [if_pos hg'] at hsn
  have hl : leftL ((walkB t n t).take i ++ [(s : Int)]) 0 t = endG ((walkB t n t).take i ++ [(s : Int)]) 0 t t := endG_top.symm
  rw [hc, Bool.true_and, hl]
  obtain ⟨f1, f2, f3⟩ := stpB_some (Nat.le_refl _) e5
  by_cases hsx : s = x
  · subst hsx
    rw [f2] at hsn
    cases hsn
    rw [f3]; simp
  · rw [stpB_first (Nat.le_refl _) e5 s _ (by omega) (by omega) hsn]
    simp [hsx]
end Go.Sx.Wk
