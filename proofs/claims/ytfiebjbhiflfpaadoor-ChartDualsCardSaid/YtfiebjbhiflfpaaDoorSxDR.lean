/- Without a line each end is there once; the facts that ChartDuals asks for. No conditions. -/
import Derived.Test.YtfiebjbhiflfpaaDoorSxJDNtoDQ
import Derived.Test.YtfiebjbhiflfpaaDoorSxDG
set_option linter.unusedVariables false
set_option linter.unusedSimpArgs false
namespace Go.Sx.Ch
open Go Go.Sx Go.Proofs

theorem flt_mem {n : Int} {S : List Int} {v : Int} : v ∈ flt n S ↔ (v ∈ S ∧ v < 2 * n) ∨ (v + 2 ∈ S ∧ 2 * n + 1 < v + 2) := by
  simp only [flt, List.mem_filterMap]
  constructor
  · rintro ⟨e, he, h⟩
    split at h
    · rename_i h1; cases h; exact .inl ⟨he, h1⟩
    · split at h
      · rename_i h1 h2
        cases h
        exact .inr ⟨by rw [show e - 2 + 2 = e by omega]; exact he, by omega⟩
      · cases h
  · rintro (⟨h1, h2⟩ | ⟨h1, h2⟩)
    · exact ⟨v, h1, by rw [if_pos h2]⟩
    · exact ⟨v + 2, h1, by rw [if_neg (by omega), if_pos h2, show v + 2 - 2 = v by omega]⟩
theorem flt_nodup {n : Int} : ∀ {S : List Int}, S.Nodup → (flt n S).Nodup
  | [], h => h
  | e :: S, h => by
    obtain ⟨h1, h2⟩ := List.nodup_cons.1 h
    have ih := flt_nodup (n := n) h2
    show (List.filterMap _ (e :: S)).Nodup
    rw [List.filterMap_cons]
    split
    · exact ih
    · rename_i v hv
      refine List.nodup_cons.2 ⟨fun hm => ?_, ih⟩
      have hm' : v ∈ flt n S := hm
      split at hv
      · rename_i h3; cases hv
        rcases flt_mem.1 hm' with ⟨q, _⟩ | ⟨q, q2⟩
        · exact h1 q
        · omega
      · split at hv
        · rename_i h3 h4
          cases hv
          rcases flt_mem.1 hm' with ⟨q, q2⟩ | ⟨q, _⟩
          · omega
          · rw [show e - 2 + 2 = e by omega] at q; exact h1 q
        · cases hv
theorem wit_flatten (n : Int) (L : List (List Int)) : (witL n L).flatten = flt n L.flatten := by
  unfold witL flt
  rw [List.filterMap_flatten]
theorem wit_cov {L : List (List Int)} {n : Int} (hc : chk L = 0) (hin : inLine n L = true) : Cov (witL n L) (total L - 2) := by
  have h := chk_cov hc
  obtain ⟨h16, -, hev⟩ := chk_zero hc
  simp only [inLine, Bool.and_eq_true, decide_eq_true_eq] at hin
  obtain ⟨hlo, hhi⟩ := hin
  have hnd : (witL n L).flatten.Nodup := by rw [wit_flatten]; exact flt_nodup h.nd
  have hr : ∀ x ∈ (witL n L).flatten, 0 ≤ x ∧ x < ((total L - 2 : Nat) : Int) := fun x hx => by
    rw [wit_flatten] at hx
    rcases flt_mem.1 hx with ⟨q, q2⟩ | ⟨q, q2⟩
    · have := h.rng x q; omega
    · have := h.rng _ q; omega
  refine ⟨hnd, hr, ?_, by omega⟩
  rw [← total_flatten]
  refine len_of hnd hr fun m hm => ?_
  rw [wit_flatten, flt_mem]
  by_cases e : (m : Int) < 2 * n
  · exact .inl ⟨h.cover (by omega), e⟩
  · have := h.cover (m := m + 2) (by omega)
    exact .inr ⟨by simpa using this, by omega⟩
theorem wit_in {n : Int} {L : List (List Int)} (hw : witE n L = 0) : chk L = 0 ∧ inLine n L = true := by
  unfold witE at hw
  by_cases hc : chk L = 0
  · rw [if_pos hc] at hw
    by_cases hi : inLine n L = true
    · exact ⟨hc, hi⟩
    · rw [if_neg hi] at hw; cases hw
  · rw [if_neg hc] at hw; exact absurd hw hc
theorem cov_g70 {G : List (List Int)} {n : Nat} (h : Cov G n) (hl : G.length ≤ 10000) : g70 G = true ∧ smM G = true := by
  have := h.len
  have := h.le
  simp only [g70, smM, Bool.and_eq_true, decide_eq_true_eq]
  exact ⟨⟨⟨h.h16, by omega⟩, hl⟩, hl, by omega⟩
theorem pd_ok {n : Int} {L : List (List Int)} (hl : largeF L = false) : PD n L := by
  have hs := large_sm hl
  have hlen : L.length ≤ 10000 := by simp only [smM, Bool.and_eq_true, decide_eq_true_eq] at hs; exact hs.1
  have hwl : (witL n L).length ≤ 10000 := by simp [witL]; exact hlen
  refine ⟨g33_ok hs, g18_ok hs, g19_ok hs, g20_ok hs, ?_, ?_, fun hc => face_tidy hc, fun hc => back_eq hc, fun hw => ?_, face_small, fun hc => back_small hc, fun hw => ?_⟩
  · simp only [g21, Bool.and_eq_true, Bool.or_eq_true, decide_eq_true_eq]
    refine ⟨hs, ?_⟩
    by_cases hw : witE n L = 0
    · obtain ⟨hc, hi⟩ := wit_in hw
      have hcv := wit_cov hc hi
      refine .inr ⟨(cov_g70 hcv hwl).1, ?_⟩
      rw [hcv.len]; exact hcv.prm.ok hcv.le
    · exact .inl hw
  · simp only [g22, g64, Bool.and_eq_true, Bool.or_eq_true, decide_eq_true_eq]
    refine ⟨hs, ?_⟩
    by_cases hw : witE n L = 0
    · obtain ⟨hc, hi⟩ := wit_in hw
      have hcv := wit_cov hc hi
      have h16 := (chk_zero hc).1
      simp only [inLine, Bool.and_eq_true, decide_eq_true_eq] at hi
      exact .inr ⟨(cov_g70 hcv hwl).2, within_iff.2 ⟨by omega, by omega⟩⟩
    · exact .inl hw
  · obtain ⟨hc, hi⟩ := wit_in hw
    have hcv := wit_cov hc hi
    unfold witC cyc
    rw [hcv.len, (tidy_cyc hcv _ (Nat.le_refl _)).1]
  · obtain ⟨hc, hi⟩ := wit_in hw
    have hcv := wit_cov hc hi
    unfold witC
    rw [hcv.len]
    exact (cyc_small hcv.prm hcv.le).2
/-- The law returns true. -/
theorem duals_runs (L : List (List Int)) (u : Bool) (n : Int) : Runs Tryd.prog 3 0 [.agg [.il (lls L) L.length u], vI n] (hpF []) (vB true) 0 (hpF []) :=
  duals_walk fun h => pd_ok h
end Go.Sx.Ch
