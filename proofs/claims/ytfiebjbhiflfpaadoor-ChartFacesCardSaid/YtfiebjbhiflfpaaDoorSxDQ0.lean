/- What comes of a step that is one to one. No conditions. -/
import Derived.Test.YtfiebjbhiflfpaaDoorSxJDNtoDP
import Derived.Test.YtfiebjbhiflfpaaDoorSxJDKtoDM
set_option linter.unusedVariables false
set_option linter.unusedSimpArgs false
namespace Go.Sx.Ch
open Go Go.Sx Go.Proofs

theorem cycN_cong2 {σ τ : Int → Int} {n : Nat} (h : Prm σ n) (e : ∀ m : Nat, m < n → τ m = σ m) : ∀ k, k ≤ n → cycN τ k = cycN σ k
  | 0, _ => rfl
  | k + 1, hk => by
    rw [cycN_succ, cycN_succ, cycN_cong2 h e k (by omega)]
    unfold cycS
    rw [orb_congr h e 16 k (by omega)]
theorem len_of {S : List Int} {n : Nat} (hnd : S.Nodup) (hr : ∀ x ∈ S, 0 ≤ x ∧ x < n) (hc : ∀ m : Nat, m < n → (m : Int) ∈ S) : S.length = n := by
  apply Classical.byContradiction
  intro hne
  rcases Nat.lt_or_ge n S.length with h | h
  · obtain ⟨i, j, hij, hj, e⟩ := ph n (fun i => if hi : i < S.length then (S[i]).toNat else 0) (fun i hi => by
      have hh : i < S.length := by omega
      simp only [dif_pos hh]
      have := hr _ (List.getElem_mem hh)
      omega)
    have hi : i < S.length := by omega
    have hj' : j < S.length := by omega
    simp only [dif_pos hi, dif_pos hj'] at e
    have r1 := hr _ (List.getElem_mem hi)
    have r2 := hr _ (List.getElem_mem hj')
    have e2 : S[i] = S[j] := by omega
    have := nd_inj hnd (List.getElem?_eq_getElem hi) (by rw [List.getElem?_eq_getElem hj', e2])
    omega
  · have hlt : S.length < n := by omega
    have idx : ∀ m : Nat, m < n → ∃ k : Nat, k < S.length ∧ idxL S m = k ∧ S[k]? = some (m : Int) := fun m hm => idxL_at (idxL_mem.2 (hc m hm))
    obtain ⟨i, j, hij, hj, e⟩ := ph S.length (fun i => (idxL S i).toNat) (fun i hi => by
      obtain ⟨k, hk, e, -⟩ := idx i (by omega)
      simp only [e, Int.toNat_natCast]; exact hk)
    obtain ⟨k, hk, e1, g1⟩ := idx i (by omega)
    obtain ⟨q, hq, e2, g2⟩ := idx j (by omega)
    simp only [e1, e2, Int.toNat_natCast] at e
    subst e
    rw [g1] at g2
    simp at g2; omega
theorem fac_cov {σ : Int → Int} {n : Nat} (h : Prm σ n) (hn : n ≤ 16) : Cov (facN σ n).2 n ∧ ∀ m : Nat, m < n → afterC (tabF (facN σ n).2) m = σ m := by
  obtain ⟨h1, h2, h3, h4, h5⟩ := fac_inv h hn n (Nat.le_refl _)
  rw [h1] at h2 h3 h5
  have hc : Cov (facN σ n).2 n := ⟨h2, h3, by rw [← total_flatten]; exact len_of h2 h3 h5, hn⟩
  refine ⟨hc, fun m hm => ?_⟩
  obtain ⟨l, k, hl, hk, hkm⟩ := hc.place hm
  rw [hc.after hl hk hkm, List.getD_eq_getElem?_getD, h4 l hl k _ hkm]
  rfl
theorem tidy_fac {σ : Int → Int} {n : Nat} (h : Prm σ n) (hn : n ≤ 16) : tidyF (cyc σ n) n = cyc σ n := by
  have e : cyc σ n = (facN σ n).2 := (cyc_fac h hn n (Nat.le_refl _)).1
  obtain ⟨hc, ha⟩ := fac_cov h hn
  rw [e, (tidy_cyc hc n (Nat.le_refl _)).1, cycN_cong2 h ha n (Nat.le_refl _)]
  exact e
/-- What comes of a step that is one to one is small. -/
theorem cyc_small {σ : Int → Int} {n : Nat} (h : Prm σ n) (hn : n ≤ 16) : smM (cyc σ n) = true ∧ (decide ((cyc σ n).length ≤ 10000) && (cyc σ n).all small) = true := by
  have e : cyc σ n = (facN σ n).2 := (cyc_fac h hn n (Nat.le_refl _)).1
  obtain ⟨hc, -⟩ := fac_cov h hn
  have hl := (cycN_len σ n).2
  have hl' : (cyc σ n).length ≤ n := hl
  have ht : total (cyc σ n) = n := by rw [e]; exact hc.len
  have hs : smM (cyc σ n) = true := by simp only [smM, Bool.and_eq_true, decide_eq_true_eq]; omega
  refine ⟨hs, ?_⟩
  simp only [Bool.and_eq_true, decide_eq_true_eq, List.all_eq_true]
  exact ⟨by omega, fun l hl => smM_small hs hl⟩
theorem face_tidy {L : List (List Int)} (hc : chk L = 0) : tidyF (faceR L) (total L) = faceL L := by
  obtain ⟨h16, -, hev⟩ := chk_zero hc
  rw [faceR_eq hc]
  unfold faceL
  rw [if_pos hc]
  exact tidy_fac ((chk_cov hc).along hev) h16
theorem face_small {L : List (List Int)} : (decide ((faceL L).length ≤ 10000) && (faceL L).all small) = true := by
  unfold faceL
  by_cases hc : chk L = 0
  · obtain ⟨h16, -, hev⟩ := chk_zero hc
    rw [if_pos hc]
    exact (cyc_small ((chk_cov hc).along hev) h16).2
  · rw [if_neg hc]; decide
end Go.Sx.Ch
