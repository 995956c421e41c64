/- What comes next on a face is one to one; steps that are alike. No conditions. -/
import Derived.Test.YtfiebjbhiflfpaaDoorSxJDHtoDK0
import Derived.Test.YtfiebjbhiflfpaaDoorSxCN
set_option linter.unusedVariables false
set_option linter.unusedSimpArgs false
namespace Go.Sx.Ch
open Go Go.Sx Go.Proofs

theorem Prm.congr {σ τ : Int → Int} {n : Nat} (h : Prm σ n) (e : ∀ m : Nat, m < n → τ m = σ m) : Prm τ n :=
  ⟨fun k hk => by rw [e k hk]; exact h.rng k hk, fun i j hi hj hh => h.inj i j hi hj (by rw [← e i hi, ← e j hj]; exact hh)⟩
theorem Cov.along {G n} (h : Cov G n) (hn : n % 2 = 0) : Prm (alongC (tabF G)) n := by
  have e : ∀ m : Nat, m < n → alongC (tabF G) m = afterC (tabF G) (onat m : Int) := fun m hm => by
    have := h.le
    unfold alongC; rw [oth_onat m (by omega)]
  refine ⟨fun k hk => ?_, fun i j hi hj hh => ?_⟩
  · rw [e k hk]; exact h.prm.rng _ (onat_lt hn hk)
  · rw [e i hi, e j hj] at hh
    exact onat_inj (h.prm.inj _ _ (onat_lt hn hi) (onat_lt hn hj) hh)
theorem g33_ok {L : List (List Int)} (hs : smM L = true) : g33 L = true := by
  simp only [g33, Bool.and_eq_true, Bool.or_eq_true, decide_eq_true_eq]
  refine ⟨hs, ?_⟩
  by_cases hc : chk L = 0
  · obtain ⟨h16, -, hev⟩ := chk_zero hc
    exact .inr (((chk_cov hc).along hev).ok h16)
  · exact .inl hc
theorem orb_congr {σ τ : Int → Int} {n : Nat} (h : Prm σ n) (e : ∀ m : Nat, m < n → τ m = σ m) {a : Int} : ∀ (f m : Nat), m < n → orb τ a f m = orb σ a f m
  | 0, m, _ => rfl
  | f + 1, m, hm => by
    simp only [orb]
    rw [e m hm]
    obtain ⟨h0, h1⟩ := h.rng m hm
    obtain ⟨q, hq⟩ := Int.eq_ofNat_of_zero_le h0
    rw [hq, orb_congr h e f q (by omega)]
theorem cycN_cong2 {σ τ : Int → Int} {n : Nat} (h : Prm σ n) (e : ∀ m : Nat, m < n → τ m = σ m) : ∀ k, k ≤ n → cycN τ k = cycN σ k
  | 0, _ => rfl
  | k + 1, hk => by
    rw [cycN_succ, cycN_succ, cycN_cong2 h e k (by omega)]
    unfold cycS
    rw [orb_congr h e 16 k (by omega)]
end Go.Sx.Ch
