/- What comes next on a face is one to one; found by looking it is the same. No conditions. -/
import Derived.Test.YtfiebjbhiflfpaaDoorSxJDHtoDJ
import Derived.Test.YtfiebjbhiflfpaaDoorSxCU
import Derived.Test.YtfiebjbhiflfpaaDoorSxCN
set_option linter.unusedVariables false
set_option linter.unusedSimpArgs false
namespace Go.Sx.Ch
open Go Go.Sx Go.Proofs

def onat (m : Nat) : Nat := if m % 2 = 0 then m + 1 else m - 1
theorem oth_onat : ∀ m : Nat, m < 16 → othI (m : Int) = (onat m : Int) := by decide
theorem other_onat (m : Nat) : otherI (m : Int) = (onat m : Int) := by
  unfold otherI onat
  split <;> split <;> omega
theorem onat_lt {n m : Nat} (hn : n % 2 = 0) (hm : m < n) : onat m < n := by
  unfold onat; split <;> omega
theorem onat_inj {a b : Nat} (h : onat a = onat b) : a = b := by
  unfold onat at h; split at h <;> split at h <;> omega
theorem Prm.congr {σ τ : Int → Int} {n : Nat} (h : Prm σ n) (e : ∀ m : Nat, m < n → τ m = σ m) : Prm τ n :=
  ⟨fun k hk => by rw [e k hk]; exact h.rng k hk, fun i j hi hj hh => h.inj i j hi hj (by rw [← e i hi, ← e j hj]; exact hh)⟩
theorem Cov.along {G n} (h : Cov G n) (hn : n % 2 = 0) : Prm (alongC (tabF G)) n := by
  have e : ∀ m : Nat, m < n → alongC (tabF G) m = afterC (tabF G) (onat m : Int) := fun m hm => by
    have := h.le
    unfold alongC; rw [oth_onat m (by omega)]
  refine ⟨fun k hk => ?_, fun i j hi hj hh => ?_⟩
  · rw [e k hk]; exact h.prm.rng _ (onat_lt hn hk)
  · rw [e i hi, e j hj] at hh
    exact onat_inj (h.prm.inj _ _ (onat_lt hn hi) (onat_lt hn hj) hh)
theorem Cov.ptL {G n} (h : Cov G n) {m : Nat} (hm : m < n) : 0 ≤ Go.Sx.Ch.ptL G m := (ptR_mem (by decide)).2 (h.cover hm)
theorem Cov.look {G n} (h : Cov G n) {m : Nat} (hm : m < n) : afterR G m = afterC (tabF G) m := by
  obtain ⟨k, l, h1, h2, h3⟩ := ptL_at (h.ptL hm)
  obtain ⟨j, j1, j2, j3⟩ := idxL_at h3
  have hl := List.mem_of_getElem? h1
  have e : G.getD (Go.Sx.Ch.ptL G m).toNat [] = l := by rw [h2, Int.toNat_natCast, List.getD_eq_getElem?_getD, h1]; rfl
  have hmod : (((j : Int) + 1) % (l.length : Int)).toNat = (j + 1) % l.length := by
    have : ((j : Int) + 1) % (l.length : Int) = (((j + 1) % l.length : Nat) : Int) := by rw [Int.natCast_emod]; rfl
    rw [this, Int.toNat_natCast]
  rw [h.after hl j1 j3]
  unfold afterR
  rw [e, j2, hmod]
theorem Cov.fac {G n} (h : Cov G n) (hn : n % 2 = 0) {m : Nat} (hm : m < n) : facR G m = alongC (tabF G) m := by
  have := h.le
  unfold facR alongC
  rw [other_onat, oth_onat m (by omega), h.look (onat_lt hn hm)]
theorem g33_ok {L : List (List Int)} (hs : smM L = true) : g33 L = true := by
  simp only [g33, Bool.and_eq_true, Bool.or_eq_true, decide_eq_true_eq]
  refine ⟨hs, ?_⟩
  by_cases hc : chk L = 0
  · obtain ⟨h16, -, hev⟩ := chk_zero hc
    exact .inr (((chk_cov hc).along hev).ok h16)
  · exact .inl hc
theorem g65_ok {L : List (List Int)} (hs : smM L = true) (hc : chk L = 0) : g65 L = true := by
  obtain ⟨h16, -, hev⟩ := chk_zero hc
  have h := chk_cov hc
  simp only [g65, Bool.and_eq_true, List.all_eq_true, List.mem_range, decide_eq_true_eq]
  refine ⟨hs, ((h.along hev).congr (fun m hm => h.fac hev hm)).ok h16, fun k hk => ?_⟩
  rw [other_onat]
  have := onat_lt hev hk
  exact ⟨h.ptL this, within_iff.2 ⟨by omega, by omega⟩⟩
end Go.Sx.Ch
