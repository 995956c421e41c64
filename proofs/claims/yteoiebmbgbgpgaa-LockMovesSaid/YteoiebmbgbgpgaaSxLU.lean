/- What functions of the lock layer's own statements return: a pass by the greatest barge. No conditions. -/
import Derived.Test.YteoiebmbgbgpgaaSxJMItoLQ
import Derived.Test.YteoiebmbgbgpgaaSxJLAtoMH
import Derived.Test.YteoiebmbgbgpgaaSxJSttoSd
set_option linter.unusedVariables false
set_option linter.unusedSimpArgs false
set_option maxRecDepth 4000
namespace Go.Sx
end Go.Sx
namespace Go.Sx.Lk
open Go Go.Sx Go.Proofs
set_option maxHeartbeats 20000000
theorem mxR_mem : ∀ (l : List Int) (m : Int), mxR m l = m ∨ mxR m l ∈ l
  | [], m => .inl rfl
  | y :: r, m => by
    simp only [mxR]
    rcases mxR_mem r (if m < y then y else m) with h | h
    · split at h
      · exact .inr (by rw [if_pos ‹_›, h]; simp)
      · exact .inl (by rw [if_neg ‹_›, h])
    · exact .inr (by simp [h])
theorem mxL_mem {l : List Int} (h : l ≠ []) : mxL l ∈ l := by
  cases l with
  | nil => exact absurd rfl h
  | cons x r => rcases mxR_mem r x with h | h <;> simp [mxL, h]
theorem idxR_mem {x : Int} : ∀ {l : List Int} {i : Int}, x ∈ l → ∃ k : Nat, k < l.length ∧ idxR x l i = i + k ∧ l[k]? = some x
  | [], i, h => by simp at h
  | y :: r, i, h => by
    simp only [idxR]
    by_cases e : y = x
    · rw [if_pos e]; exact ⟨0, by simp, by simp, by simp [e]⟩
    · rw [if_neg e]
      obtain ⟨k, h1, h2, h3⟩ := idxR_mem (l := r) (i := i + 1) (by rcases List.mem_cons.1 h with h | h; exact absurd h.symm e; exact h)
      exact ⟨k + 1, by simp; omega, by omega, by simpa using h3⟩
theorem idxL_mem {l : List Int} {x : Int} (h : x ∈ l) : ∃ k : Nat, k < l.length ∧ idxL l x = k ∧ l[k]? = some x := by
  obtain ⟨k, h1, h2, h3⟩ := idxR_mem (i := 0) h
  exact ⟨k, h1, by simpa [idxL] using h2, h3⟩
def lpR : Nat → List Int → List Int
  | 0, _ => []
  | f + 1, l => if l = [] then [] else lpR f (l.take (idxL l (mxL l)).toNat) ++ lpR f (l.drop ((idxL l (mxL l)).toNat + 1)) ++ [mxL l]
def lpF (l : List Int) : List Int := lpR l.length l
theorem lpR_any : ∀ {n m : Nat} {l : List Int}, l.length ≤ n → l.length ≤ m → lpR n l = lpR m l
  | 0, m, l, h, _ => by
    obtain rfl : l = [] := List.length_eq_zero_iff.1 (by omega)
    cases m <;> simp [lpR]
  | n + 1, 0, l, _, h => by
    obtain rfl : l = [] := List.length_eq_zero_iff.1 (by omega)
    simp [lpR]
  | n + 1, m + 1, l, h1, h2 => by
    simp only [lpR]
    by_cases h : l = []
    · rw [if_pos h, if_pos h]
    · rw [if_neg h, if_neg h]
      obtain ⟨k, e1, e2, e3⟩ := idxL_mem (mxL_mem h)
      rw [e2, Int.toNat_natCast, lpR_any (n := n) (m := m) (by simp; omega) (by simp; omega), lpR_any (n := n) (m := m) (l := l.drop (k + 1)) (by simp; omega) (by simp; omega)]
theorem lpF_nil : lpF [] = [] := rfl
theorem lpF_step {l : List Int} {k : Nat} (h : l ≠ []) (hk : idxL l (mxL l) = k) (hl : k < l.length) : lpF l = lpF (l.take k) ++ lpF (l.drop (k + 1)) ++ [mxL l] := by
  unfold lpF
  obtain ⟨n, hn⟩ : ∃ n, l.length = n + 1 := ⟨l.length - 1, by omega⟩
  rw [hn, lpR, if_neg h, hk, Int.toNat_natCast, lpR_any (n := n) (m := (l.take k).length) (by simp; omega) (Nat.le_refl _), lpR_any (n := n) (m := (l.drop (k + 1)).length) (by simp; omega) (Nat.le_refl _)]
theorem lpF_len : ∀ (n : Nat) (l : List Int), l.length ≤ n → (lpF l).length = l.length
  | 0, l, h => by obtain rfl : l = [] := List.length_eq_zero_iff.1 (by omega); rfl
  | n + 1, l, h => by
    by_cases h0 : l = []
    · subst h0; rfl
    · obtain ⟨k, e1, e2, e3⟩ := idxL_mem (mxL_mem h0)
      rw [lpF_step h0 e2 e1]
      simp only [List.length_append, List.length_singleton]
      rw [lpF_len n _ (by simp; omega), lpF_len n _ (by simp; omega)]
      simp; omega
end Go.Sx.Lk
