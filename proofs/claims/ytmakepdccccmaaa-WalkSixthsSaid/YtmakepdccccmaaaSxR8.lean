/- Plans around their ends: plain facts. No conditions. -/
import Derived.Test.YtmakepdccccmaaaSxR4
set_option linter.unusedVariables false
set_option linter.unusedSimpArgs false
namespace Go.Sx.Wk
open Go Go.Sx Go.Proofs

/-- In so many tides anywhere a stretch is met, around the plan's end too. -/
def Cyc (s : Int) (m : Nat) (P : List Int) : Prop := ∀ f, ∃ k, k < m ∧ P[(f + k) % P.length]? = some s
theorem repl_len {P : List Int} : ∀ n, (rep n P).length = n * P.length
  | 0 => by simp [rep_zero]
  | n + 1 => by rw [rep_succ, List.length_append, repl_len n, Nat.succ_mul]
theorem rep_get {P : List Int} : ∀ {n j : Nat}, j < n * P.length → (rep n P)[j]? = P[j % P.length]?
  | 0, j, h => by omega
  | n + 1, j, h => by
    have hl := repl_len (P := P) n
    rw [rep_succ]
    rw [Nat.succ_mul] at h
    by_cases hj : j < n * P.length
    · rw [List.getElem?_append_left (by omega)]; exact rep_get hj
    · obtain ⟨q, rfl⟩ : ∃ q, j = n * P.length + q := ⟨j - n * P.length, by omega⟩
      rw [List.getElem?_append_right (by omega), hl, Nat.add_sub_cancel_left, Nat.mul_comm, Nat.mul_add_mod, Nat.mod_eq_of_lt (by omega)]
theorem wnd_iff {s : Int} {m : Nat} (hm : 1 ≤ m) : ∀ {w : List Int}, wndB s m w = true ↔ ∀ f, f + m ≤ w.length → ∃ k, k < m ∧ w[f + k]? = some s
  | [] => by
    simp only [wndB, List.length_nil, true_iff]
    intro f h; omega
  | x :: r => by
    have h0 : ((x :: r).take m).contains s = true ↔ ∃ k, k < m ∧ (x :: r)[0 + k]? = some s := by
      rw [List.contains_iff_mem, List.mem_iff_getElem?]
      constructor
      · rintro ⟨k, hk⟩
        rw [List.getElem?_take] at hk
        split at hk
        · rename_i h; exact ⟨k, h, by rw [Nat.zero_add]; exact hk⟩
        · cases hk
      · rintro ⟨k, h, hk⟩
        rw [Nat.zero_add] at hk
        exact ⟨k, by rw [List.getElem?_take, if_pos h]; exact hk⟩
    have ih := wnd_iff (s := s) hm (w := r)
    simp only [wndB, Bool.and_eq_true, Bool.or_eq_true, decide_eq_true_eq, Int.toNat_natCast, ih, h0]
    constructor
    · rintro ⟨h1, h2⟩ f hf
      rcases f with _ | f
      · rcases h1 with h1 | h1
        · simp only [List.length_cons] at hf; omega
        · exact h1
      · obtain ⟨k, hk, e⟩ := h2 f (by simp only [List.length_cons] at hf; omega)
        exact ⟨k, hk, by rw [show f + 1 + k = (f + k) + 1 by omega, List.getElem?_cons_succ]; exact e⟩
    · intro h
      refine ⟨?_, fun f hf => ?_⟩
      · by_cases hl : (r.length : Int) + 1 < m
        · exact .inl hl
        · exact .inr (h 0 (by simp only [List.length_cons]; omega))
      · obtain ⟨k, hk, e⟩ := h (f + 1) (by simp only [List.length_cons]; omega)
        exact ⟨k, hk, by rw [show f + 1 + k = (f + k) + 1 by omega, List.getElem?_cons_succ] at e; exact e⟩
theorem cyc_iff {s : Int} {m : Nat} {P : List Int} (hm : 1 ≤ m) (h8 : m ≤ 8) (hP : 0 < P.length) : wndB s m (rep 9 P) = true ↔ Cyc s m P := by
  rw [wnd_iff hm]
  have hl := repl_len (P := P) 9
  constructor
  · intro h f
    have hf := Nat.mod_lt f hP
    obtain ⟨k, hk, e⟩ := h (f % P.length) (by omega)
    rw [rep_get (by omega), Nat.mod_add_mod] at e
    exact ⟨k, hk, e⟩
  · intro h f hf
    obtain ⟨k, hk, e⟩ := h f
    exact ⟨k, hk, by rw [rep_get (by omega)]; exact e⟩
theorem turn_get {P : List Int} {k j : Nat} (hk : k ≤ P.length) (hj : j < P.length) : (P.drop k ++ P.take k)[j]? = P[(k + j) % P.length]? := by
  have hd : (P.drop k).length = P.length - k := by simp
  by_cases h : j < P.length - k
  · rw [List.getElem?_append_left (by omega), List.getElem?_drop, Nat.mod_eq_of_lt (by omega)]
  · rw [List.getElem?_append_right (by omega), hd, List.getElem?_take, if_pos (by omega)]
    congr 1
    rw [Nat.mod_eq_sub_mod (by omega), Nat.mod_eq_of_lt (by omega)]; omega
theorem cyc_turn {s : Int} {m k : Nat} {P : List Int} (hk : k ≤ P.length) (hP : 0 < P.length) : Cyc s m (P.drop k ++ P.take k) ↔ Cyc s m P := by
  have hl : (P.drop k ++ P.take k).length = P.length := by simp; omega
  have he : ∀ f i, (P.drop k ++ P.take k)[(f + i) % P.length]? = P[(k + f + i) % P.length]? := fun f i => by
    rw [turn_get hk (Nat.mod_lt _ hP), Nat.add_mod_mod, Nat.add_assoc]
  unfold Cyc
  rw [hl]
  simp only [he]
  constructor
  · intro h f
    obtain ⟨i, hi, e⟩ := h (f + (P.length - k))
    refine ⟨i, hi, ?_⟩
    rw [show k + (f + (P.length - k)) + i = f + i + P.length by omega, Nat.add_mod_right] at e
    exact e
  · intro h f; exact h (k + f)
theorem mod_back {n x y c : Nat} (hn : 0 < n) (h : x + y + 1 = c * n) : n - 1 - x % n = y % n := by
  have h1 := Nat.mod_add_div x n
  have h2 := Nat.mod_lt x hn
  have hlt : x / n < c := by
    rcases Nat.lt_or_ge (x / n) c with h3 | h3
    · exact h3
    · have := Nat.mul_le_mul_left n h3
      rw [Nat.mul_comm n c] at this
      omega
  obtain ⟨d, hd⟩ : ∃ d, c = x / n + 1 + d := ⟨c - x / n - 1, by omega⟩
  have h3 : c * n = n * (x / n) + n + n * d := by rw [hd]; rw [Nat.mul_comm, Nat.mul_add, Nat.mul_add, Nat.mul_one]
  have e : y = (n - 1 - x % n) + n * d := by omega
  rw [e, Nat.add_mul_mod_self_left, Nat.mod_eq_of_lt (show n - 1 - x % n < n by omega)]
theorem cyc_back {s : Int} {m : Nat} {P : List Int} (hP : 0 < P.length) (h : Cyc s m P) : Cyc s m P.reverse := by
  intro f
  obtain ⟨k, hk, e⟩ := h ((f + m) * (P.length - 1))
  refine ⟨m - 1 - k, by omega, ?_⟩
  rw [List.length_reverse, List.getElem?_reverse (Nat.mod_lt _ hP), ← e]
  congr 1
  refine mod_back (c := f + m) hP ?_
  obtain ⟨n, hn⟩ : ∃ n, P.length = n + 1 := ⟨P.length - 1, by omega⟩
  rw [hn, Nat.mul_succ]
  have : n + 1 - 1 = n := by omega
  rw [this]
  omega
theorem cyc_rev {s : Int} {m : Nat} {P : List Int} (hP : 0 < P.length) : Cyc s m P.reverse ↔ Cyc s m P := by
  constructor
  · intro h
    have := cyc_back (by simpa using hP) h
    rwa [List.reverse_reverse] at this
  · exact cyc_back hP
theorem Cyc.more {s : Int} {m m' : Nat} {P : List Int} (h : Cyc s m P) (hm : m ≤ m') : Cyc s m' P := fun f => by
  obtain ⟨k, hk, e⟩ := h f
  exact ⟨k, by omega, e⟩

/-- A plan meets all. -/
def MeetsP (T P : List Int) : Prop := ∀ (j : Nat) y, T[j]? = some y → Cyc j y.toNat P
theorem wlk_iff {w : List Int} : ∀ {T : List Int} {i : Nat}, wlkL w i T = true ↔ ∀ (j : Nat) y, T[j]? = some y → wndB ((i + j : Nat) : Int) y w = true
  | [], i => by simp [wlkL]
  | m :: r, i => by
    have ih := wlk_iff (w := w) (T := r) (i := i + 1)
    simp only [wlkL, Bool.and_eq_true, ih]
    constructor
    · rintro ⟨h1, h2⟩ j y hj
      rcases j with _ | j
      · simp only [List.getElem?_cons_zero, Option.some.injEq] at hj; subst hj; exact h1
      · rw [List.getElem?_cons_succ] at hj
        rw [show i + (j + 1) = i + 1 + j by omega]; exact h2 j y hj
    · intro h
      refine ⟨h 0 m rfl, fun j y hj => ?_⟩
      rw [show i + 1 + j = i + (j + 1) by omega]
      exact h (j + 1) y (by rw [List.getElem?_cons_succ]; exact hj)
theorem meets_iff {T P : List Int} (hT : ∀ y ∈ T, 1 ≤ y ∧ y ≤ 8) (hP : 0 < P.length) : goodL (rep 9 P) 0 T = true ↔ MeetsP T P := by
  rw [← wlk_good fun y hy => (hT y hy).1, wlk_iff]
  have : ∀ (j : Nat) y, T[j]? = some y → (wndB ((0 + j : Nat) : Int) y (rep 9 P) = true ↔ Cyc j y.toNat P) := fun j y hj => by
    have hb := hT y (List.mem_of_getElem? hj)
    obtain ⟨m, rfl⟩ := Int.eq_ofNat_of_zero_le (show 0 ≤ y by omega)
    rw [Nat.zero_add, cyc_iff (by omega) (by omega) hP]; rfl
  constructor
  · intro h j y hj; exact (this j y hj).1 (h j y hj)
  · intro h j y hj; exact (this j y hj).2 (h j y hj)
theorem meets_turn {T P : List Int} {k : Nat} (hk : k ≤ P.length) (hP : 0 < P.length) : MeetsP T (P.drop k ++ P.take k) ↔ MeetsP T P := by
  unfold MeetsP; simp only [cyc_turn hk hP]
theorem meets_rev {T P : List Int} (hP : 0 < P.length) : MeetsP T P.reverse ↔ MeetsP T P := by
  unfold MeetsP; simp only [cyc_rev hP]
theorem meets_more {T P : List Int} {i : Nat} {x : Int} (hi : T[i]? = some x) (hx : 0 ≤ x) (h : MeetsP T P) : MeetsP (T.set i (x + 1)) P := fun j y hj => by
  rw [List.getElem?_set] at hj
  split at hj
  · rename_i e
    subst e
    split at hj
    · simp only [Option.some.injEq] at hj
      subst hj
      exact (h i x hi).more (by omega)
    · cases hj
  · exact h j y hj

/-- What the law looks at. -/
def fndR (P : List Int) (s : Int) (f : Nat) : Nat → Nat → Bool
  | _, 0 => false
  | k, r + 1 => (P[(f + k) % P.length]? == some s) || fndR P s f (k + 1) r
def metR (P : List Int) (s : Int) (m : Nat) : Nat → Nat → Bool
  | _, 0 => true
  | f, r + 1 => fndR P s f 0 m && metR P s m (f + 1) r
def metL (P : List Int) : Nat → List Int → Bool
  | _, [] => true
  | i, m :: r => metR P i m.toNat 0 P.length && metL P (i + 1) r
theorem fnd_iff {P : List Int} {s : Int} {f : Nat} : ∀ {r k : Nat}, fndR P s f k r = true ↔ ∃ i, i < r ∧ P[(f + (k + i)) % P.length]? = some s
  | 0, k => by simp [fndR]
  | r + 1, k => by
    have ih := fnd_iff (P := P) (s := s) (f := f) (r := r) (k := k + 1)
    simp only [fndR, Bool.or_eq_true, ih, beq_iff_eq]
    constructor
    · rintro (h | ⟨i, hi, e⟩)
      · exact ⟨0, by omega, h⟩
      · exact ⟨i + 1, by omega, by rw [show k + (i + 1) = k + 1 + i by omega]; exact e⟩
    · rintro ⟨i, hi, e⟩
      rcases i with _ | i
      · exact .inl e
      · exact .inr ⟨i, by omega, by rw [show k + 1 + i = k + (i + 1) by omega]; exact e⟩
theorem metR_iff {P : List Int} {s : Int} {m : Nat} : ∀ {r f : Nat}, metR P s m f r = true ↔ ∀ i, i < r → fndR P s (f + i) 0 m = true
  | 0, f => by simp [metR]
  | r + 1, f => by
    have ih := metR_iff (P := P) (s := s) (m := m) (r := r) (f := f + 1)
    simp only [metR, Bool.and_eq_true, ih]
    constructor
    · rintro ⟨h1, h2⟩ i hi
      rcases i with _ | i
      · exact h1
      · rw [show f + (i + 1) = f + 1 + i by omega]; exact h2 i (by omega)
    · intro h
      exact ⟨h 0 (by omega), fun i hi => by rw [show f + 1 + i = f + (i + 1) by omega]; exact h (i + 1) (by omega)⟩
theorem metR_cyc {P : List Int} {s : Int} {m : Nat} (hP : 0 < P.length) : metR P s m 0 P.length = true ↔ Cyc s m P := by
  rw [metR_iff]
  simp only [fnd_iff, Nat.zero_add]
  constructor
  · intro h f
    obtain ⟨k, hk, e⟩ := h (f % P.length) (Nat.mod_lt _ hP)
    rw [Nat.mod_add_mod] at e
    exact ⟨k, hk, e⟩
  · intro h f _; exact h f
theorem metL_iff {P : List Int} (hP : 0 < P.length) : ∀ {T : List Int} {i : Nat}, metL P i T = true ↔ ∀ (j : Nat) y, T[j]? = some y → Cyc ((i + j : Nat) : Int) y.toNat P
  | [], i => by simp [metL]
  | m :: r, i => by
    have ih := metL_iff hP (T := r) (i := i + 1)
    simp only [metL, Bool.and_eq_true, ih, metR_cyc hP]
    constructor
    · rintro ⟨h1, h2⟩ j y hj
      rcases j with _ | j
      · simp only [List.getElem?_cons_zero, Option.some.injEq] at hj; subst hj; exact h1
      · rw [List.getElem?_cons_succ] at hj
        rw [show i + (j + 1) = i + 1 + j by omega]; exact h2 j y hj
    · intro h
      refine ⟨h 0 m rfl, fun j y hj => ?_⟩
      rw [show i + 1 + j = i + (j + 1) by omega]
      exact h (j + 1) y (by rw [List.getElem?_cons_succ]; exact hj)
theorem metL_meets {T P : List Int} (hP : 0 < P.length) : metL P 0 T = true ↔ MeetsP T P := by
  rw [metL_iff hP]; simp only [Nat.zero_add]; rfl
end Go.Sx.Wk
