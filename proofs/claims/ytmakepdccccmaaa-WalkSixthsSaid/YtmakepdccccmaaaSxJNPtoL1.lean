/- The loop of the specification: plain facts. No conditions. -/
import Derived.Test.YtmakepdccccmaaaSxJN1toN2
set_option linter.unusedVariables false
set_option linter.unusedSimpArgs false
namespace Go.Sx.Wk
open Go Go.Sx Go.Proofs

def posL (q : List Int) : List (List Int) → Nat → Option Nat
  | [], _ => none
  | x :: r, i => if x = q then some i else posL q r (i + 1)
theorem posL_none {q : List Int} : ∀ {L : List (List Int)} {i : Nat}, posL q L i = none → q ∉ L
  | [], i, _ => by simp
  | x :: r, i, h => by
    simp only [posL] at h
    by_cases hx : x = q
    · rw [if_pos hx] at h; cases h
    · rw [if_neg hx] at h
      simp only [List.mem_cons, not_or]
      exact ⟨fun e => hx e.symm, posL_none h⟩
theorem posL_lt {q : List Int} : ∀ {L : List (List Int)} {i k : Nat}, posL q L i = some k → k < i + L.length
  | [], i, k, h => by simp [posL] at h
  | x :: r, i, k, h => by
    simp only [posL] at h
    simp only [List.length_cons]
    by_cases hx : x = q
    · rw [if_pos hx] at h; cases h; omega
    · rw [if_neg hx] at h
      have := posL_lt h; omega
/-- The first walk till it comes to where it was. -/
def lpB (t : List Int) : Nat → List Int → List (List Int) → List Int → Option (List Int × List Int)
  | 0, _, _, _ => none
  | f + 1, out, ls, l => match stpB (everB t) t l t.length with
    | none => none
    | some (s, q) => match posL q (ls ++ [l]) 0 with
      | some k => some ((out ++ [(s : Int)]).take k, (out ++ [(s : Int)]).drop k)
      | none => lpB t f (out ++ [(s : Int)]) (ls ++ [l]) q
def unl (t : List Int) (ls : List (List Int)) : Nat := (stL t).countP fun x => decide (x ∉ ls)
theorem unl_lt {t l : List Int} {ls : List (List Int)} (hl : l ∈ stL t) (h : l ∉ ls) : unl t (ls ++ [l]) < unl t ls := by
  refine countP_lt (a := l) (fun x _ hx => ?_) hl (by simpa using h) (by simp)
  simp only [decide_eq_true_eq, List.mem_append, not_or] at hx ⊢
  exact hx.1
theorem lp_some {t : List Int} (ht : ok8 t = true) (h4 : t.length ≤ 4) (hc : canB t = true) : ∀ (f : Nat) (out : List Int) (ls : List (List Int)) (l : List Int), val t l → Ever t l → l ∉ ls → unl t ls < f → ∃ a b, lpB t f out ls l = some (a, b)
  | 0, out, ls, l, _, _, _, h => by omega
  | f + 1, out, ls, l, hv, he, hn, h => by
    obtain ⟨s, q, e1, e2, e3, e4, e5⟩ := stpB_ever ht h4 hc hv he
    simp only [lpB, e1]
    cases hp : posL q (ls ++ [l]) 0 with
    | some k => exact ⟨_, _, rfl⟩
    | none =>
      have := unl_lt (mem_st hv) hn
      exact lp_some ht h4 hc f _ _ q e4 e5 (posL_none hp) (by omega)
theorem lp_top {t : List Int} (ht : ok8 t = true) (h4 : t.length ≤ 4) (hc : canB t = true) : ∃ a b, lpB t 5000 [] [] t = some (a, b) := by
  refine lp_some ht h4 hc 5000 [] [] t (val_self (ok8_iff.1 ht)) ((canB_iff ht h4).1 hc) (by simp) ?_
  have := stL_len ht h4
  have := List.countP_le_length (p := fun x => decide (x ∉ ([] : List (List Int)))) (l := stL t)
  unfold unl; omega
theorem idx_inj {t a b : List Int} (ha : val t a) (hb : val t b) (h : idxL t a 0 = idxL t b 0) : a = b := by
  obtain ⟨i, i1, i2⟩ := idx_get ha
  obtain ⟨j, j1, j2⟩ := idx_get hb
  have : i = j := by omega
  subst this
  rw [i2] at j2; cases j2; rfl
end Go.Sx.Wk
namespace Go.Sx.Wk
open Go Go.Sx Go.Proofs

theorem posL_get {q : List Int} : ∀ {L : List (List Int)} {i k : Nat}, posL q L i = some k → i ≤ k ∧ L[k - i]? = some q
  | [], i, k, h => by simp [posL] at h
  | x :: r, i, k, h => by
    simp only [posL] at h
    by_cases hx : x = q
    · rw [if_pos hx] at h; cases h; simp [hx]
    · rw [if_neg hx] at h
      obtain ⟨h1, h2⟩ := posL_get h
      refine ⟨by omega, ?_⟩
      rw [show k - i = (k - (i + 1)) + 1 by omega, List.getElem?_cons_succ]; exact h2
/-- What is left after each stretch that can be met: their numbers; new ones get the next number. -/
def addR (t l : List Int) : Nat → List (List Int) → List Int → List (List Int) × List Int
  | 0, all, own => (all, own)
  | r + 1, all, own => match aftG ((t.length - (r + 1) : Nat) : Int) t l 0 with
    | none => addR t l r all own
    | some q => match posL q all 0 with
      | some k => addR t l r all (own ++ [(k : Int)])
      | none => addR t l r (all ++ [q]) (own ++ [(all.length : Int)])
/-- All that can be left, and what comes behind each. -/
def bfsR (t : List Int) : Nat → Nat → List (List Int) → List (List Int) → List (List Int) × List (List Int)
  | 0, _, all, beh => (all, beh)
  | f + 1, at', all, beh => match all[at']? with
    | none => (all, beh)
    | some l => bfsR t f (at' + 1) (addR t l t.length all []).1 (beh ++ [(addR t l t.length all []).2])
/-- What is known of numbers of what comes behind. -/
def Beh (t : List Int) (all : List (List Int)) (l : List Int) (own : List Int) (ss : Nat) : Prop :=
  (∀ j ∈ own, ∃ n : Nat, j = n ∧ ∃ q s, s < ss ∧ all[n]? = some q ∧ aftG (s : Nat) t l 0 = some q) ∧ ∀ s q, s < ss → aftG (s : Nat) t l 0 = some q → ∃ n : Nat, (n : Int) ∈ own ∧ all[n]? = some q
structure AInv (t : List Int) (all : List (List Int)) : Prop where
  vs : ∀ x ∈ all, val t x
  fst : all[0]? = some t
  cnt : all.length + unl t all ≤ (stL t).length
theorem AInv.app {t : List Int} {all : List (List Int)} {q : List Int} (h : AInv t all) (hq : val t q) (hn : q ∉ all) : AInv t (all ++ [q]) := by
  refine ⟨fun x hx => ?_, ?_, ?_⟩
  · rw [List.mem_append] at hx
    rcases hx with hx | hx
    · exact h.vs x hx
    · simp at hx; subst hx; exact hq
  · have := (List.getElem?_eq_some_iff.1 h.fst).1
    rw [List.getElem?_append_left this]; exact h.fst
  · have := unl_lt (mem_st hq) hn
    have := h.cnt
    simp only [List.length_append, List.length_cons, List.length_nil]; omega
theorem addR_ok {t l : List Int} (h1 : ∀ y ∈ t, 1 ≤ y) (hv : val t l) : ∀ (r : Nat) {all : List (List Int)} {own : List Int}, r ≤ t.length → AInv t all → Beh t all l own (t.length - r) →
    AInv t (addR t l r all own).1 ∧ Beh t (addR t l r all own).1 l (addR t l r all own).2 t.length ∧ ∃ k, (addR t l r all own).1 = all ++ k
  | 0, all, own, hr, hI, hB => ⟨hI, hB, [], by simp [addR]⟩
  | r + 1, all, own, hr, hI, hB => by
    have hi : t.length - r = (t.length - (r + 1)) + 1 := by omega
    have hi2 : t.length - (r + 1) < t.length := by omega
    simp only [addR]
    generalize t.length - (r + 1) = i at *
    cases ha : aftG ((i : Nat) : Int) t l 0 with
    | none =>
      simp only
      refine addR_ok h1 hv r (by omega) hI ?_
      rw [hi]
      refine ⟨fun j hj => ?_, fun s q hs hq => ?_⟩
      · obtain ⟨n, e, q, s, a, b, c⟩ := hB.1 j hj
        exact ⟨n, e, q, s, by omega, b, c⟩
      · by_cases e : s = i
        · subst e; rw [ha] at hq; cases hq
        · exact hB.2 s q (by omega) hq
    | some q =>
      have hvq := aft_val hv h1 ha
      simp only
      cases hp : posL q all 0 with
      | some k =>
        simp only
        have hk := (posL_get hp).2
        rw [Nat.sub_zero] at hk
        refine addR_ok h1 hv r (by omega) hI ?_
        rw [hi]
        refine ⟨fun j hj => ?_, fun s q' hs hq => ?_⟩
        · rw [List.mem_append] at hj
          rcases hj with hj | hj
          · obtain ⟨n, e, q', s, a, b, c⟩ := hB.1 j hj
            exact ⟨n, e, q', s, by omega, b, c⟩
          · simp at hj; subst hj
            exact ⟨k, rfl, q, i, by omega, hk, ha⟩
        · by_cases e : s = i
          · subst e; rw [ha] at hq; cases hq
            exact ⟨k, by simp, hk⟩
          · obtain ⟨n, a, b⟩ := hB.2 s q' (by omega) hq
            exact ⟨n, by simp [a], b⟩
      | none =>
        simp only
        have hn := posL_none hp
        have hget : (all ++ [q])[all.length]? = some q := by rw [List.getElem?_append_right (Nat.le_refl _)]; simp
        have hold : ∀ {n : Nat} {x : List Int}, all[n]? = some x → (all ++ [q])[n]? = some x := fun h => by
          rw [List.getElem?_append_left (List.getElem?_eq_some_iff.1 h).1]; exact h
        obtain ⟨a1, a2, k, a3⟩ := addR_ok h1 hv r (all := all ++ [q]) (own := own ++ [(all.length : Int)]) (by omega) (hI.app hvq hn) (by
          rw [hi]
          refine ⟨fun j hj => ?_, fun s q' hs hq => ?_⟩
          · rw [List.mem_append] at hj
            rcases hj with hj | hj
            · obtain ⟨n, e, q', s, a, b, c⟩ := hB.1 j hj
              exact ⟨n, e, q', s, by omega, hold b, c⟩
            · simp at hj; subst hj
              exact ⟨all.length, rfl, q, i, by omega, hget, ha⟩
          · by_cases e : s = i
            · subst e; rw [ha] at hq; cases hq
              exact ⟨all.length, by simp, hget⟩
            · obtain ⟨n, a, b⟩ := hB.2 s q' (by omega) hq
              exact ⟨n, by simp [a], hold b⟩)
        exact ⟨a1, a2, q :: k, by rw [a3]; simp⟩
/-- All of it is right. -/
structure BInv (t : List Int) (all beh : List (List Int)) : Prop where
  ai : AInv t all
  bl : beh.length ≤ all.length
  bh : ∀ (i : Nat) l own, all[i]? = some l → beh[i]? = some own → Beh t all l own t.length
theorem Beh.app {t : List Int} {all k : List (List Int)} {l own : List Int} {ss : Nat} (h : Beh t all l own ss) : Beh t (all ++ k) l own ss := by
  have hold : ∀ {n : Nat} {x : List Int}, all[n]? = some x → (all ++ k)[n]? = some x := fun h => by
    rw [List.getElem?_append_left (List.getElem?_eq_some_iff.1 h).1]; exact h
  exact ⟨fun j hj => (by obtain ⟨n, e, q, s, a, b, c⟩ := h.1 j hj; exact ⟨n, e, q, s, a, hold b, c⟩), fun s q hs hq => (by obtain ⟨n, a, b⟩ := h.2 s q hs hq; exact ⟨n, a, hold b⟩)⟩
theorem BInv.step {t : List Int} (h1 : ∀ y ∈ t, 1 ≤ y) {all beh : List (List Int)} {l : List Int} (h : BInv t all beh) (hl : all[beh.length]? = some l) :
    BInv t (addR t l t.length all []).1 (beh ++ [(addR t l t.length all []).2]) := by
  have hlt := (List.getElem?_eq_some_iff.1 hl).1
  have hv := h.ai.vs l (List.mem_of_getElem? hl)
  obtain ⟨a1, a2, k, a3⟩ := addR_ok h1 hv t.length (all := all) (own := []) (Nat.le_refl _) h.ai ⟨fun j hj => by simp at hj, fun s q hs => by omega⟩
  refine ⟨a1, ?_, fun i x own hx ho => ?_⟩
  · rw [a3]; simp; omega
  · rw [a3] at hx ⊢
    rcases Nat.lt_trichotomy i beh.length with hi | hi | hi
    · rw [List.getElem?_append_left hi] at ho
      rw [List.getElem?_append_left (by omega)] at hx
      exact (h.bh i x own hx ho).app
    · subst hi
      rw [List.getElem?_append_right (Nat.le_refl _)] at ho
      simp at ho
      subst ho
      rw [List.getElem?_append_left hlt, hl] at hx
      cases hx
      rw [← a3]; exact a2
    · rw [List.getElem?_eq_none (by simp; omega)] at ho; cases ho

/-! ### Tide by tide -/
def goneL (t : List Int) (all : List (List Int)) (k : Nat) : List Bool := all.map fun x => !canK t k x
/-- From what is gone to what goes next. -/
theorem gone_next {t : List Int} {all beh : List (List Int)} (h : BInv t all beh) (hlen : beh.length = all.length) {k i : Nat} {l own : List Int} (hl : all[i]? = some l) (ho : beh[i]? = some own) :
    (!(own.any fun j => !(((goneL t all k)[j.toNat]?).getD true))) = !canK t (k + 1) l := by
  have hB := h.bh i l own hl ho
  congr 1
  rw [Bool.eq_iff_iff, List.any_eq_true, canK_succ]
  constructor
  · rintro ⟨j, hj, hg⟩
    obtain ⟨n, rfl, q, s, hs, hq, ha⟩ := hB.1 j hj
    refine ⟨s, hs, q, ha, ?_⟩
    simpa [goneL, hq] using hg
  · rintro ⟨s, hs, q, ha, hq⟩
    obtain ⟨n, hn, hg⟩ := hB.2 s q hs ha
    refine ⟨n, hn, ?_⟩
    simp [goneL, hg, hq]
theorem ever_stable {t : List Int} {all beh : List (List Int)} (h : BInv t all beh) (hlen : beh.length = all.length) {k : Nat} (hs : goneL t all (k + 1) = goneL t all k) : ∀ (j : Nat) (x : List Int), x ∈ all → canK t k x = true → canK t (k + j) x = true
  | 0, x, _, hx => hx
  | j + 1, x, hx, hc => by
    obtain ⟨i, hi, hix⟩ := List.mem_iff_getElem.1 hx
    have hxi : all[i]? = some x := by rw [List.getElem?_eq_getElem hi, hix]
    have hc' : canK t (k + 1) x = true := by
      have e : (goneL t all (k + 1))[i]? = (goneL t all k)[i]? := by rw [hs]
      simp only [goneL, List.getElem?_map, hxi, Option.map_some, Option.some.injEq] at e
      cases h2 : canK t (k + 1) x with
      | true => rfl
      | false => rw [h2, hc] at e; cases e
    obtain ⟨s, h1, l, hl, h2⟩ := canK_succ.1 hc'
    have hbl : i < beh.length := by omega
    obtain ⟨n, -, hn⟩ := (h.bh i x beh[i] hxi (List.getElem?_eq_getElem hbl)).2 s l h1 hl
    exact canK_succ.2 ⟨s, h1, l, hl, ever_stable h hlen hs j l (List.mem_of_getElem? hn) h2⟩
/-- How the search ends. -/
theorem lng_end {t : List Int} (ht : ok8 t = true) (h4 : t.length ≤ 4) {all beh : List (List Int)} (h : BInv t all beh) (hlen : beh.length = all.length) {k : Nat} (hk : canK t k t = true) :
    (canK t (k + 1) t = false → (aliveF t).2 = k) ∧ (goneL t all (k + 1) = goneL t all k → (aliveF t).2 = -1) := by
  constructor
  · intro hf
    rcases aliveF_spec ht h4 with ⟨h1, -, -⟩ | ⟨n, h1, h2⟩
    · rw [h1 (k + 1)] at hf; cases hf
    · rw [h1, long_uniq h2 ⟨hk, hf⟩]
  · intro hs
    have hev : Ever t t := fun j => by
      rcases Nat.le_total j k with hjk | hjk
      · exact canK_le hjk hk
      · have := ever_stable h hlen hs (j - k) t (List.mem_of_getElem? h.ai.fst) hk
        rwa [show k + (j - k) = j by omega] at this
    rcases aliveF_spec ht h4 with ⟨-, h2, -⟩ | ⟨n, -, h2⟩
    · exact h2
    · have := hev (n + 1); rw [h2.2] at this; cases this
end Go.Sx.Wk
