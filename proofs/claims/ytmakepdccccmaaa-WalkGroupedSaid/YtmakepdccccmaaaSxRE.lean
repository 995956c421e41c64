/- All lists of inspectors, as the law tries them: plain facts. No conditions. -/
import Derived.Test.YtmakepdccccmaaaSxJO1toO2
set_option linter.unusedVariables false
set_option linter.unusedSimpArgs false
namespace Go.Sx.Wk
open Go Go.Sx Go.Proofs

/-- The first of the least, from a bound on: whether one was found, and the bound. -/
def bstO (F : List Int → Bool) (M : List Int → Int) : List (List Int) → Int → Option (List Int) × Int
  | [], fw => (none, fw)
  | d :: ds, fw => if (F d && decide (M d < fw)) = true then ((bstO F M ds (M d)).1.or (some d), (bstO F M ds (M d)).2) else bstO F M ds fw
theorem bstO_app {F : List Int → Bool} {M : List Int → Int} {E : List (List Int)} : ∀ {D : List (List Int)} {fw : Int}, bstO F M (D ++ E) fw = ((bstO F M E (bstO F M D fw).2).1.or (bstO F M D fw).1, (bstO F M E (bstO F M D fw).2).2)
  | [], fw => by simp [bstO]
  | d :: ds, fw => by
    simp only [List.cons_append, bstO]
    split
    · rw [bstO_app]; simp [Option.or_assoc]
    · exact bstO_app
theorem bstG_O {F : List Int → Bool} {M : List Int → Int} : ∀ {D : List (List Int)} {b : List Int} {fw : Int}, bstG F M D (b, fw) = ((bstO F M D fw).1.getD b, (bstO F M D fw).2)
  | [], b, fw => rfl
  | d :: ds, b, fw => by
    simp only [bstG, bstO]
    split
    · rw [bstG_O]
      cases (bstO F M ds (M d)).1 <;> rfl
    · exact bstG_O
theorem bstO_cong {F F' : List Int → Bool} {M : List Int → Int} : ∀ {D : List (List Int)} {fw : Int}, (∀ d ∈ D, F d = F' d) → bstO F M D fw = bstO F' M D fw
  | [], fw, _ => rfl
  | d :: ds, fw, h => by
    simp only [bstO, h d (by simp), bstO_cong (D := ds) fun e he => h e (by simp [he])]
theorem bstO_init {F : List Int → Bool} {M : List Int → Int} {a b : Int} : ∀ {D : List (List Int)}, (∀ d ∈ D, M d < a ∧ M d < b) → (bstO F M D a).1 = (bstO F M D b).1
  | [], _ => rfl
  | d :: ds, h => by
    have h1 := h d (by simp)
    simp only [bstO, h1, decide_true, Bool.and_true]
    split
    · rfl
    · exact bstO_init fun e he => h e (by simp [he])
/-- The law's test of a list. -/
def goodF (t d : List Int) : Bool := (gs (nextL d).toNat).all fun g => canB (grpL d t g)
theorem divs_hit : ∀ n ∈ [1, 2, 3, 4], ∀ d ∈ divs n [], ∀ g ∈ gs n, (d.contains g = decide (g < nextL d)) := by decide +kernel
theorem good_fit {t d : List Int} (hne : t ≠ []) (h4 : t.length ≤ 4) (hd : d ∈ divs t.length []) : goodF t d = fit canB t d := by
  have hn := n14 hne h4
  obtain ⟨d1, -, -⟩ := divs_ok t.length hn
  obtain ⟨-, q1, q2, q3⟩ := d1 d hd
  have hh := divs_hit t.length hn d hd
  rw [Bool.eq_iff_iff, fit_iff]
  simp only [goodF, List.all_eq_true, gs_mem]
  constructor
  · intro h g h0 h1
    by_cases hg : g < nextL d
    · exact .inr (h g ⟨h0, by omega⟩)
    · left
      have e := hh g (gs_mem.2 ⟨h0, h1⟩)
      apply Classical.byContradiction
      intro hx
      rw [(own_ne q3).1 hx] at e
      simp [hg] at e
  · intro h g ⟨h0, h1⟩
    have e := hh g (gs_mem.2 ⟨h0, by omega⟩)
    rw [decide_eq_true (show g < nextL d by omega)] at e
    rcases h g h0 (by omega) with h2 | h2
    · exact absurd h2 ((own_ne q3).2 e)
    · exact h2
theorem best_law {t : List Int} (ht : ok8 t = true) (h4 : t.length ≤ 4) (hne : t ≠ []) : (bstO (goodF t) nextL (divs t.length []) 9).1 = some (best t).1 := by
  obtain ⟨m, h1, h2, h3, -⟩ := best_put ht h4 hne
  obtain ⟨d1, d2, d3⟩ := divs_ok t.length (n14 hne h4)
  have hb : best t = bstG (fit canB t) nextL (divs t.length []) ([], (t.length : Int) + 1) := bst_G fun d hd => ⟨(d1 d hd).1, (d1 d hd).2.2.2⟩
  rw [bstG_O] at hb
  rw [bstO_cong (F' := fit canB t) fun d hd => good_fit hne h4 hd]
  rw [bstO_init (b := (t.length : Int) + 1) fun d hd => by have := d1 d hd; omega]
  cases ho : (bstO (fit canB t) nextL (divs t.length []) ((t.length : Int) + 1)).1 with
  | some L => rw [ho] at hb; rw [hb]; rfl
  | none =>
    exfalso
    have key : ∀ {D : List (List Int)} {fw : Int}, (bstO (fit canB t) nextL D fw).1 = none → (bstO (fit canB t) nextL D fw).2 = fw := by
      intro D
      induction D with
      | nil => intro fw _; rfl
      | cons d ds ih =>
        intro fw h
        simp only [bstO] at h ⊢
        split
        · rename_i hc; rw [if_pos hc] at h; simp at h
        · rename_i hc; rw [if_neg hc] at h; exact ih h
    have := key ho
    have h5 := congrArg Prod.snd hb
    simp only at h5
    rw [this] at h5
    omega

/-- The stretches of one inspector, as bits. -/
def setF (g : Int) : List Int → Nat → Nat → Nat
  | [], _, a => a
  | x :: r, i, a => setF g r (i + 1) (if x = g then a ||| 2 ^ i else a)
def ownS (set : Nat) : List Int → Nat → List Int
  | [], _ => []
  | x :: r, i => if set / 2 ^ i % 2 = 1 then x :: ownS set r (i + 1) else ownS set r (i + 1)
theorem own_set {g : Int} : ∀ {l t : List Int}, l.length = t.length → t.length ≤ 4 → ownS (setF g l 0 0) t 0 = grpL l t g
  | [], [], _, _ => rfl
  | [a], [x], _, _ => by
    by_cases ha : a = g <;> simp [setF, ownS, grpL, ha]
  | [a, b], [x, y], _, _ => by
    by_cases ha : a = g <;> by_cases hb : b = g <;> simp [setF, ownS, grpL, ha, hb]
  | [a, b, c], [x, y, z], _, _ => by
    by_cases ha : a = g <;> by_cases hb : b = g <;> by_cases hc : c = g <;> simp [setF, ownS, grpL, ha, hb, hc]
  | [a, b, c, d], [x, y, z, w], _, _ => by
    by_cases ha : a = g <;> by_cases hb : b = g <;> by_cases hc : c = g <;> by_cases hd : d = g <;> simp [setF, ownS, grpL, ha, hb, hc, hd]
  | _ :: _ :: _ :: _ :: _ :: _, _ :: _ :: _ :: _ :: _ :: _, _, h => by simp at h
theorem setF_lt {g : Int} : ∀ {l : List Int} {i a : Nat}, a < 2 ^ i → setF g l i a < 2 ^ (i + l.length)
  | [], i, a, h => by simpa [setF] using h
  | x :: r, i, a, h => by
    have h2 : a < 2 ^ (i + 1) := Nat.lt_of_lt_of_le h (Nat.pow_le_pow_right (by omega) (by omega))
    have : (if x = g then a ||| 2 ^ i else a) < 2 ^ (i + 1) := by
      split
      · exact Nat.or_lt_two_pow h2 (Nat.pow_lt_pow_right (by omega) (by omega))
      · exact h2
    have := setF_lt (g := g) (l := r) this
    simp only [setF, List.length_cons]
    rw [show i + (r.length + 1) = i + 1 + r.length by omega]; exact this
theorem ownS_mem {set : Nat} {y : Int} : ∀ {t : List Int} {i : Nat}, y ∈ ownS set t i → y ∈ t
  | [], i, h => by simp [ownS] at h
  | x :: r, i, h => by
    simp only [ownS] at h
    split at h
    · rw [List.mem_cons] at h
      rcases h with rfl | h
      · simp
      · simp [ownS_mem h]
    · simp [ownS_mem h]
theorem ownS_len {set : Nat} : ∀ {t : List Int} {i : Nat}, (ownS set t i).length ≤ t.length
  | [], i => by simp [ownS]
  | x :: r, i => by
    have := ownS_len (set := set) (t := r) (i := i + 1)
    simp only [ownS]
    split <;> simp <;> omega
theorem ownS_ne : ∀ {t : List Int} {set : Nat}, t.length ≤ 4 → 0 < set → set < 2 ^ t.length → ownS set t 0 ≠ []
  | [], set, _, h0, h1 => by simp at h1; omega
  | [x], set, _, h0, h1 => by
    have : set = 1 := by simp at h1; omega
    subst this; simp [ownS]
  | [x, y], set, _, h0, h1 => by
    have : set = 1 ∨ set = 2 ∨ set = 3 := by simp at h1; omega
    rcases this with rfl | rfl | rfl <;> simp [ownS]
  | [x, y, z], set, _, h0, h1 => by
    have : set = 1 ∨ set = 2 ∨ set = 3 ∨ set = 4 ∨ set = 5 ∨ set = 6 ∨ set = 7 := by simp at h1; omega
    rcases this with rfl | rfl | rfl | rfl | rfl | rfl | rfl <;> simp [ownS]
  | [x, y, z, w], set, _, h0, h1 => by
    have : set = 1 ∨ set = 2 ∨ set = 3 ∨ set = 4 ∨ set = 5 ∨ set = 6 ∨ set = 7 ∨ set = 8 ∨ set = 9 ∨ set = 10 ∨ set = 11 ∨ set = 12 ∨ set = 13 ∨ set = 14 ∨ set = 15 := by simp at h1; omega
    rcases this with rfl | rfl | rfl | rfl | rfl | rfl | rfl | rfl | rfl | rfl | rfl | rfl | rfl | rfl | rfl <;> simp [ownS]
  | _ :: _ :: _ :: _ :: _ :: _, set, h, _, _ => by simp at h
/-- Which sets can be walked for ever, of those below a number. -/
def evL (t : List Int) (k : Nat) : List Bool := (List.range (2 ^ t.length)).map fun j => decide (j < k) && (decide (0 < j) && canB (ownS j t 0))
theorem evL_len (t : List Int) (k : Nat) : (evL t k).length = 2 ^ t.length := by simp [evL]
theorem evL_one (t : List Int) : evL t 1 = List.replicate (2 ^ t.length) false := by
  refine List.ext_getElem? fun i => ?_
  by_cases h : i < 2 ^ t.length
  · simp only [evL, List.getElem?_map, List.getElem?_range h, Option.map_some, List.getElem?_replicate, h, if_true]
    congr 1
    by_cases h0 : i = 0
    · subst h0; simp
    · have : ¬ i < 1 := by omega
      simp [this]
  · rw [List.getElem?_eq_none (by rw [evL_len]; omega), List.getElem?_eq_none (by simp; omega)]
theorem evL_set {t : List Int} {k : Nat} (h0 : 0 < k) (h1 : k < 2 ^ t.length) : (evL t k).set k (canB (ownS k t 0)) = evL t (k + 1) := by
  refine List.ext_getElem? fun i => ?_
  by_cases h : i < 2 ^ t.length
  · by_cases hi : k = i
    · subst hi
      rw [List.getElem?_set_self (by rw [evL_len]; exact h)]
      simp [evL, h, h0]
    · rw [List.getElem?_set_ne hi]
      simp only [evL, List.getElem?_map, List.getElem?_range h, Option.map_some]
      congr 2
      rw [Bool.eq_iff_iff]; simp; omega
  · rw [List.getElem?_eq_none (by simp [evL_len]; omega), List.getElem?_eq_none (by rw [evL_len]; omega)]
theorem evL_get {t : List Int} {j : Nat} (h0 : 0 < j) (h : j < 2 ^ t.length) : (evL t (2 ^ t.length))[j]? = some (canB (ownS j t 0)) := by
  simp [evL, h, h0]
end Go.Sx.Wk
