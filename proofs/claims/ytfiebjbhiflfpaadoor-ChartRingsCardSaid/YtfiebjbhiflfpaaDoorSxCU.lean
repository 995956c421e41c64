/- What functions of the chart layer's document return: faces. No conditions. -/
import Derived.Test.YtfiebjbhiflfpaaDoorSxCT
import Derived.Test.YtfiebjbhiflfpaaDoorSxJCAtoCD
set_option linter.unusedVariables false
set_option linter.unusedSimpArgs false
set_option maxRecDepth 4000
namespace Go.Sx.Ch
open Go Go.Sx Go.Proofs

/-- What comes next on a face, found by looking. -/
def facR (L : List (List Int)) (e : Int) : Int := afterR L (otherI e)
def facS (σ : Int → Int) (s : List Int × List (List Int)) (k : Nat) : List Int × List (List Int) :=
  if (k : Int) ∈ s.1 then s else (s.1 ++ (orb σ k 16 k).getD [], s.2 ++ [(orb σ k 16 k).getD []])
def facN (σ : Int → Int) (n : Nat) : List Int × List (List Int) := (List.range n).foldl (facS σ) ([], [])
theorem facN_succ (σ : Int → Int) (n : Nat) : facN σ (n + 1) = facS σ (facN σ n) n := by simp [facN, List.range_succ, List.foldl_append]
theorem facN_len (σ : Int → Int) (n : Nat) : (facN σ n).1.length ≤ 16 * n ∧ (facN σ n).2.length ≤ n ∧ ((facN σ n).1 = [] ↔ (facN σ n).2 = []) ∨ ∃ k, k < n ∧ orb σ k 16 k = none := by
  induction n with
  | zero => left; simp [facN]
  | succ n ih =>
    rcases ih with ⟨h1, h2, h3⟩ | ⟨k, hk, h⟩
    · rw [facN_succ]; unfold facS
      split
      · left; exact ⟨by omega, by omega, h3⟩
      · cases ho : orb σ n 16 n with
        | none => right; exact ⟨n, by omega, ho⟩
        | some l =>
          left
          obtain ⟨q1, q2⟩ := orb_len ho
          refine ⟨by simp; omega, by simp; omega, by simp [q2]⟩
    · right; exact ⟨k, by omega, h⟩
def g65 (L : List (List Int)) : Bool := smM L && (okS (facR L) (total L) && (List.range (total L)).all (fun (k : Nat) => decide (0 ≤ ptL L (otherI k)) && within 0 (otherI k) 1000))
/-- Within a face. -/
def in65 (L : List (List Int)) (u : Bool) (k : Nat) (met : List Int) (out : List (List Int)) (acc : List Int) (cap : Option Nat) (x : Int) : ST :=
  ⟨[(1, .ptr 0 0), (3, fA 1 out), (4, gA (1 + fN out) met), (5, vI k), (6, .ref (1 + fN out + gN met) 0 acc.length 1 cap), (7, vI x)], (0, .cells [.il (lls L) L.length u]) :: (fH 1 out ++ (gH (1 + fN out) met ++ [(1 + fN out + gN met, .cells (ints acc))])), 2 + fN out + gN met⟩
/-- Behind a face. -/
def ex65 (L : List (List Int)) (u : Bool) (k : Nat) (met : List Int) (out : List (List Int)) (F : List Int) (b : Bool) : ST :=
  ⟨[(1, .ptr 0 0), (3, fA 1 out), (4, gA (1 + fN out) met), (5, vI k), (6, .il (ints F) F.length b)], (0, .cells [.il (lls L) L.length u]) :: (fH 1 out ++ gH (1 + fN out) met), 1 + fN out + gN met⟩
theorem heapWk_refl : ∀ h : HL, heapWk h h
  | [] => trivial
  | (k, x) :: r => ⟨rfl, .refl, heapWk_refl r⟩
theorem ex65_weak {L u k met out F} : ChgT 0 (ex65 L u k met out F true) (ex65 L u k met out F false) :=
  .weak (s' := ex65 L u k met out F false) (show envWk _ _ from ⟨rfl, .refl, rfl, .refl, rfl, .refl, rfl, .refl, rfl, .open, trivial⟩) (heapWk_refl _) rfl .refl
set_option maxHeartbeats 1000000
theorem in65_ok {L : List (List Int)} {u : Bool} {n k : Nat} {met : List Int} {out : List (List Int)} {F : List Int} {s0 : ST} {Q : Exit → ST → Prop} (hs : smM L = true) (hn : n ≤ 16) (hσ : ∀ k : Nat, k < n → 0 ≤ facR L k ∧ facR L k ≤ n - 1) (hp : ∀ k : Nat, k < n → 0 ≤ ptL L (otherI k) ∧ within 0 (otherI k) 1000 = true)
    (hk : k < n) (hmo : met = [] ↔ out = []) (hF : orb (facR L) k 16 k = some F) (hs0 : ChgT 0 s0 (in65 L u k met out [(k : Int)] (some 1) (facR L k)))
    (hQ : Q (.exit 2) (ex65 L u k met out F false)) : XZ (rZ (spc [s66, s86, s97, s98])) 0 (.loop p65_l0) s0 Q := by
  refine XZ_for (fun p : Nat × List Int × Option Nat × Int => in65 L u k met out p.2.1 p.2.2.1 p.2.2.2) (fun p => p.1)
    (fun p => 0 ≤ p.2.2.2 ∧ p.2.2.2 ≤ n - 1 ∧ p.2.1 ≠ [] ∧ p.2.1.length + p.1 ≤ 16 ∧ (p.2.2.1 = none ∨ p.2.2.1 = some p.2.1.length) ∧ (if p.2.2.2 = k then p.2.1 = F else ∃ r, orb (facR L) k p.1 p.2.2.2 = some r ∧ p.2.1 ++ r = F)) (15, [(k : Int)], some 1, facR L k)
    ⟨(hσ k hk).1, (hσ k hk).2, by simp, by simp, .inr rfl, ?_⟩ hs0 ?_
  · simp only [orb] at hF
    split
    · rename_i e; simp only at e; rw [if_pos e] at hF; cases hF; rfl
    · rename_i e
      simp only at e
      rw [if_neg e] at hF
      obtain ⟨r, hr, rfl⟩ := Option.map_eq_some_iff.1 hF
      exact ⟨r, hr, rfl⟩
  rintro ⟨f, acc, cap, x⟩ ⟨h0, h1, hne, h3, hcap, hinv⟩ N Q' hN hE
  simp only at h0 h1 hne h3 hcap hinv ⊢
  obtain ⟨m, rfl⟩ := Int.eq_ofNat_of_zero_le h0
  by_cases hmk : (m : Int) = k
  · rw [if_pos hmk] at hinv
    subst hinv
    obtain rfl : m = k := by omega
    rcases out with _ | ⟨o, orr⟩
    · obtain rfl : met = [] := hmo.2 rfl
      rcases hcap with rfl | rfl
      · simp only [in65, fA, fH, fN, gA, gH, gN]
        delta p65_l0 p65_r8 p65_r9 p65_r10
        simp (disch := omega) [oLt, oLe, oLtN, oLeN, nLt, nLe, nLtN, nLeN]
        exact hE _ _ _ (.frz 1 (by simp; rfl) (by simp) (.tot [1] (by simp [ex65, fA, fH, fN, gA, gH, gN]))) hQ
      · simp only [in65, fA, fH, fN, gA, gH, gN]
        delta p65_l0 p65_r8 p65_r9 p65_r10
        simp (disch := omega) [oLt, oLe, oLtN, oLeN, nLt, nLe, nLtN, nLeN]
        exact hE _ _ _ (.trans (.frz 1 (by simp; rfl) (by simp) (.tot [1] (by simp [ex65, fA, fH, fN, gA, gH, gN]))) ex65_weak) hQ
    · rcases met with _ | ⟨m0, mr⟩
      · exact absurd (hmo.1 rfl) (by simp)
      · rcases hcap with rfl | rfl
        · simp only [in65, fA, fH, fN, gA, gH, gN]
          delta p65_l0 p65_r8 p65_r9 p65_r10
          simp (disch := omega) [oLt, oLe, oLtN, oLeN, nLt, nLe, nLtN, nLeN]
          exact hE _ _ _ (.frz 3 (by simp; rfl) (by simp) (.tot [1, 3, 4] (by simp [ex65, fA, fH, fN, gA, gH, gN]))) hQ
        · simp only [in65, fA, fH, fN, gA, gH, gN]
          delta p65_l0 p65_r8 p65_r9 p65_r10
          simp (disch := omega) [oLt, oLe, oLtN, oLeN, nLt, nLe, nLtN, nLeN]
          exact hE _ _ _ (.trans (.frz 3 (by simp; rfl) (by simp) (.tot [1, 3, 4] (by simp [ex65, fA, fH, fN, gA, gH, gN]))) ex65_weak) hQ
  · rw [if_neg hmk] at hinv
    obtain ⟨r, hr, hacc⟩ := hinv
    have hm : m < n := by omega
    obtain ⟨hp1, hp2⟩ := hp m hm
    have hv := hσ m hm
    have hw : within 0 (m : Int) 1000 = true := within_iff.2 ⟨by omega, by omega⟩
    obtain ⟨v, hve⟩ : ∃ v, facR L m = v := ⟨_, rfl⟩
    have hve2 : afterR L (otherI m) = v := hve
    rw [hve] at hv
    cases f with
    | zero => cases hr
    | succ f =>
      simp only [orb] at hr
      rw [hve] at hr
      have fin : ∀ s' cap', (cap' = none ∨ cap' = some (acc.length + 1)) → ChgT 0 s' (in65 L u k met out (acc ++ [(m : Int)]) cap' v) → N s' := fun s' cap' hc hh => by
        refine hN s' (f, acc ++ [(m : Int)], cap', v) (Nat.lt_succ_self f) ⟨hv.1, hv.2, by simp, by simp; omega, by simpa using hc, ?_⟩ hh
        simp only
        split
        · rename_i e; rw [if_pos e] at hr; cases hr; exact hacc
        · rename_i e
          rw [if_neg e] at hr
          obtain ⟨r', hr', rfl⟩ := Option.map_eq_some_iff.1 hr
          exact ⟨r', hr', by simpa using hacc⟩
      clear hN
      obtain ⟨a0, ar, rfl⟩ := List.exists_cons_of_ne_nil hne
      simp only [List.length_cons] at h3 hcap fin
      rcases out with _ | ⟨o, orr⟩
      · obtain rfl : met = [] := hmo.2 rfl
        simp only [in65, fA, fH, fN, gA, gH, gN] at fin ⊢
        rcases hcap with rfl | rfl
        · delta p65_l0 p65_r8 p65_r9 p65_r10
          simp (disch := omega) [oLt, oLe, oLtN, oLeN, nLt, nLe, nLtN, nLeN, hmk, hs, hw, hp1, hp2, hve2]
          exact fin _ none (.inl rfl) (.tot [1, 6] (by simp))
        · delta p65_l0 p65_r8 p65_r9 p65_r10
          simp (disch := omega) [oLt, oLe, oLtN, oLeN, nLt, nLe, nLtN, nLeN, hmk, hs, hw, hp1, hp2, hve2]
          exact fin _ none (.inl rfl) (.tot [1, 6] (by simp))
      · rcases met with _ | ⟨m0, mr⟩
        · exact absurd (hmo.1 rfl) (by simp)
        · simp only [in65, fA, fH, fN, gA, gH, gN] at fin ⊢
          rcases hcap with rfl | rfl
          · delta p65_l0 p65_r8 p65_r9 p65_r10
            simp (disch := omega) [oLt, oLe, oLtN, oLeN, nLt, nLe, nLtN, nLeN, hmk, hs, hw, hp1, hp2, hve2]
            exact fin _ none (.inl rfl) (.tot [1, 3, 4, 6] (by simp))
          · delta p65_l0 p65_r8 p65_r9 p65_r10
            simp (disch := omega) [oLt, oLe, oLtN, oLeN, nLt, nLe, nLtN, nLeN, hmk, hs, hw, hp1, hp2, hve2]
            exact fin _ none (.inl rfl) (.tot [1, 3, 4, 6] (by simp))
end Go.Sx.Ch
