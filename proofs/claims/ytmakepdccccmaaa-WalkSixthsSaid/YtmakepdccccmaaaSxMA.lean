/- A weight of at most five sixths; the weight's lowest terms: plain facts. No conditions. -/
import Derived.Test.YtmakepdccccmaaaSxNA
import Derived.Test.YtmakepdccccmaaaSxJR1toR2
set_option linter.unusedVariables false
set_option linter.unusedSimpArgs false
set_option maxRecDepth 100000
namespace Go.Sx.Wk
open Go Go.Sx Go.Proofs

/-- Plans for all numbers, from the smallest on, of a weight of at most five sixths. -/
def plans6 : List (List Nat) := [[0], [0, 1], [2, 0, 1, 0], [0, 2, 1], [3, 1, 0, 1, 2, 0], [0, 1, 3, 2]]
def sortB : List Int → Bool
  | a :: b :: r => decide (a ≤ b) && sortB (b :: r)
  | _ => true
def sixB : Bool := [1, 2, 3, 4].all fun n => (allL [1, 2, 3, 4, 5, 6, 7, 8] n).all fun t => !sortB t || (!decide (wgt t ≤ 700) || plans6.any (backW t))
theorem six_ok : sixB = true := by decide +kernel
theorem wgt_perm {t u : List Int} (h : t.Perm u) : wgt t = wgt u := by
  induction h with
  | nil => rfl
  | cons x _ ih => simp only [wgt, ih]
  | swap x y l => simp only [wgt]; omega
  | trans _ _ h1 h2 => rw [h1, h2]
theorem sortB_of : ∀ {l : List Int}, l.Pairwise (fun a b => decide (a ≤ b) = true) → sortB l = true
  | [], _ => rfl
  | [a], _ => rfl
  | a :: b :: r, h => by
    rw [List.pairwise_cons] at h
    simp only [sortB, Bool.and_eq_true]
    exact ⟨h.1 b (by simp), sortB_of h.2⟩
theorem six_can {t : List Int} (hne : t ≠ []) (h4 : t.length ≤ 4) (h8 : ∀ y ∈ t, 1 ≤ y ∧ y ≤ 8) (hw : wgt t ≤ 700) : canB t = true := by
  have hp := List.mergeSort_perm t (fun a b => decide (a ≤ b))
  have hs : sortB (t.mergeSort fun a b => decide (a ≤ b)) = true := sortB_of (List.pairwise_mergeSort (fun a b c h1 h2 => by simp only [decide_eq_true_eq] at *; omega) (fun a b => by simp only [Bool.or_eq_true, decide_eq_true_eq]; omega) t)
  generalize t.mergeSort (fun a b => decide (a ≤ b)) = u at *
  have hl := hp.length_eq
  have u8 : ∀ y ∈ u, 1 ≤ y ∧ y ≤ 8 := fun y hy => h8 y (hp.subset hy)
  have h := six_ok
  simp only [sixB, List.all_eq_true, Bool.or_eq_true, Bool.not_eq_true', decide_eq_false_iff_not] at h
  have hpos := List.length_pos_iff.2 hne
  rcases h u.length (by simp; omega) u (mem_allL fun x hx => by have := u8 x hx; simp; omega) with h1 | h1 | h1
  · rw [hs] at h1; cases h1
  · rw [wgt_perm hp] at h1; exact absurd hw h1
  · obtain ⟨p, -, h2⟩ := List.any_eq_true.1 h1
    have hc : canB u = true := (canB_iff (ok8_iff.2 u8) (by omega)).2 (back_ever h2)
    rw [can_perm hp (ok8_iff.2 u8) (by omega)] at hc
    exact hc
theorem wgtB_eq {b : Int} : ∀ t : List Int, wgtB b t = wgt t * b
  | [] => by simp [wgtB, wgt]
  | t :: ts => by simp only [wgtB, wgt, wgtB_eq ts]; rw [Int.add_mul]
theorem num_wgt : ∀ {t : List Int}, (∀ y ∈ t, 1 ≤ y ∧ y ≤ 8) → (num t : Int) = wgt t
  | [], _ => rfl
  | x :: t, h => by
    have hx := h x (by simp)
    obtain ⟨n, rfl⟩ := Int.eq_ofNat_of_zero_le (show 0 ≤ x by omega)
    have ih := num_wgt (t := t) fun y hy => h y (by simp [hy])
    simp only [num, wgt, ← ih]
    simp
theorem num_pos {t : List Int} (hne : t ≠ []) (h8 : ∀ y ∈ t, 1 ≤ y ∧ y ≤ 8) : 0 < num t := by
  rcases t with _ | ⟨x, r⟩
  · exact absurd rfl hne
  · have hx := h8 x (by simp)
    have : x = 1 ∨ x = 2 ∨ x = 3 ∨ x = 4 ∨ x = 5 ∨ x = 6 ∨ x = 7 ∨ x = 8 := by omega
    rcases this with rfl | rfl | rfl | rfl | rfl | rfl | rfl | rfl <;> simp [num] <;> omega
/-- The weight's lowest terms. -/
structure WeightF (t : List Int) : Prop where
  w : weightF t = .tup [vI (wA t), vI (wB t), vI 0]
  a1 : 1 ≤ wA t
  b1 : 1 ≤ wB t
  a4 : wA t ≤ 4 * wB t
  b8 : wB t ≤ 840
  dv : 840 % wB t = 0
  eq : wgtB (wB t) t - 840 * wA t = 0
  cop : ∀ d : Int, 2 ≤ d → d ≤ wB t → wA t % d = 0 → wB t % d = 0 → False
theorem weight_facts {t : List Int} (hc : chk t = 0) : WeightF t := by
  obtain ⟨hne, h4, h8⟩ := chk_ok hc
  have hn := num_wgt h8
  have hp := num_pos hne h8
  have hle := num_le t
  have e := gAB (num t)
  have hB := gB_le (num t)
  have hB0 := gB_pos (num t)
  have hA0 : 0 < gA (num t) := Nat.div_pos (Nat.le_of_dvd hp (Nat.gcd_dvd_left _ _)) (Nat.gcd_pos_of_pos_left _ hp)
  have eA : wA t = (gA (num t) : Nat) := rfl
  have eB : wB t = (gB (num t) : Nat) := rfl
  have hg : Nat.gcd (gA (num t)) (gB (num t)) = 1 := Nat.coprime_div_gcd_div_gcd (Nat.gcd_pos_of_pos_left _ hp)
  have h840 : gB (num t) ∣ 840 := Nat.div_dvd_of_dvd (Nat.gcd_dvd_right _ _)
  refine ⟨by unfold weightF; rw [if_pos hc], by rw [eA]; omega, by rw [eB]; omega, ?_, by rw [eB]; omega, ?_, ?_, ?_⟩
  · rw [eA, eB]
    have : gA (num t) ≤ 4 * gB (num t) := by
      have h1 : num t * gB (num t) ≤ 3360 * gB (num t) := Nat.mul_le_mul_right _ (by omega)
      omega
    omega
  · rw [eB]
    have hm := Nat.mod_eq_zero_of_dvd h840
    rw [show (840 : Int) = ((840 : Nat) : Int) from rfl, ← Int.natCast_emod, hm]; rfl
  · rw [wgtB_eq, ← hn, eA, eB]
    have : ((gA (num t) * 840 : Nat) : Int) = ((num t * gB (num t) : Nat) : Int) := by rw [e]
    push_cast at this
    omega
  · intro d h2 hd ha hb
    rw [eA] at ha
    rw [eB] at hb
    obtain ⟨n, rfl⟩ := Int.eq_ofNat_of_zero_le (show 0 ≤ d by omega)
    have ha' : n ∣ gA (num t) := Nat.dvd_of_mod_eq_zero (by rw [← Int.natCast_emod] at ha; exact Int.natCast_eq_zero.1 ha)
    have hb' : n ∣ gB (num t) := Nat.dvd_of_mod_eq_zero (by rw [← Int.natCast_emod] at hb; exact Int.natCast_eq_zero.1 hb)
    have := Nat.dvd_gcd ha' hb'
    rw [hg] at this
    have := Nat.le_of_dvd (by omega) this
    omega
end Go.Sx.Wk
