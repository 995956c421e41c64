/- The first colours; a list in another. No conditions. -/
import Derived.Test.YtfiebjbhiflfpaaDoorSxJDYtoDZ
set_option linter.unusedVariables false
set_option linter.unusedSimpArgs false
namespace Go.Sx.Ch
open Go Go.Sx Go.Proofs

/-- The first colours with as few as possible. -/
theorem few_first {L : List (List Int)} {l : List Int} {k : Nat} (h : fewT L = some (l, k)) : First (JR L) L.length k l ∧ k ≤ L.length ∧ ∀ j, j < k → ∀ m, Fits (JR L) j m → m.length ≠ L.length := by
  obtain ⟨k', -, h2, h3, h4⟩ := tryF_some h
  unfold fewF at h3
  obtain ⟨l', h5, h6⟩ := Option.map_eq_some_iff.1 h3
  cases h6
  refine ⟨colR_first.1 _ h5, by omega, fun j hj m hm => ?_⟩
  have := h4 j (Nat.zero_le _) hj
  unfold fewF at this
  rw [Option.map_eq_none_iff] at this
  exact colR_first.2 this m hm
theorem fits_rng {J : Nat → Nat → Bool} {m : Nat} {l : List Int} (h : Fits J m l) : ∀ x ∈ l, 0 ≤ x ∧ x < m := fun x hx => by
  obtain ⟨i, hi, rfl⟩ := List.getElem_of_mem hx
  have := h.rng i hi
  rw [List.getD_eq_getElem?_getD, List.getElem?_eq_getElem hi] at this
  exact this
theorem sub_len {α : Type} [DecidableEq α] : ∀ {A B : List α}, A.Nodup → (∀ x ∈ A, x ∈ B) → A.length ≤ B.length
  | [], B, _, _ => Nat.zero_le _
  | a :: A, B, hd, h => by
    obtain ⟨d1, d2⟩ := List.nodup_cons.1 hd
    have ha := h a List.mem_cons_self
    have := sub_len (B := B.erase a) d2 fun x hx => (List.mem_erase_of_ne (fun e => d1 (by rw [← e]; exact hx))).2 (h x (List.mem_cons_of_mem _ hx))
    rw [List.length_erase_of_mem ha] at this
    have hp : 0 < B.length := List.length_pos_of_mem ha
    simp only [List.length_cons]; omega
end Go.Sx.Ch
namespace Go.Sx.Ch
open Go Go.Sx Go.Proofs

theorem join_sym {L : List (List Int)} (hc : chk L = 0) {p q : Nat} (h : joinR L p q = true) : p < L.length ∧ q < L.length ∧ joinR L q p = true := by
  have hcv := chk_cov hc
  have hne := chk_ne hc
  obtain ⟨-, -, hev⟩ := chk_zero hc
  unfold joinR at h
  rw [Int.toNat_natCast] at h
  have hp : p < L.length := by
    apply Classical.byContradiction
    intro hp
    rw [List.getD_eq_getElem?_getD, List.getElem?_eq_none (by omega)] at h
    simp at h
  rw [List.getD_eq_getElem?_getD, List.getElem?_eq_getElem hp, Option.getD_some] at h
  obtain ⟨e, he, he2⟩ := List.any_eq_true.1 h
  rw [decide_eq_true_eq] at he2
  obtain ⟨e1, e2⟩ := hcv.rng e (List.mem_flatten.2 ⟨_, List.getElem_mem hp, he⟩)
  obtain ⟨m, rfl⟩ := Int.eq_ofNat_of_zero_le e1
  have hpt := (hcv.at hne (List.getElem?_eq_getElem hp) he).2
  rw [other_onat] at he2
  obtain ⟨k, l, k1, k2, -, k3⟩ := hcv.pnt hne (m := onat m) (onat_lt hev (by omega))
  rw [k3] at he2
  obtain rfl : k = q := by omega
  have hq := (List.getElem?_eq_some_iff.1 k1).1
  refine ⟨hp, hq, ?_⟩
  unfold joinR
  rw [Int.toNat_natCast, List.getD_eq_getElem?_getD, k1, Option.getD_some]
  have ho : onat (onat m) = m := by unfold onat; split <;> split <;> omega
  exact List.any_eq_true.2 ⟨_, k2, by rw [other_onat, ho, hpt]; simp⟩
theorem best_few9 {L : List (List Int)} (hc : chk L = 0) (hl : loopR L = false) : ∃ l k, fewT L = some (l, k) ∧ bestN L = k ∧ bestE L = 0 := by
  have hE : bestE L = 0 := by unfold bestE; simp [hc, hl]
  cases h : fewT L with
  | none => exact absurd (tryF_none h L.length (Nat.zero_le _) (by omega)) (fewF_last L)
  | some q =>
    obtain ⟨l, k⟩ := q
    by_cases hP : 0 < L.length
    · have hO : bestO L = some (l, k) := by unfold bestO; rw [if_pos ⟨hE, hP⟩, h]
      exact ⟨l, k, rfl, by unfold bestN; rw [hO], hE⟩
    · have h2 := (few_first h).2.1
      have hO : bestO L = none := by unfold bestO; rw [if_neg (fun h => hP h.2)]
      exact ⟨l, k, rfl, by unfold bestN; rw [hO]; show 0 = k; omega, hE⟩
end Go.Sx.Ch
