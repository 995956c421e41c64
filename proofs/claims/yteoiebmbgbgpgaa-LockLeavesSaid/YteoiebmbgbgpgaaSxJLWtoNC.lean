/- What the laws of the lock layer have in common: works, an order made by numbers is checked. No conditions. -/
import Derived.Test.YteoiebmbgbgpgaaSxJMWtoLVe
import Derived.Test.YteoiebmbgbgpgaaSxJLE1toLEw
set_option linter.unusedVariables false
set_option linter.unusedSimpArgs false
set_option maxRecDepth 4000
namespace Go.Sx.Lk
open Go Go.Sx Go.Proofs
section
def s15 : Sp := spT 15 [] (res true (vB true))
@[simp] theorem s15_g : s15.g = 15 := rfl
@[simp] theorem s15_f : s15.f = (spT 15 [] (res true (vB true))).f := rfl
theorem s15_ok : s15.ok Try.prog := by
  apply spT_ok
  simp only [OkT]
  intro r h' k' hh
  obtain ⟨_, rfl, rfl, rfl⟩ := res_inv hh
  exact k100_ok
theorem iota_zs (n : Nat) : iota n = zs (List.range n) := rfl
end
section
theorem cktA : ∀ n, n < 8 → (perN n).all ckt = true := by
  intro n hn
  have : n = 0 ∨ n = 1 ∨ n = 2 ∨ n = 3 ∨ n = 4 ∨ n = 5 ∨ n = 6 ∨ n = 7 := by omega
  rcases this with rfl | rfl | rfl | rfl | rfl | rfl | rfl | rfl
  · exact kt0
  · exact kt1
  · exact kt2
  · exact kt3
  · exact kt4
  · exact kt5
  · exact kt6
  · exact per7 kt70 kt71 kt72 kt73 kt74 kt75 kt76
theorem adjF_iff {l : List Int} (h : chkF l = 0) {a b : Int} (ha : 0 ≤ a) (hb : 0 ≤ b) : adjF l a b = true ↔ Cl l a b ∨ Cl l b a := by
  unfold adjF
  rw [clF_bit h, Int.toNat_of_nonneg ha, Int.toNat_of_nonneg hb]
structure TwF (l : List Int) : Prop where
  some : (twF l).1.2 = true → okx (adjF l) [] l (twF l).2 ∧ ∀ ys, okx (adjF l) [] l ys → lexLe (twF l).2 ys
  none : (twF l).1.2 = false → ∀ ys, ¬ okx (adjF l) [] l ys
  bt : bt (adjF l) l [] = if (twF l).1.2 = true then Option.some (twF l).2 else Option.none
  srt : srtB (psd l) = true ↔ ∀ a b, ¬ Cl l a b
theorem tw_facts {l : List Int} (h : chkF l = 0) : TwF l := by
  have hck := h
  obtain ⟨m, rfl, hm⟩ := per_all cktA h
  simp only [ckt, ckt1, Bool.and_eq_true] at hm
  obtain ⟨h1, h2⟩ := hm
  have hadj : adjF (zs m) = adjL (clN m) := by
    funext a b
    unfold adjF adjL
    rw [clN_eq]
  have hbt := btN_eq (clN m) m []
  simp only [List.map_nil] at hbt
  have htw := twN_eq m
  have key : bt (adjF (zs m)) (zs m) [] = if (twF (zs m)).1.2 = true then some (twF (zs m)).2 else none := by
    rw [hadj, hbt, htw]
    generalize twN (clN m) m = q at *
    obtain ⟨⟨I, ok⟩, out⟩ := q
    cases hb : btN (clN m) m [] with
    | none =>
      rw [hb] at h1
      simp only [cktw, Bool.not_eq_true'] at h1
      subst h1
      simp [decS]
    | some c =>
      rw [hb] at h1
      simp only [cktw, Bool.and_eq_true] at h1
      obtain ⟨rfl, h4⟩ := h1
      have h5 := eqN_eq h4
      subst h5
      simp [decS, zs, dec, Function.comp_def]
  have hsp := bt_spec (adjF (zs m)) (zs m) []
  refine ⟨fun ht => ?_, fun ht => ?_, key, ?_⟩
  · rw [if_pos ht] at key
    obtain ⟨xs, e1, e2, e3⟩ := hsp.1 _ key
    simp only [List.reverse_nil, List.map_nil, List.nil_append] at e1
    rw [e1]; exact ⟨e2, e3⟩
  · rw [if_neg (by rw [ht]; simp)] at key
    exact hsp.2 key
  · rw [psdN_eq, srtN_eq, eqBt_eq h2, List.all_eq_true]
    constructor
    · intro hz a b hc
      have hcc := hc
      obtain ⟨c, h3, h4, h5⟩ := hc
      have hma := chk_mem hck a (h3.subset (by simp))
      have hmb := chk_mem hck b (h3.subset (by simp))
      have hbit := (clF_bit hck a.toNat b.toNat).2 (.inl (by rw [Int.toNat_of_nonneg hma.1, Int.toNat_of_nonneg hmb.1]; exact hcc))
      have hz0 : (clF (zs m)).getD a.toNat 0 = 0 := by
        rw [List.getD_eq_getElem?_getD]
        cases hg : (clF (zs m))[a.toNat]? with
        | none => rfl
        | some v =>
          have := hz v (by rw [← clN_eq]; exact List.mem_of_getElem? hg)
          rw [Nat.beq_eq] at this
          exact this.symm
      rw [hz0] at hbit
      simp at hbit
    · intro hn v hv
      rw [Nat.beq_eq]
      rw [← clN_eq] at hv
      obtain ⟨i, hi⟩ := List.getElem?_of_mem hv
      rcases Nat.eq_zero_or_pos v with rfl | hp
      · rfl
      · obtain ⟨j, hj⟩ := Nat.exists_testBit_of_ne_zero (x := v) (by omega)
        have := (clF_bit hck i j).1 (by rw [List.getD_eq_getElem?_getD, hi]; exact hj)
        rcases this with h | h
        · exact absurd h (hn _ _)
        · exact absurd h (hn _ _)
/-! ### Without a barge -/
end
end Go.Sx.Lk
