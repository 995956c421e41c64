/- What functions of the document's lock layer return: places, an order checked; the check is the program's. No conditions. -/
import Derived.Test.YteoiebmbgbgpgaaSxJLAtoLU
import Derived.Test.YteoiebmbgbgpgaaSxPLd
import Derived.Test.YteoiebmbgbgpgaaSxJSttoSd
import Derived.Test.YteoiebmbgbgpgaaSxJLVtoMV
import Derived.KernelRfl
set_option linter.unusedVariables false
set_option linter.unusedSimpArgs false
namespace Go.Sx.Lk
open Go Go.Sx Go.Proofs
section
set_option maxRecDepth 4000
set_option maxHeartbeats 4000000
def s71 : Sp := spT 71 [.i, .i, .i] fun (n : Int) (a : Int) (b : Int) => res true (vB (decide (a ≤ n) && decide (n ≤ b)))
@[simp] theorem s71_g : s71.g = 71 := rfl
@[simp] theorem s71_f : s71.f = (spT 71 [.i, .i, .i] fun (n : Int) (a : Int) (b : Int) => res true (vB (decide (a ≤ n) && decide (n ≤ b)))).f := rfl
theorem s71_ok : s71.ok Try.prog := by
  apply spT_ok
  simp only [OkT, Ty.all, List.nil_append, List.cons_append]
  intro (n : Int) (a : Int) (b : Int)
  apply okT_res; intro _
  refine P71.rz (ss := []) trivial (by simp) fun Q hQ => ?_
  delta p71 p71_r0 p71_r1
  by_cases h : a ≤ n
  · by_cases h' : n ≤ b
    · simp (disch := omega) [oLt, oLe, oLtN, oLeN, nLt, nLe, nLtN, nLeN, h, h']
      exact hQ _ _ (.p (.inl rfl) (by simp [h, h']) rfl)
    · simp (disch := omega) [oLt, oLe, oLtN, oLeN, nLt, nLe, nLtN, nLeN, h, h']
      exact hQ _ _ (.p (.inl rfl) (by simp [h, h']) rfl)
  · simp (disch := omega) [oLt, oLe, oLtN, oLeN, nLt, nLe, nLtN, nLeN, h]
    exact hQ _ _ (.p (.inl rfl) (by simp [h]) rfl)
def s72 : Sp := spT 72 [.l, .i] fun (l : List Int) (x : Int) => res (small l) (vI (idxL l x))
@[simp] theorem s72_g : s72.g = 72 := rfl
@[simp] theorem s72_f : s72.f = (spT 72 [.l, .i] fun (l : List Int) (x : Int) => res (small l) (vI (idxL l x))).f := rfl
theorem s72_ok : s72.ok Try.prog := by
  apply spT_ok
  simp only [OkT, Ty.all, List.nil_append, List.cons_append]
  intro (l : List Int) u (x : Int)
  apply okT_res; intro hg
  refine P72.rz (ss := []) trivial (by simp) fun Q hQ => ?_
  delta p72 p72_r0 p72_r1
  simp only [small, decide_eq_true_eq] at hg
  simp (disch := omega) [oLt, oLe, oLtN, oLeN, nLt, nLe, nLtN, nLeN]
  refine XZ_for (fun i : Nat => ⟨[(0, .il (ints l) l.length u), (1, vI x), (5, vI i)], [], 0⟩) (fun i => l.length - i) (fun i => i ≤ l.length ∧ idxR x (l.drop i) i = idxL l x) 0 ⟨by simp, by simp [idxL]⟩ (.to [] (by simp)) ?_
  rintro i ⟨hi, hinv⟩ N Q' hN hE
  rcases Nat.lt_or_ge i l.length with h | h
  · have hic : (i : Int) < l.length := by omega
    obtain ⟨y, r, e1, e2, e3, e4, e5⟩ := drop_split h
    rw [e1] at hinv
    simp only [idxR] at hinv
    by_cases hy : y = x
    · rw [if_pos hy] at hinv
      rw [← hinv] at hQ
      subst hy
      delta p72_l0 p72_r2 p72_r3 p72_r4 p72_r5
      simp (disch := omega) [oLt, oLe, oLtN, oLeN, nLt, nLe, nLtN, nLeN, hic, h, e2, e3]
      exact hE _ _ _ .refl (hQ _ _ (.p (.inl rfl) (by simp) rfl))
    · rw [if_neg hy] at hinv
      have hy' : ¬ x = y := fun h => hy h.symm
      delta p72_l0 p72_r2 p72_r3 p72_r4 p72_r5
      simp (disch := omega) [oLt, oLe, oLtN, oLeN, nLt, nLe, nLtN, nLeN, hic, h, e2, e3, hy, hy']
      exact hN _ (i + 1) (by omega) ⟨h, by rw [e4]; simpa using hinv⟩ (.to [] (by simp))
  · obtain rfl : i = l.length := by omega
    have hic : ¬ (l.length : Int) < l.length := by omega
    rw [List.drop_eq_nil_of_le (Nat.le_refl _)] at hinv
    simp only [idxR] at hinv
    rw [← hinv] at hQ
    delta p72_l0 p72_r2 p72_r3 p72_r4 p72_r5
    simp (disch := omega) [oLt, oLe, oLtN, oLeN, nLt, nLe, nLtN, nLeN, hic]
    refine hE _ _ _ .refl ?_
    delta p72_r6
    simp (disch := omega) [oLt, oLe, oLtN, oLeN, nLt, nLe, nLtN, nLeN]
    exact hQ _ _ (.p (.inl rfl) (by simp) rfl)
/-! ### The two checks say the same -/
end
section
set_option maxRecDepth 4000
set_option maxHeartbeats 20000000
def ascB (l : List Int) : Bool := (List.range l.length).all fun i => decide (l.getD i 0 = i)
theorem ascB_iff (l : List Int) : ascB l = true ↔ ∀ i : Nat, i < l.length → l.getD i 0 = i := by
  simp only [ascB, List.all_eq_true, List.mem_range, decide_eq_true_eq]
def s99 : Sp := spT 99 [.l] fun (l : List Int) => res (small l) (vB (ascB l))
@[simp] theorem s99_g : s99.g = 99 := rfl
@[simp] theorem s99_f : s99.f = (spT 99 [.l] fun (l : List Int) => res (small l) (vB (ascB l))).f := rfl
theorem s99_ok : s99.ok Try.prog := by
  apply spT_ok
  simp only [OkT, Ty.all, List.nil_append, List.cons_append]
  intro (l : List Int) u
  apply okT_res; intro hg
  refine P99.rz (ss := []) trivial (by simp) fun Q hQ => ?_
  delta p99 p99_r0 p99_r1
  simp only [small, decide_eq_true_eq] at hg
  simp (disch := omega) [oLt, oLe, oLtN, oLeN, nLt, nLe, nLtN, nLeN]
  refine XZ_for (fun i : Nat => ⟨[(0, .il (ints l) l.length u), (3, vI i)], [], 0⟩) (fun i => l.length - i) (fun i => i ≤ l.length ∧ ∀ j : Nat, j < i → l.getD j 0 = j) 0 ⟨by simp, fun j hj => by omega⟩ (.to [] (by simp)) ?_
  rintro i ⟨hi, hinv⟩ N Q' hN hE
  rcases Nat.lt_or_ge i l.length with h | h
  · have hic : (i : Int) < l.length := by omega
    obtain ⟨x, r, e1, e2, e3, e4, e5⟩ := drop_split h
    have hgd : l.getD i 0 = x := by rw [List.getD_eq_getElem?_getD, e2]; rfl
    by_cases hx : x = i
    · delta p99_l0 p99_r2 p99_r3 p99_r4 p99_r5
      simp (disch := omega) [oLt, oLe, oLtN, oLeN, nLt, nLe, nLtN, nLeN, hic, h, e2, e3, hx]
      exact hN _ (i + 1) (by omega) ⟨h, fun j hj => by
        by_cases e : j = i
        · rw [e, hgd, hx]
        · exact hinv j (by omega)⟩ (.to [] (by simp))
    · have hb : ascB l = false := by
        cases hs : ascB l with
        | false => rfl
        | true => exact absurd (((ascB_iff l).1 hs i h).symm.trans hgd).symm hx
      rw [hb] at hQ
      delta p99_l0 p99_r2 p99_r3 p99_r4 p99_r5
      simp (disch := omega) [oLt, oLe, oLtN, oLeN, nLt, nLe, nLtN, nLeN, hic, h, e2, e3, hx]
      exact hE _ _ _ .refl (hQ _ _ (.p (.inl rfl) (by simp) rfl))
  · obtain rfl : i = l.length := by omega
    have hic : ¬ (l.length : Int) < l.length := by omega
    rw [(ascB_iff l).2 hinv] at hQ
    delta p99_l0 p99_r2 p99_r3 p99_r4 p99_r5
    simp (disch := omega) [oLt, oLe, oLtN, oLeN, nLt, nLe, nLtN, nLeN, hic]
    refine hE _ _ _ .refl ?_
    delta p99_r6
    simp (disch := omega) [oLt, oLe, oLtN, oLeN, nLt, nLe, nLtN, nLeN]
    exact hQ _ _ (.p (.inl rfl) (by simp) rfl)
theorem fzEnv1 {h : HL} {e : List (Nat × AV)} {t id n : Nat} {M : List AV} (he : enF e t = .ref id 0 n 1 none) (h1 : hpF h id = some (.cells M)) (h2 : M.length = n) (h3 : cloL M = true) : fzEnv h e [t] = some [(t, .il M n false)] := by
  have ht : M.take n = M := List.take_of_length_le (by omega)
  simp [fzEnv, he, frzArg, h1, h2, h3, ht]
/-! ### The document's pass -/
theorem idxR_first {x : Int} : ∀ {l : List Int} {g : Nat} {i : Int}, l[g]? = some x → (∀ j : Nat, j < g → l[j]? ≠ some x) → idxR x l i = i + g
  | [], g, i, h, _ => by simp at h
  | y :: r, 0, i, h, _ => by
    simp at h
    simp [idxR, h]
  | y :: r, g + 1, i, h, hn => by
    have h0 := hn 0 (by omega)
    simp only [List.getElem?_cons_zero, ne_eq, Option.some.injEq] at h0
    simp only [idxR]
    rw [if_neg h0, idxR_first (l := r) (g := g) (by simpa using h) (fun j hj => by have := hn (j + 1) (by omega); simpa using this)]
    omega
structure Gr (l : List Int) (i g : Nat) (x : Int) : Prop where
  at_ : l[g]? = some x
  fst : ∀ (j : Nat) y, j < g → l[j]? = some y → y < x
  le : ∀ (j : Nat) y, j < i → l[j]? = some y → y ≤ x
  max : mxR x (l.drop i) = mxL l
def s62 (f : Nat) : Sp := spT 62 [.l] fun (l : List Int) => res (small l && decide (l.length < f)) (.il (ints (lpF l)) (lpF l).length false)
@[simp] theorem s62_g (f : Nat) : (s62 f).g = 62 := rfl
@[simp] theorem s62_f (f : Nat) : (s62 f).f = (spT 62 [.l] fun (l : List Int) => res (small l && decide (l.length < f)) (.il (ints (lpF l)) (lpF l).length false)).f := rfl
theorem s62_ok : ∀ f : Nat, (s62 f).ok Try.prog
  | 0 => by
    apply spT_ok
    simp only [OkT, Ty.all, List.nil_append, List.cons_append]
    intro l u
    apply okT_res
    intro hg
    simp at hg
  | f + 1 => by
    have ih := s62_ok f
    apply spT_ok
    simp only [OkT, Ty.all, List.nil_append, List.cons_append]
    intro (l : List Int) u
    apply okT_res
    intro hg
    simp only [small, Bool.and_eq_true, decide_eq_true_eq] at hg
    obtain ⟨hsm, hf⟩ := hg
    refine P62.rz (ss := [s62 f]) ⟨ih, trivial⟩ (by simp) fun Q hQ => ?_
    rcases l with _ | ⟨x0, l0⟩
    · rw [lpF_nil] at hQ
      delta p62 p62_r0 p62_r1 p62_r2 p62_r3 p62_r4
      simp (disch := omega) [oLt, oLe, oLtN, oLeN, nLt, nLe, nLtN, nLeN]
      exact hQ _ _ (.fz [2] _ (.inl rfl) (by simp; rfl) (by simp) (by simp))
    obtain ⟨l, hl⟩ : ∃ l, x0 :: l0 = l := ⟨_, rfl⟩
    have hne : l ≠ [] := by rw [← hl]; simp
    have hl0 : l[0]? = some x0 := by rw [← hl]; rfl
    have hmx0 : mxR x0 (l.drop 0) = mxL l := by rw [← hl]; simp [mxL, mxR]
    rw [hl] at hQ hsm hf ⊢
    clear hl
    have hpos : ¬ (l.length : Int) = 0 := by have := List.length_pos_iff.2 hne; omega
    have hpos' : 0 < l.length := List.length_pos_iff.2 hne
    delta p62 p62_r0 p62_r1 p62_r2 p62_r3 p62_r4
    simp (disch := omega) [oLt, oLe, oLtN, oLeN, nLt, nLe, nLtN, nLeN, hpos, hne]
    refine XZ_for (fun p : Nat × Nat => ⟨[(0, .il (ints l) l.length u), (3, vI p.2), (4, vI p.1)], [], 0⟩) (fun p => l.length - p.1) (fun p => p.1 ≤ l.length ∧ ∃ x, Gr l p.1 p.2 x) (0, 0) ⟨by simp, x0, hl0, fun j y hj => by omega, fun j y hj => by omega, hmx0⟩ (.to [] (by simp)) ?_
    rintro ⟨i, g⟩ ⟨hi, x, hx, hfst, hle, hmax⟩ N Q' hN hE
    simp only at hi hx hfst hle hmax ⊢
    have hgl : g < l.length := (List.getElem?_eq_some_iff.1 hx).1
    have hgc : (g : Int) < l.length := by omega
    have hxi := (List.getElem?_eq_some_iff.1 hx).2
    rcases Nat.lt_or_ge i l.length with h | h
    · have hic : (i : Int) < l.length := by omega
      obtain ⟨y, r, e1, e2, e3, e4, e5⟩ := drop_split h
      rw [e1] at hmax
      simp only [mxR] at hmax
      by_cases hxy : x < y
      · rw [if_pos hxy] at hmax
        delta p62_l0 p62_r5 p62_r6 p62_r7 p62_r8
        simp (disch := omega) [oLt, oLe, oLtN, oLeN, nLt, nLe, nLtN, nLeN, hic, h, e2, e3, hgl, hgc, hx, hxi, hxy]
        exact hN _ (i + 1, i) (by simp only; omega) ⟨h, y, e2, fun j z hj hz => by have := hle j z hj hz; omega, fun j z hj hz => by
          rcases Nat.lt_or_ge j i with h1 | h1
          · have := hle j z h1 hz; omega
          · obtain rfl : j = i := by omega
            rw [e2] at hz; cases hz; exact Int.le_refl _, by simp only [e4]; exact hmax⟩ (.to [] (by simp))
      · rw [if_neg hxy] at hmax
        delta p62_l0 p62_r5 p62_r6 p62_r7 p62_r8
        simp (disch := omega) [oLt, oLe, oLtN, oLeN, nLt, nLe, nLtN, nLeN, hic, h, e2, e3, hgl, hgc, hx, hxi, hxy]
        exact hN _ (i + 1, g) (by simp only; omega) ⟨h, x, hx, hfst, fun j z hj hz => by
          rcases Nat.lt_or_ge j i with h1 | h1
          · exact hle j z h1 hz
          · obtain rfl : j = i := by omega
            rw [e2] at hz; cases hz; omega, by simp only [e4]; exact hmax⟩ (.to [] (by simp))
    · obtain rfl : i = l.length := by omega
      have hic : ¬ (l.length : Int) < l.length := by omega
      rw [List.drop_eq_nil_of_le (Nat.le_refl _)] at hmax
      simp only [mxR] at hmax
      have hmx : mxL l = x := hmax.symm
      have hi : idxL l (mxL l) = g := by
        rw [hmx]; unfold idxL
        rw [idxR_first hx (fun j hj h => by have := hfst j x hj h; omega)]; omega
      have hL := lpF_step hne hi hgl
      rw [hmx] at hL
      have hs1 : small (l.take g) = true := by simp [small]; omega
      have hs2 : small (l.drop (g + 1)) = true := by simp [small]; omega
      have hf1 : (l.take g).length < f := by simp; omega
      have hf2 : (l.drop (g + 1)).length < f := by simp; omega
      have hm1 : min g l.length = g := by omega
      have l1 := lpF_len _ (l.take g) (Nat.le_refl _)
      have l2 := lpF_len _ (l.drop (g + 1)) (Nat.le_refl _)
      rw [List.length_take, hm1] at l1
      rw [List.length_drop] at l2
      have hf1' : g < f := by omega
      have hf2' : l.length - (g + 1) < f := by omega
      have e1 : (g : Int) + 1 ≤ 9223372036854775807 := by omega
      have e2 : ((g : Int) + 1).toNat = g + 1 := by omega
      have hgl' : g ≤ l.length := by omega
      have ht : List.take (l.length - (g + 1)) (List.drop (g + 1) l) = List.drop (g + 1) l := List.take_of_length_le (by simp)
      delta p62_l0 p62_r5 p62_r6 p62_r7 p62_r8
      simp (disch := omega) [oLt, oLe, oLtN, oLeN, nLt, nLe, nLtN, nLeN, hic]
      refine hE _ _ _ .refl ?_
      cases hA : lpF (l.take g) with
      | nil =>
        cases hB : lpF (l.drop (g + 1)) with
        | nil =>
          rw [hA, hB] at hL
          rw [hL] at hQ
          refine XZ_seqG (XZ_drawG ?_)
          delta p62_r9
          refine zD_cut 4 ?_ ?_ (fun K_ hK => ?_) ?_
          rotate_left 2
          · simp only [List.take_succ_cons, List.take_zero]
            simp (disch := omega) [oLt, oLe, oLtN, oLeN, nLt, nLe, nLtN, nLeN, hpos, hmx, hgc, hgl, hgl', hx, hxi, hs1, hs2, hf1, hf2, hf1', hf2', hm1, hA, hB, e1, e2, ht]
            exact hK
          simp only [List.drop_succ_cons, List.drop_zero]
          refine zD_cut 1 ?_ ?_ (fun K_ hK => ?_) ?_
          rotate_left 2
          · simp only [List.take_succ_cons, List.take_zero]
            simp (disch := omega) [oLt, oLe, oLtN, oLeN, nLt, nLe, nLtN, nLeN, hpos, hmx, hgc, hgl, hgl', hx, hxi, hs1, hs2, hf1, hf2, hf1', hf2', hm1, hA, hB, e1, e2, ht]
            exact hK
          simp only [List.drop_succ_cons, List.drop_zero]
          refine zD_cut 1 ?_ ?_ (fun K_ hK => ?_) ?_
          rotate_left 2
          · simp only [List.take_succ_cons, List.take_zero]
            simp (disch := omega) [oLt, oLe, oLtN, oLeN, nLt, nLe, nLtN, nLeN, hpos, hmx, hgc, hgl, hgl', hx, hxi, hs1, hs2, hf1, hf2, hf1', hf2', hm1, hA, hB, e1, e2, ht]
            exact hK
          simp only [List.drop_succ_cons, List.drop_zero]
          refine zD_cut 4 ?_ ?_ (fun K_ hK => ?_) ?_
          rotate_left 2
          · simp only [List.take_succ_cons, List.take_zero]
            simp (disch := omega) [oLt, oLe, oLtN, oLeN, nLt, nLe, nLtN, nLeN, hpos, hmx, hgc, hgl, hgl', hx, hxi, hs1, hs2, hf1, hf2, hf1', hf2', hm1, hA, hB, e1, e2, ht]
            exact hK
          simp only [List.drop_succ_cons, List.drop_zero]
          refine zD_cut 3 ?_ ?_ (fun K_ hK => ?_) ?_
          rotate_left 2
          · simp only [List.take_succ_cons, List.take_zero]
            simp (disch := omega) [oLt, oLe, oLtN, oLeN, nLt, nLe, nLtN, nLeN, hpos, hmx, hgc, hgl, hgl', hx, hxi, hs1, hs2, hf1, hf2, hf1', hf2', hm1, hA, hB, e1, e2, ht]
            exact hK
          simp only [List.drop_succ_cons, List.drop_zero]
          refine goD_ok (by decide) ?_
          delta p62_r10
          simp (disch := omega) [oLt, oLe, oLtN, oLeN, nLt, nLe, nLtN, nLeN, hpos, hmx, hgc, hgl, hgl', hx, hxi, hs1, hs2, hf1, hf2, hf1', hf2', hm1, hA, hB, e1, e2, ht]
          exact hQ _ _ (.fz [2] _ (.inl rfl) (by simp; rfl) (by simp) (by simp))
        | cons b B =>
          rw [hA, hB] at hL
          rw [hL] at hQ
          have hbl : B.length ≤ 1000000 := by rw [hB, List.length_cons] at l2; omega
          refine XZ_seqG (XZ_drawG ?_)
          delta p62_r9
          refine zD_cut 4 ?_ ?_ (fun K_ hK => ?_) ?_
          rotate_left 2
          · simp only [List.take_succ_cons, List.take_zero]
            simp (disch := omega) [oLt, oLe, oLtN, oLeN, nLt, nLe, nLtN, nLeN, hpos, hmx, hgc, hgl, hgl', hx, hxi, hs1, hs2, hf1, hf2, hf1', hf2', hm1, hA, hB, e1, e2, ht]
            exact hK
          simp only [List.drop_succ_cons, List.drop_zero]
          refine zD_cut 1 ?_ ?_ (fun K_ hK => ?_) ?_
          rotate_left 2
          · simp only [List.take_succ_cons, List.take_zero]
            simp (disch := omega) [oLt, oLe, oLtN, oLeN, nLt, nLe, nLtN, nLeN, hpos, hmx, hgc, hgl, hgl', hx, hxi, hs1, hs2, hf1, hf2, hf1', hf2', hm1, hA, hB, e1, e2, ht]
            exact hK
          simp only [List.drop_succ_cons, List.drop_zero]
          refine zD_cut 1 ?_ ?_ (fun K_ hK => ?_) ?_
          rotate_left 2
          · simp only [List.take_succ_cons, List.take_zero]
            simp (disch := omega) [oLt, oLe, oLtN, oLeN, nLt, nLe, nLtN, nLeN, hpos, hmx, hgc, hgl, hgl', hx, hxi, hs1, hs2, hf1, hf2, hf1', hf2', hm1, hA, hB, e1, e2, ht]
            exact hK
          simp only [List.drop_succ_cons, List.drop_zero]
          refine zD_cut 4 ?_ ?_ (fun K_ hK => ?_) ?_
          rotate_left 2
          · simp only [List.take_succ_cons, List.take_zero]
            simp (disch := omega) [oLt, oLe, oLtN, oLeN, nLt, nLe, nLtN, nLeN, hpos, hmx, hgc, hgl, hgl', hx, hxi, hs1, hs2, hf1, hf2, hf1', hf2', hm1, hA, hB, e1, e2, ht]
            exact hK
          simp only [List.drop_succ_cons, List.drop_zero]
          refine zD_cut 3 ?_ ?_ (fun K_ hK => ?_) ?_
          rotate_left 2
          · simp only [List.take_succ_cons, List.take_zero]
            simp (disch := omega) [oLt, oLe, oLtN, oLeN, nLt, nLe, nLtN, nLeN, hpos, hmx, hgc, hgl, hgl', hx, hxi, hs1, hs2, hf1, hf2, hf1', hf2', hm1, hA, hB, e1, e2, ht]
            exact hK
          simp only [List.drop_succ_cons, List.drop_zero]
          refine goD_ok (by decide) ?_
          delta p62_r10
          simp (disch := omega) [oLt, oLe, oLtN, oLeN, nLt, nLe, nLtN, nLeN, hpos, hmx, hgc, hgl, hgl', hx, hxi, hs1, hs2, hf1, hf2, hf1', hf2', hm1, hA, hB, e1, e2, ht]
          exact hQ _ _ (.fz [2] _ (.inl rfl) (by simp; rfl) (by simp) (by simp))
      | cons a A =>
        cases hB : lpF (l.drop (g + 1)) with
        | nil =>
          rw [hA, hB] at hL
          rw [hL] at hQ
          have hal : A.length ≤ 1000000 := by rw [hA, List.length_cons] at l1; omega
          refine XZ_seqG (XZ_drawG ?_)
          delta p62_r9
          refine zD_cut 4 ?_ ?_ (fun K_ hK => ?_) ?_
          rotate_left 2
          · simp only [List.take_succ_cons, List.take_zero]
            simp (disch := omega) [oLt, oLe, oLtN, oLeN, nLt, nLe, nLtN, nLeN, hpos, hmx, hgc, hgl, hgl', hx, hxi, hs1, hs2, hf1, hf2, hf1', hf2', hm1, hA, hB, e1, e2, ht]
            exact hK
          simp only [List.drop_succ_cons, List.drop_zero]
          refine zD_cut 1 ?_ ?_ (fun K_ hK => ?_) ?_
          rotate_left 2
          · simp only [List.take_succ_cons, List.take_zero]
            simp (disch := omega) [oLt, oLe, oLtN, oLeN, nLt, nLe, nLtN, nLeN, hpos, hmx, hgc, hgl, hgl', hx, hxi, hs1, hs2, hf1, hf2, hf1', hf2', hm1, hA, hB, e1, e2, ht]
            exact hK
          simp only [List.drop_succ_cons, List.drop_zero]
          refine zD_cut 1 ?_ ?_ (fun K_ hK => ?_) ?_
          rotate_left 2
          · simp only [List.take_succ_cons, List.take_zero]
            simp (disch := omega) [oLt, oLe, oLtN, oLeN, nLt, nLe, nLtN, nLeN, hpos, hmx, hgc, hgl, hgl', hx, hxi, hs1, hs2, hf1, hf2, hf1', hf2', hm1, hA, hB, e1, e2, ht]
            exact hK
          simp only [List.drop_succ_cons, List.drop_zero]
          refine zD_cut 4 ?_ ?_ (fun K_ hK => ?_) ?_
          rotate_left 2
          · simp only [List.take_succ_cons, List.take_zero]
            simp (disch := omega) [oLt, oLe, oLtN, oLeN, nLt, nLe, nLtN, nLeN, hpos, hmx, hgc, hgl, hgl', hx, hxi, hs1, hs2, hf1, hf2, hf1', hf2', hm1, hA, hB, e1, e2, ht]
            exact hK
          simp only [List.drop_succ_cons, List.drop_zero]
          refine zD_cut 3 ?_ ?_ (fun K_ hK => ?_) ?_
          rotate_left 2
          · simp only [List.take_succ_cons, List.take_zero]
            simp (disch := omega) [oLt, oLe, oLtN, oLeN, nLt, nLe, nLtN, nLeN, hpos, hmx, hgc, hgl, hgl', hx, hxi, hs1, hs2, hf1, hf2, hf1', hf2', hm1, hA, hB, e1, e2, ht]
            exact hK
          simp only [List.drop_succ_cons, List.drop_zero]
          refine goD_ok (by decide) ?_
          delta p62_r10
          simp (disch := omega) [oLt, oLe, oLtN, oLeN, nLt, nLe, nLtN, nLeN, hpos, hmx, hgc, hgl, hgl', hx, hxi, hs1, hs2, hf1, hf2, hf1', hf2', hm1, hA, hB, e1, e2, ht]
          exact hQ _ _ (.fz [2] _ (.inl rfl) (by simp; rfl) (by simp) (by simp))
        | cons b B =>
          rw [hA, hB] at hL
          rw [hL] at hQ
          have hal : A.length ≤ 1000000 := by rw [hA, List.length_cons] at l1; omega
          have hbl : B.length ≤ 1000000 := by rw [hB, List.length_cons] at l2; omega
          have htt : List.take (A.length + 1 + (B.length + 1)) (vI a :: (ints A ++ vI b :: ints B)) = vI a :: (ints A ++ vI b :: ints B) := List.take_of_length_le (by simp; omega)
          refine XZ_seqG (XZ_drawG ?_)
          delta p62_r9
          refine zD_cut 4 ?_ ?_ (fun K_ hK => ?_) ?_
          rotate_left 2
          · simp only [List.take_succ_cons, List.take_zero]
            simp (disch := omega) [oLt, oLe, oLtN, oLeN, nLt, nLe, nLtN, nLeN, hpos, hmx, hgc, hgl, hgl', hx, hxi, hs1, hs2, hf1, hf2, hf1', hf2', hm1, hA, hB, e1, e2, ht, htt]
            exact hK
          simp only [List.drop_succ_cons, List.drop_zero]
          refine zD_cut 1 ?_ ?_ (fun K_ hK => ?_) ?_
          rotate_left 2
          · simp only [List.take_succ_cons, List.take_zero]
            simp (disch := omega) [oLt, oLe, oLtN, oLeN, nLt, nLe, nLtN, nLeN, hpos, hmx, hgc, hgl, hgl', hx, hxi, hs1, hs2, hf1, hf2, hf1', hf2', hm1, hA, hB, e1, e2, ht, htt]
            exact hK
          simp only [List.drop_succ_cons, List.drop_zero]
          refine zD_cut 1 ?_ ?_ (fun K_ hK => ?_) ?_
          rotate_left 2
          · simp only [List.take_succ_cons, List.take_zero]
            simp (disch := omega) [oLt, oLe, oLtN, oLeN, nLt, nLe, nLtN, nLeN, hpos, hmx, hgc, hgl, hgl', hx, hxi, hs1, hs2, hf1, hf2, hf1', hf2', hm1, hA, hB, e1, e2, ht, htt]
            exact hK
          simp only [List.drop_succ_cons, List.drop_zero]
          refine zD_cut 4 ?_ ?_ (fun K_ hK => ?_) ?_
          rotate_left 2
          · simp only [List.take_succ_cons, List.take_zero]
            simp (disch := omega) [oLt, oLe, oLtN, oLeN, nLt, nLe, nLtN, nLeN, hpos, hmx, hgc, hgl, hgl', hx, hxi, hs1, hs2, hf1, hf2, hf1', hf2', hm1, hA, hB, e1, e2, ht, htt]
            exact hK
          simp only [List.drop_succ_cons, List.drop_zero]
          refine zD_cut 3 ?_ ?_ (fun K_ hK => ?_) ?_
          rotate_left 2
          · simp only [List.take_succ_cons, List.take_zero]
            simp (disch := omega) [oLt, oLe, oLtN, oLeN, nLt, nLe, nLtN, nLeN, hpos, hmx, hgc, hgl, hgl', hx, hxi, hs1, hs2, hf1, hf2, hf1', hf2', hm1, hA, hB, e1, e2, ht, htt]
            exact hK
          simp only [List.drop_succ_cons, List.drop_zero]
          refine goD_ok (by decide) ?_
          delta p62_r10
          simp (disch := omega) [oLt, oLe, oLtN, oLeN, nLt, nLe, nLtN, nLeN, hpos, hmx, hgc, hgl, hgl', hx, hxi, hs1, hs2, hf1, hf2, hf1', hf2', hm1, hA, hB, e1, e2, ht, htt]
          exact hQ _ _ (.fz [2] _ (.inl rfl) (fzEnv1 (id := 21) (n := A.length + 1 + (B.length + 1) + 1) (M := vI a :: (ints A ++ vI b :: (ints B ++ [vI x]))) (by simp) (by simp) (by simp; omega) (by simp)) (by simp; omega) (by simp))
def s62k : Sp := s62 1001
@[simp] theorem s62k_g : s62k.g = 62 := rfl
@[simp] theorem s62k_f : s62k.f = (spT 62 [.l] fun (l : List Int) => res (small l && decide (l.length < 1001)) (.il (ints (lpF l)) (lpF l).length false)).f := rfl
theorem s62k_ok : s62k.ok Try.prog := s62_ok 1001
def ps2R : Nat → List Int → Nat → Option Nat
  | 0, _, _ => none
  | f + 1, l, n => if ascB l = true then some n else ps2R f (lpF l) (n + 1)
def ps2F (l : List Int) : Option Nat := ps2R (l.length + 1) l 0
theorem lpF_sml {l : List Int} (h : sml l = true) : sml (lpF l) = true := by simp [sml, lpF_len _ l (Nat.le_refl _)] at *; omega
def s77 : Sp := spT 77 [.l] fun (l : List Int) => res (sml l && (ps2F l).isSome) (vI ((ps2F l).getD 0))
@[simp] theorem s77_g : s77.g = 77 := rfl
@[simp] theorem s77_f : s77.f = (spT 77 [.l] fun (l : List Int) => res (sml l && (ps2F l).isSome) (vI ((ps2F l).getD 0))).f := rfl
theorem s77_ok : s77.ok Try.prog := by
  apply spT_ok
  simp only [OkT, Ty.all, List.nil_append, List.cons_append]
  intro (l : List Int) u
  apply okT_res; intro hg
  refine P77.rz (ss := [s99, s62k]) ⟨s99_ok, s62k_ok, trivial⟩ (by simp) fun Q hQ => ?_
  delta p77 p77_r0 p77_r1
  simp only [Bool.and_eq_true, Option.isSome_iff_exists] at hg
  obtain ⟨hs, m, hm⟩ := hg
  simp (disch := omega) [oLt, oLe, oLtN, oLeN, nLt, nLe, nLtN, nLeN]
  refine XZ_for (fun p : Nat × List Int × Nat × Bool => ⟨[(0, .il (ints p.2.1) p.2.1.length p.2.2.2), (3, vI p.2.2.1)], [], 0⟩) (fun p => p.1) (fun p => sml p.2.1 = true ∧ p.1 + p.2.2.1 ≤ 1001 ∧ ps2R p.1 p.2.1 p.2.2.1 = some m) (l.length + 1, l, 0, u) ⟨hs, by simp [sml] at hs; simp only; omega, hm⟩ (.to [] (by simp)) ?_
  rintro ⟨f, L, n, v⟩ ⟨h1, h2, hinv⟩ N Q' hN hE
  simp only at h1 h2 hinv ⊢
  have h1' := small_of_sml h1
  have h1'' : L.length < 1001 := by simp [sml] at h1; omega
  rcases f with _ | f
  · simp [ps2R] at hinv
  simp only [ps2R] at hinv
  cases hb : ascB L with
  | true =>
    rw [if_pos hb] at hinv
    cases hinv
    delta p77_l0 p77_r2 p77_r3 p77_r4
    simp (disch := omega) [oLt, oLe, oLtN, oLeN, nLt, nLe, nLtN, nLeN, h1', hb]
    refine hE _ _ _ .refl ?_
    delta p77_r5
    simp (disch := omega) [oLt, oLe, oLtN, oLeN, nLt, nLe, nLtN, nLeN]
    exact hQ _ _ (.p (.inl rfl) (by simp [hm]) rfl)
  | false =>
    rw [if_neg (by simp [hb])] at hinv
    delta p77_l0 p77_r2 p77_r3 p77_r4
    simp (disch := omega) [oLt, oLe, oLtN, oLeN, nLt, nLe, nLtN, nLeN, h1', h1'', hb]
    exact hN _ (f, lpF L, n + 1, false) (by simp) ⟨lpF_sml h1, by simp only; omega, hinv⟩ (.to [] (by simp))
end
section
set_option maxRecDepth 4000
set_option maxHeartbeats 20000000
def brB (l : List Int) (i j k : Nat) : Bool := decide (l.getD k 0 < l.getD i 0) && decide (l.getD i 0 < l.getD j 0)
/-! ### The first three places that bar an order -/
def bK (l : List Int) (i j : Nat) : Nat → Nat → Option Nat
  | 0, _ => none
  | f + 1, k => if brB l i j k = true then some k else bK l i j f (k + 1)
def bJ (l : List Int) (i : Nat) : Nat → Nat → Option (Nat × Nat)
  | 0, _ => none
  | f + 1, j => match bK l i j (l.length - (j + 1)) (j + 1) with
    | some k => some (j, k)
    | none => bJ l i f (j + 1)
def bI (l : List Int) : Nat → Nat → Option (Nat × Nat × Nat)
  | 0, _ => none
  | f + 1, i => match bJ l i (l.length - (i + 1)) (i + 1) with
    | some (j, k) => some (i, j, k)
    | none => bI l f (i + 1)
def brF (l : List Int) : Option (Nat × Nat × Nat) := bI l l.length 0
end
section
set_option maxRecDepth 4000
set_option maxHeartbeats 20000000
def lsR (x : Int) : List Int → Int → Int
  | [], _ => -1
  | y :: r, i => if y < x then i else lsR x r (i + 1)
def lsF (l : List Int) (x : Int) : Int := lsR x l 0
def wJ (l : List Int) (x : Int) : Nat → Nat → Option (Nat × Nat)
  | 0, _ => none
  | f + 1, j => if l.getD j 0 < x then wJ l x f (j + 1) else if 0 ≤ lsF (l.drop j) x then some (j, j + (lsF (l.drop j) x).toNat) else wJ l x f (j + 1)
def wI (l : List Int) : Nat → Nat → Option (Nat × Nat × Nat)
  | 0, _ => none
  | f + 1, i => match wJ l (l.getD i 0) (l.length - (i + 1)) (i + 1) with
    | some (j, k) => some (i, j, k)
    | none => wI l f (i + 1)
def wyF (l : List Int) : Option (Nat × Nat × Nat) := wI l l.length 0
end
section
set_option maxRecDepth 100000
def tlG : Nat → List Nat → Nat
  | 0, _ => 0
  | n + 1, l => match l with
    | [] => 0
    | x :: r => cond (Nat.beq x n) (tlG n r + 1) 0
def ck1 (m p : List Nat) (n t : Nat) : Bool := eqN p (lpN 7 m) && chkN n p && Nat.ble (min n (t + 1)) (tlG n p.reverse) && (!srtN m || eqN p m) && (Nat.blt t (n - 1) || srtN m)
def ck (m : List Nat) : Bool := ck1 m (psdN m) m.length (tlG m.length m.reverse)
theorem ck0 : (perN 0).all ck = true := by kernel_rfl
theorem ck1p : (perN 1).all ck = true := by kernel_rfl
theorem ck2 : (perN 2).all ck = true := by kernel_rfl
theorem ck3 : (perN 3).all ck = true := by kernel_rfl
theorem ck4 : (perN 4).all ck = true := by kernel_rfl
theorem ck5 : (perN 5).all ck = true := by kernel_rfl
theorem ck6 : (perN 6).all ck = true := by kernel_rfl
theorem ck70 : (allN 6 [1, 2, 3, 4, 5, 6] [0]).all ck = true := by kernel_rfl
end
section
set_option maxRecDepth 100000
theorem ck71 : (allN 6 [0, 2, 3, 4, 5, 6] [1]).all ck = true := by kernel_rfl
theorem ck72 : (allN 6 [0, 1, 3, 4, 5, 6] [2]).all ck = true := by kernel_rfl
theorem ck73 : (allN 6 [0, 1, 2, 4, 5, 6] [3]).all ck = true := by kernel_rfl
end
section
set_option maxRecDepth 100000
theorem ck74 : (allN 6 [0, 1, 2, 3, 5, 6] [4]).all ck = true := by kernel_rfl
theorem ck75 : (allN 6 [0, 1, 2, 3, 4, 6] [5]).all ck = true := by kernel_rfl
theorem ck76 : (allN 6 [0, 1, 2, 3, 4, 5] [6]).all ck = true := by kernel_rfl
end
section
set_option maxRecDepth 100000
theorem per7 {p : List Nat → Bool} (h0 : (allN 6 [1, 2, 3, 4, 5, 6] [0]).all p = true) (h1 : (allN 6 [0, 2, 3, 4, 5, 6] [1]).all p = true) (h2 : (allN 6 [0, 1, 3, 4, 5, 6] [2]).all p = true) (h3 : (allN 6 [0, 1, 2, 4, 5, 6] [3]).all p = true)
    (h4 : (allN 6 [0, 1, 2, 3, 5, 6] [4]).all p = true) (h5 : (allN 6 [0, 1, 2, 3, 4, 6] [5]).all p = true) (h6 : (allN 6 [0, 1, 2, 3, 4, 5] [6]).all p = true) : (perN 7).all p = true := by
  have e : perN 7 = (List.range 7).flatMap fun k => allN 6 ((List.range 7).eraseIdx k) ([] ++ [(List.range 7).getD k 0]) := rfl
  rw [e, List.all_flatMap, List.all_eq_true]
  intro k hk
  have hk' : k < 7 := List.mem_range.1 hk
  have : k = 0 ∨ k = 1 ∨ k = 2 ∨ k = 3 ∨ k = 4 ∨ k = 5 ∨ k = 6 := by omega
  rcases this with rfl | rfl | rfl | rfl | rfl | rfl | rfl
  · exact h0
  · exact h1
  · exact h2
  · exact h3
  · exact h4
  · exact h5
  · exact h6
theorem ckA : ∀ n, n < 8 → (perN n).all ck = true := by
  intro n hn
  have : n = 0 ∨ n = 1 ∨ n = 2 ∨ n = 3 ∨ n = 4 ∨ n = 5 ∨ n = 6 ∨ n = 7 := by omega
  rcases this with rfl | rfl | rfl | rfl | rfl | rfl | rfl | rfl
  · exact ck0
  · exact ck1p
  · exact ck2
  · exact ck3
  · exact ck4
  · exact ck5
  · exact ck6
  · exact per7 ck70 ck71 ck72 ck73 ck74 ck75 ck76
theorem tlG_at : ∀ (n : Nat) (l : List Nat) (i : Nat), l.length = n → i ≤ tlG n l → ∀ x, n - i ≤ x → x < n → l.reverse[x]? = some x
  | 0, l, i, _, _, x, _, hx => by omega
  | n + 1, [], i, h, _, x, _, hx => by simp at h
  | n + 1, y :: r, i, h, hi, x, h1, h2 => by
    simp only [tlG] at hi
    by_cases e : y = n
    · subst e
      have hb : Nat.beq y y = true := beq_iff.2 rfl
      rw [hb] at hi
      simp only [cond_true] at hi
      have hr : r.length = y := by simpa using h
      by_cases hxy : x = y
      · subst hxy
        rw [List.reverse_cons, List.getElem?_append_right (by simp; omega)]
        simp [hr]
      · have := tlG_at y r (i - 1) hr (by omega) x (by omega) (by omega)
        rw [List.reverse_cons, List.getElem?_append_left (by simp; omega)]
        exact this
    · have hb : Nat.beq y n = false := by
        cases h' : Nat.beq y n
        · rfl
        · exact absurd (beq_iff.1 h') e
      rw [hb] at hi
      simp only [cond_false] at hi
      omega
def Tl (l : List Int) (i : Nat) : Prop := ∀ x : Nat, l.length - i ≤ x → x < l.length → l[x]? = some (x : Int)
def tlI (l : List Int) : Nat := tlG l.length (l.map Int.toNat).reverse
theorem toNat_zs (m : List Nat) : (zs m).map Int.toNat = m := by simp [zs, Function.comp_def]
theorem zs_get (m : List Nat) (x : Nat) : (zs m)[x]? = (m[x]?).map fun (n : Nat) => (n : Int) := by simp [zs]
structure CkF (l : List Int) : Prop where
  lp : lpF l = psd l
  ok : chkF (psd l) = 0
  len : (psd l).length = l.length
  fix : srtB l = true → psd l = l
  up : min l.length (tlI l + 1) ≤ tlI (psd l)
  srt : l.length - 1 ≤ tlI l → srtB l = true
  tl : ∀ i, i ≤ tlI l → Tl l i
theorem ck_facts {l : List Int} (h : chkF l = 0) : CkF l := by
  obtain ⟨m, rfl, hm⟩ := per_all ckA h
  have hl := chkF_len h
  rw [zs_len] at hl
  simp only [ck, ck1, Bool.and_eq_true, Bool.or_eq_true, Bool.not_eq_true', Nat.ble_eq] at hm
  obtain ⟨⟨⟨⟨h1, h2⟩, h3⟩, h4⟩, h5⟩ := hm
  have e1 := eqN_eq h1
  have hlen : (psdN m).length = m.length := by
    have := lpF_len _ (zs m) (Nat.le_refl _)
    rw [lpN_eq 7 m hl.2, ← e1] at this
    simpa using this
  have et : tlI (zs m) = tlG m.length m.reverse := by unfold tlI; rw [toNat_zs, zs_len]
  have ep : tlI (psd (zs m)) = tlG m.length (psdN m).reverse := by unfold tlI; rw [psdN_eq, toNat_zs, zs_len, hlen]
  refine ⟨by rw [lpN_eq 7 m hl.2, psdN_eq, e1], ?_, by rw [psdN_eq]; simp [hlen], fun hs => ?_, by rw [zs_len, et, ep]; exact h3, fun ht => ?_, fun i hi x h1 h2 => ?_⟩
  · rw [psdN_eq]
    exact chkN_F (by omega) (by omega) (by rw [hlen]; exact h2)
  · rw [srtN_eq] at hs
    rcases h4 with h4 | h4
    · rw [hs] at h4; cases h4
    · rw [psdN_eq, eqN_eq h4]
  · rw [zs_len, et] at ht
    rw [srtN_eq]
    rcases h5 with h5 | h5
    · have := blt_iff.1 h5; omega
    · exact h5
  · rw [et] at hi
    rw [zs_len] at h1 h2
    have := tlG_at m.length m.reverse i (by simp) hi x h1 h2
    rw [List.reverse_reverse] at this
    rw [zs_get, this]; rfl
def itP : Nat → List Int → List Int
  | 0, l => l
  | i + 1, l => itP i (psd l)
theorem itP_succ : ∀ (i : Nat) (l : List Int), itP (i + 1) l = psd (itP i l)
  | 0, l => rfl
  | i + 1, l => by rw [itP, itP_succ i, itP]
theorem it_facts {l : List Int} (h : chkF l = 0) : ∀ i, chkF (itP i l) = 0 ∧ (itP i l).length = l.length ∧ min l.length i ≤ tlI (itP i l)
  | 0 => ⟨h, rfl, by simp⟩
  | i + 1 => by
    obtain ⟨h1, h2, h3⟩ := it_facts h i
    have c := ck_facts h1
    rw [itP_succ]
    refine ⟨c.ok, by rw [c.len, h2], ?_⟩
    have := c.up
    rw [h2] at this
    omega
theorem it_srt {l : List Int} (h : chkF l = 0) {i : Nat} (hi : l.length - 1 ≤ i) : srtB (itP i l) = true := by
  obtain ⟨h1, h2, h3⟩ := it_facts h i
  have := (chkF_len h).1
  exact (ck_facts h1).srt (by rw [h2]; omega)
theorem it_fix {l : List Int} (h : chkF l = 0) {i : Nat} (hs : srtB (itP i l) = true) : ∀ j, i ≤ j → itP j l = itP i l
  | 0, hj => by
    have : i = 0 := by omega
    rw [this]
  | j + 1, hj => by
    by_cases e : i = j + 1
    · rw [e]
    · have ih := it_fix h hs j (by omega)
      rw [itP_succ, ih]
      exact (ck_facts (it_facts h i).1).fix hs
theorem pssR_least {k : Nat} : ∀ (f n : Nat) (l : List Int), k < f → srtB (itP k l) = true → (∀ i, i < k → srtB (itP i l) = false) → pssR f l n = some (n + k) := by
  induction k with
  | zero =>
    intro f n l hf hs hm
    obtain ⟨f, rfl⟩ : ∃ g, f = g + 1 := ⟨f - 1, by omega⟩
    rw [itP] at hs
    rw [pssR, if_pos hs]; rfl
  | succ k ih =>
    intro f n l hf hs hm
    obtain ⟨f, rfl⟩ : ∃ g, f = g + 1 := ⟨f - 1, by omega⟩
    have h0 := hm 0 (by omega)
    rw [pssR, if_neg (by rw [itP] at h0; simp [h0])]
    rw [ih f (n + 1) (psd l) (by omega) hs (fun i hi => hm (i + 1) (by omega))]
    congr 1; omega
theorem least {p : Nat → Bool} : ∀ n, p n = true → ∃ k, k ≤ n ∧ p k = true ∧ ∀ i, i < k → p i = false := by
  intro n
  induction n using Nat.strongRecOn with
  | ind n ih =>
    intro hn
    by_cases h : ∃ i, i < n ∧ p i = true
    · obtain ⟨i, h1, h2⟩ := h
      obtain ⟨k, h3, h4, h5⟩ := ih i h1 h2
      exact ⟨k, by omega, h4, h5⟩
    · refine ⟨n, Nat.le_refl _, hn, fun i hi => ?_⟩
      cases hp : p i
      · rfl
      · exact absurd ⟨i, hi, hp⟩ h
theorem pss_facts {l : List Int} (h : chkF l = 0) : ∃ k, pssF l = some k ∧ k ≤ l.length - 1 ∧ ∀ i, srtB (itP i l) = decide (k ≤ i) := by
  obtain ⟨k, hle, hk, hmin'⟩ := least (p := fun i => srtB (itP i l)) _ (it_srt h (Nat.le_refl _))
  have := (chkF_len h).1
  refine ⟨k, ?_, hle, fun i => ?_⟩
  · unfold pssF
    rw [pssR_least (l.length + 1) 0 l (by omega) hk hmin', Nat.zero_add]
  · by_cases hi : k ≤ i
    · rw [it_fix h hk i hi, hk]; simp [hi]
    · rw [hmin' i (by omega)]; simp [hi]
end
section
set_option maxRecDepth 100000
def eqO : Option (Nat × Nat × Nat) → Option (Nat × Nat × Nat) → Bool
  | none, none => true
  | some (a, b, c), some (x, y, z) => Nat.beq a x && Nat.beq b y && Nat.beq c z
  | _, _ => false
theorem eqO_eq : ∀ {a b : Option (Nat × Nat × Nat)}, eqO a b = true → a = b
  | none, none, _ => rfl
  | some (a, b, c), some (x, y, z), h => by
    simp only [eqO, Bool.and_eq_true, Nat.beq_eq] at h
    rw [h.1.1, h.1.2, h.2]
def eqB : Bool → Bool → Bool
  | true, b => b
  | false, b => !b
theorem eqB_eq : ∀ {a b : Bool}, eqB a b = true → a = b
  | true, true, _ => rfl
  | false, false, _ => rfl
def ckbo (m : List Nat) (b : Option (Nat × Nat × Nat)) (l : List Int) : Bool := eqO (wyF l) b && eqB (srtN (psdN m)) b.isNone && eqB (srtN m) (ascB l)
def ckb (m : List Nat) : Bool := ckbo m (brF (zs m)) (zs m)
end
section
set_option maxRecDepth 100000
theorem kb0 : (perN 0).all ckb = true := by kernel_rfl
theorem kb1 : (perN 1).all ckb = true := by kernel_rfl
theorem kb2 : (perN 2).all ckb = true := by kernel_rfl
theorem kb3 : (perN 3).all ckb = true := by kernel_rfl
theorem kb4 : (perN 4).all ckb = true := by kernel_rfl
theorem kb5 : (perN 5).all ckb = true := by kernel_rfl
theorem kb6 : (perN 6).all ckb = true := by kernel_rfl
theorem kb70 : (allN 6 [1, 2, 3, 4, 5, 6] [0]).all ckb = true := by kernel_rfl
theorem kb71 : (allN 6 [0, 2, 3, 4, 5, 6] [1]).all ckb = true := by kernel_rfl
theorem kb72 : (allN 6 [0, 1, 3, 4, 5, 6] [2]).all ckb = true := by kernel_rfl
end
section
set_option maxRecDepth 100000
theorem kb73 : (allN 6 [0, 1, 2, 4, 5, 6] [3]).all ckb = true := by kernel_rfl
theorem kb74 : (allN 6 [0, 1, 2, 3, 5, 6] [4]).all ckb = true := by kernel_rfl
theorem kb75 : (allN 6 [0, 1, 2, 3, 4, 6] [5]).all ckb = true := by kernel_rfl
theorem kb76 : (allN 6 [0, 1, 2, 3, 4, 5] [6]).all ckb = true := by kernel_rfl
end
section
set_option maxRecDepth 100000
theorem ckbA : ∀ n, n < 8 → (perN n).all ckb = true := by
  intro n hn
  have : n = 0 ∨ n = 1 ∨ n = 2 ∨ n = 3 ∨ n = 4 ∨ n = 5 ∨ n = 6 ∨ n = 7 := by omega
  rcases this with rfl | rfl | rfl | rfl | rfl | rfl | rfl | rfl
  · exact kb0
  · exact kb1
  · exact kb2
  · exact kb3
  · exact kb4
  · exact kb5
  · exact kb6
  · exact per7 kb70 kb71 kb72 kb73 kb74 kb75 kb76
theorem ck2_facts {l : List Int} (h : chkF l = 0) : srtB (psd l) = (brF l).isNone ∧ wyF l = brF l ∧ srtB l = ascB l := by
  obtain ⟨m, rfl, hm⟩ := per_all ckbA h
  simp only [ckb, ckbo, Bool.and_eq_true] at hm
  obtain ⟨⟨h1, h2⟩, h3⟩ := hm
  exact ⟨by rw [psdN_eq, srtN_eq, eqB_eq h2], eqO_eq h1, by rw [srtN_eq, eqB_eq h3]⟩
theorem ps2R_eq : ∀ (f : Nat) (l : List Int) (n : Nat), chkF l = 0 → ps2R f l n = pssR f l n
  | 0, l, n, _ => rfl
  | f + 1, l, n, h => by
    have c := ck_facts h
    rw [ps2R, pssR, ← (ck2_facts h).2.2, c.lp, ps2R_eq f (psd l) (n + 1) c.ok]
theorem sorts_facts {l : List Int} (h : chkF l = 0) : srtB (psd l) = (brF l).isNone ∧ wyF l = brF l ∧ ∀ x, pssF l = some x → ps2F l = some x := by
  obtain ⟨h1, h2, h3⟩ := ck2_facts h
  refine ⟨h1, h2, fun x hx => ?_⟩
  unfold ps2F
  rw [ps2R_eq _ _ _ h]
  exact hx
end
end Go.Sx.Lk
