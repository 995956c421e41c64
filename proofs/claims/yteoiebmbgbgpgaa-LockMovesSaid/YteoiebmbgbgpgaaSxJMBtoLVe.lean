/- What functions of the document's lock layer return: a pass, how many are needed. No conditions. -/
import Derived.Test.YteoiebmbgbgpgaaSxJMAtoMO
import Derived.Test.YteoiebmbgbgpgaaSxJMItoLQ
import Derived.Test.YteoiebmbgbgpgaaSxJSttoSd
import Derived.KernelRfl
set_option linter.unusedVariables false
set_option linter.unusedSimpArgs false
namespace Go.Sx.Lk
open Go Go.Sx Go.Proofs
section
set_option maxRecDepth 4000
set_option maxHeartbeats 20000000
theorem fzEnv1 {h : HL} {e : List (Nat × AV)} {t id n : Nat} {M : List AV} (he : enF e t = .ref id 0 n 1 none) (h1 : hpF h id = some (.cells M)) (h2 : M.length = n) (h3 : cloL M = true) : fzEnv h e [t] = some [(t, .il M n false)] := by
  have ht : M.take n = M := List.take_of_length_le (by omega)
  simp [fzEnv, he, frzArg, h1, h2, h3, ht]
/-! ### The document's pass -/
theorem idxR_first {x : Int} : ∀ {l : List Int} {g : Nat} {i : Int}, l[g]? = some x → (∀ j : Nat, j < g → l[j]? ≠ some x) → idxR x l i = i + g
  | [], g, i, h, _ => by simp at h
  | y :: r, 0, i, h, _ => by
    simp at h
    simp [idxR, h]
  | y :: r, g + 1, i, h, hn => by
    have h0 := hn 0 (by omega)
    simp only [List.getElem?_cons_zero, ne_eq, Option.some.injEq] at h0
    simp only [idxR]
    rw [if_neg h0, idxR_first (l := r) (g := g) (by simpa using h) (fun j hj => by have := hn (j + 1) (by omega); simpa using this)]
    omega
structure Gr (l : List Int) (i g : Nat) (x : Int) : Prop where
  at_ : l[g]? = some x
  fst : ∀ (j : Nat) y, j < g → l[j]? = some y → y < x
  le : ∀ (j : Nat) y, j < i → l[j]? = some y → y ≤ x
  max : mxR x (l.drop i) = mxL l
def s62 (f : Nat) : Sp := spT 62 [.l] fun (l : List Int) => res (small l && decide (l.length < f)) (.il (ints (lpF l)) (lpF l).length false)
@[simp] theorem s62_g (f : Nat) : (s62 f).g = 62 := rfl
@[simp] theorem s62_f (f : Nat) : (s62 f).f = (spT 62 [.l] fun (l : List Int) => res (small l && decide (l.length < f)) (.il (ints (lpF l)) (lpF l).length false)).f := rfl
theorem s62_ok : ∀ f : Nat, (s62 f).ok Try.prog
  | 0 => by
    apply spT_ok
    simp only [OkT, Ty.all, List.nil_append, List.cons_append]
    intro l u
    apply okT_res
    intro hg
    simp at hg
  | f + 1 => by
    have ih := s62_ok f
    apply spT_ok
    simp only [OkT, Ty.all, List.nil_append, List.cons_append]
    intro (l : List Int) u
    apply okT_res
    intro hg
    simp only [small, Bool.and_eq_true, decide_eq_true_eq] at hg
    obtain ⟨hsm, hf⟩ := hg
    refine P62.rz (ss := [s62 f]) ⟨ih, trivial⟩ (by simp) fun Q hQ => ?_
    rcases l with _ | ⟨x0, l0⟩
    · rw [lpF_nil] at hQ
      delta p62 p62_r0 p62_r1 p62_r2 p62_r3 p62_r4
      simp (disch := omega) [oLt, oLe, oLtN, oLeN, nLt, nLe, nLtN, nLeN]
      exact hQ _ _ (.fz [2] _ (.inl rfl) (by simp; rfl) (by simp) (by simp))
    obtain ⟨l, hl⟩ : ∃ l, x0 :: l0 = l := ⟨_, rfl⟩
    have hne : l ≠ [] := by rw [← hl]; simp
    have hl0 : l[0]? = some x0 := by rw [← hl]; rfl
    have hmx0 : mxR x0 (l.drop 0) = mxL l := by rw [← hl]; simp [mxL, mxR]
    rw [hl] at hQ hsm hf ⊢
    clear hl
    have hpos : ¬ (l.length : Int) = 0 := by have := List.length_pos_iff.2 hne; omega
    have hpos' : 0 < l.length := List.length_pos_iff.2 hne
    delta p62 p62_r0 p62_r1 p62_r2 p62_r3 p62_r4
    simp (disch := omega) [oLt, oLe, oLtN, oLeN, nLt, nLe, nLtN, nLeN, hpos, hne]
    refine XZ_for (fun p : Nat × Nat => ⟨[(0, .il (ints l) l.length u), (3, vI p.2), (4, vI p.1)], [], 0⟩) (fun p => l.length - p.1) (fun p => p.1 ≤ l.length ∧ ∃ x, Gr l p.1 p.2 x) (0, 0) ⟨by simp, x0, hl0, fun j y hj => by omega, fun j y hj => by omega, hmx0⟩ (.to [] (by simp)) ?_
    rintro ⟨i, g⟩ ⟨hi, x, hx, hfst, hle, hmax⟩ N Q' hN hE
    simp only at hi hx hfst hle hmax ⊢
    have hgl : g < l.length := (List.getElem?_eq_some_iff.1 hx).1
    have hgc : (g : Int) < l.length := by omega
    have hxi := (List.getElem?_eq_some_iff.1 hx).2
    rcases Nat.lt_or_ge i l.length with h | h
    · have hic : (i : Int) < l.length := by omega
      obtain ⟨y, r, e1, e2, e3, e4, e5⟩ := drop_split h
      rw [e1] at hmax
      simp only [mxR] at hmax
      by_cases hxy : x < y
      · rw [if_pos hxy] at hmax
        delta p62_l0 p62_r5 p62_r6 p62_r7 p62_r8
        simp (disch := omega) [oLt, oLe, oLtN, oLeN, nLt, nLe, nLtN, nLeN, hic, h, e2, e3, hgl, hgc, hx, hxi, hxy]
        exact hN _ (i + 1, i) (by simp only; omega) ⟨h, y, e2, fun j z hj hz => by have := hle j z hj hz; omega, fun j z hj hz => by
          rcases Nat.lt_or_ge j i with h1 | h1
          · have := hle j z h1 hz; omega
          · obtain rfl : j = i := by omega
            rw [e2] at hz; cases hz; exact Int.le_refl _, by simp only [e4]; exact hmax⟩ (.to [] (by simp))
      · rw [if_neg hxy] at hmax
        delta p62_l0 p62_r5 p62_r6 p62_r7 p62_r8
        simp (disch := omega) [oLt, oLe, oLtN, oLeN, nLt, nLe, nLtN, nLeN, hic, h, e2, e3, hgl, hgc, hx, hxi, hxy]
        exact hN _ (i + 1, g) (by simp only; omega) ⟨h, x, hx, hfst, fun j z hj hz => by
          rcases Nat.lt_or_ge j i with h1 | h1
          · exact hle j z h1 hz
          · obtain rfl : j = i := by omega
            rw [e2] at hz; cases hz; omega, by simp only [e4]; exact hmax⟩ (.to [] (by simp))
    · obtain rfl : i = l.length := by omega
      have hic : ¬ (l.length : Int) < l.length := by omega
      rw [List.drop_eq_nil_of_le (Nat.le_refl _)] at hmax
      simp only [mxR] at hmax
      have hmx : mxL l = x := hmax.symm
      have hi : idxL l (mxL l) = g := by
        rw [hmx]; unfold idxL
        rw [idxR_first hx (fun j hj h => by have := hfst j x hj h; omega)]; omega
      have hL := lpF_step hne hi hgl
      rw [hmx] at hL
      have hs1 : small (l.take g) = true := by simp [small]; omega
      have hs2 : small (l.drop (g + 1)) = true := by simp [small]; omega
      have hf1 : (l.take g).length < f := by simp; omega
      have hf2 : (l.drop (g + 1)).length < f := by simp; omega
      have hm1 : min g l.length = g := by omega
      have l1 := lpF_len _ (l.take g) (Nat.le_refl _)
      have l2 := lpF_len _ (l.drop (g + 1)) (Nat.le_refl _)
      rw [List.length_take, hm1] at l1
      rw [List.length_drop] at l2
      have hf1' : g < f := by omega
      have hf2' : l.length - (g + 1) < f := by omega
      have e1 : (g : Int) + 1 ≤ 9223372036854775807 := by omega
      have e2 : ((g : Int) + 1).toNat = g + 1 := by omega
      have hgl' : g ≤ l.length := by omega
      have ht : List.take (l.length - (g + 1)) (List.drop (g + 1) l) = List.drop (g + 1) l := List.take_of_length_le (by simp)
      delta p62_l0 p62_r5 p62_r6 p62_r7 p62_r8
      simp (disch := omega) [oLt, oLe, oLtN, oLeN, nLt, nLe, nLtN, nLeN, hic]
      refine hE _ _ _ .refl ?_
      cases hA : lpF (l.take g) with
      | nil =>
        cases hB : lpF (l.drop (g + 1)) with
        | nil =>
          rw [hA, hB] at hL
          rw [hL] at hQ
          refine XZ_seqG (XZ_drawG ?_)
          delta p62_r9
          refine zD_cut 4 ?_ ?_ (fun K_ hK => ?_) ?_
          rotate_left 2
          · simp only [List.take_succ_cons, List.take_zero]
            simp (disch := omega) [oLt, oLe, oLtN, oLeN, nLt, nLe, nLtN, nLeN, hpos, hmx, hgc, hgl, hgl', hx, hxi, hs1, hs2, hf1, hf2, hf1', hf2', hm1, hA, hB, e1, e2, ht]
            exact hK
          simp only [List.drop_succ_cons, List.drop_zero]
          refine zD_cut 1 ?_ ?_ (fun K_ hK => ?_) ?_
          rotate_left 2
          · simp only [List.take_succ_cons, List.take_zero]
            simp (disch := omega) [oLt, oLe, oLtN, oLeN, nLt, nLe, nLtN, nLeN, hpos, hmx, hgc, hgl, hgl', hx, hxi, hs1, hs2, hf1, hf2, hf1', hf2', hm1, hA, hB, e1, e2, ht]
            exact hK
          simp only [List.drop_succ_cons, List.drop_zero]
          refine zD_cut 1 ?_ ?_ (fun K_ hK => ?_) ?_
          rotate_left 2
          · simp only [List.take_succ_cons, List.take_zero]
            simp (disch := omega) [oLt, oLe, oLtN, oLeN, nLt, nLe, nLtN, nLeN, hpos, hmx, hgc, hgl, hgl', hx, hxi, hs1, hs2, hf1, hf2, hf1', hf2', hm1, hA, hB, e1, e2, ht]
            exact hK
          simp only [List.drop_succ_cons, List.drop_zero]
          refine zD_cut 4 ?_ ?_ (fun K_ hK => ?_) ?_
          rotate_left 2
          · simp only [List.take_succ_cons, List.take_zero]
            simp (disch := omega) [oLt, oLe, oLtN, oLeN, nLt, nLe, nLtN, nLeN, hpos, hmx, hgc, hgl, hgl', hx, hxi, hs1, hs2, hf1, hf2, hf1', hf2', hm1, hA, hB, e1, e2, ht]
            exact hK
          simp only [List.drop_succ_cons, List.drop_zero]
          refine zD_cut 3 ?_ ?_ (fun K_ hK => ?_) ?_
          rotate_left 2
          · simp only [List.take_succ_cons, List.take_zero]
            simp (disch := omega) [oLt, oLe, oLtN, oLeN, nLt, nLe, nLtN, nLeN, hpos, hmx, hgc, hgl, hgl', hx, hxi, hs1, hs2, hf1, hf2, hf1', hf2', hm1, hA, hB, e1, e2, ht]
            exact hK
          simp only [List.drop_succ_cons, List.drop_zero]
          refine goD_ok (by decide) ?_
          delta p62_r10
          simp (disch := omega) [oLt, oLe, oLtN, oLeN, nLt, nLe, nLtN, nLeN, hpos, hmx, hgc, hgl, hgl', hx, hxi, hs1, hs2, hf1, hf2, hf1', hf2', hm1, hA, hB, e1, e2, ht]
          exact hQ _ _ (.fz [2] _ (.inl rfl) (by simp; rfl) (by simp) (by simp))
        | cons b B =>
          rw [hA, hB] at hL
          rw [hL] at hQ
          have hbl : B.length ≤ 1000000 := by rw [hB, List.length_cons] at l2; omega
          refine XZ_seqG (XZ_drawG ?_)
          delta p62_r9
          refine zD_cut 4 ?_ ?_ (fun K_ hK => ?_) ?_
          rotate_left 2
          · simp only [List.take_succ_cons, List.take_zero]
            simp (disch := omega) [oLt, oLe, oLtN, oLeN, nLt, nLe, nLtN, nLeN, hpos, hmx, hgc, hgl, hgl', hx, hxi, hs1, hs2, hf1, hf2, hf1', hf2', hm1, hA, hB, e1, e2, ht]
            exact hK
          simp only [List.drop_succ_cons, List.drop_zero]
          refine zD_cut 1 ?_ ?_ (fun K_ hK => ?_) ?_
          rotate_left 2
          · simp only [List.take_succ_cons, List.take_zero]
            simp (disch := omega) [oLt, oLe, oLtN, oLeN, nLt, nLe, nLtN, nLeN, hpos, hmx, hgc, hgl, hgl', hx, hxi, hs1, hs2, hf1, hf2, hf1', hf2', hm1, hA, hB, e1, e2, ht]
            exact hK
          simp only [List.drop_succ_cons, List.drop_zero]
          refine zD_cut 1 ?_ ?_ (fun K_ hK => ?_) ?_
          rotate_left 2
          · simp only [List.take_succ_cons, List.take_zero]
            simp (disch := omega) [oLt, oLe, oLtN, oLeN, nLt, nLe, nLtN, nLeN, hpos, hmx, hgc, hgl, hgl', hx, hxi, hs1, hs2, hf1, hf2, hf1', hf2', hm1, hA, hB, e1, e2, ht]
            exact hK
          simp only [List.drop_succ_cons, List.drop_zero]
          refine zD_cut 4 ?_ ?_ (fun K_ hK => ?_) ?_
          rotate_left 2
          · simp only [List.take_succ_cons, List.take_zero]
            simp (disch := omega) [oLt, oLe, oLtN, oLeN, nLt, nLe, nLtN, nLeN, hpos, hmx, hgc, hgl, hgl', hx, hxi, hs1, hs2, hf1, hf2, hf1', hf2', hm1, hA, hB, e1, e2, ht]
            exact hK
          simp only [List.drop_succ_cons, List.drop_zero]
          refine zD_cut 3 ?_ ?_ (fun K_ hK => ?_) ?_
          rotate_left 2
          · simp only [List.take_succ_cons, List.take_zero]
            simp (disch := omega) [oLt, oLe, oLtN, oLeN, nLt, nLe, nLtN, nLeN, hpos, hmx, hgc, hgl, hgl', hx, hxi, hs1, hs2, hf1, hf2, hf1', hf2', hm1, hA, hB, e1, e2, ht]
            exact hK
          simp only [List.drop_succ_cons, List.drop_zero]
          refine goD_ok (by decide) ?_
          delta p62_r10
          simp (disch := omega) [oLt, oLe, oLtN, oLeN, nLt, nLe, nLtN, nLeN, hpos, hmx, hgc, hgl, hgl', hx, hxi, hs1, hs2, hf1, hf2, hf1', hf2', hm1, hA, hB, e1, e2, ht]
          exact hQ _ _ (.fz [2] _ (.inl rfl) (by simp; rfl) (by simp) (by simp))
      | cons a A =>
        cases hB : lpF (l.drop (g + 1)) with
        | nil =>
          rw [hA, hB] at hL
          rw [hL] at hQ
          have hal : A.length ≤ 1000000 := by rw [hA, List.length_cons] at l1; omega
          refine XZ_seqG (XZ_drawG ?_)
          delta p62_r9
          refine zD_cut 4 ?_ ?_ (fun K_ hK => ?_) ?_
          rotate_left 2
          · simp only [List.take_succ_cons, List.take_zero]
            simp (disch := omega) [oLt, oLe, oLtN, oLeN, nLt, nLe, nLtN, nLeN, hpos, hmx, hgc, hgl, hgl', hx, hxi, hs1, hs2, hf1, hf2, hf1', hf2', hm1, hA, hB, e1, e2, ht]
            exact hK
          simp only [List.drop_succ_cons, List.drop_zero]
          refine zD_cut 1 ?_ ?_ (fun K_ hK => ?_) ?_
          rotate_left 2
          · simp only [List.take_succ_cons, List.take_zero]
            simp (disch := omega) [oLt, oLe, oLtN, oLeN, nLt, nLe, nLtN, nLeN, hpos, hmx, hgc, hgl, hgl', hx, hxi, hs1, hs2, hf1, hf2, hf1', hf2', hm1, hA, hB, e1, e2, ht]
            exact hK
          simp only [List.drop_succ_cons, List.drop_zero]
          refine zD_cut 1 ?_ ?_ (fun K_ hK => ?_) ?_
          rotate_left 2
          · simp only [List.take_succ_cons, List.take_zero]
            simp (disch := omega) [oLt, oLe, oLtN, oLeN, nLt, nLe, nLtN, nLeN, hpos, hmx, hgc, hgl, hgl', hx, hxi, hs1, hs2, hf1, hf2, hf1', hf2', hm1, hA, hB, e1, e2, ht]
            exact hK
          simp only [List.drop_succ_cons, List.drop_zero]
          refine zD_cut 4 ?_ ?_ (fun K_ hK => ?_) ?_
          rotate_left 2
          · simp only [List.take_succ_cons, List.take_zero]
            simp (disch := omega) [oLt, oLe, oLtN, oLeN, nLt, nLe, nLtN, nLeN, hpos, hmx, hgc, hgl, hgl', hx, hxi, hs1, hs2, hf1, hf2, hf1', hf2', hm1, hA, hB, e1, e2, ht]
            exact hK
          simp only [List.drop_succ_cons, List.drop_zero]
          refine zD_cut 3 ?_ ?_ (fun K_ hK => ?_) ?_
          rotate_left 2
          · simp only [List.take_succ_cons, List.take_zero]
            simp (disch := omega) [oLt, oLe, oLtN, oLeN, nLt, nLe, nLtN, nLeN, hpos, hmx, hgc, hgl, hgl', hx, hxi, hs1, hs2, hf1, hf2, hf1', hf2', hm1, hA, hB, e1, e2, ht]
            exact hK
          simp only [List.drop_succ_cons, List.drop_zero]
          refine goD_ok (by decide) ?_
          delta p62_r10
          simp (disch := omega) [oLt, oLe, oLtN, oLeN, nLt, nLe, nLtN, nLeN, hpos, hmx, hgc, hgl, hgl', hx, hxi, hs1, hs2, hf1, hf2, hf1', hf2', hm1, hA, hB, e1, e2, ht]
          exact hQ _ _ (.fz [2] _ (.inl rfl) (by simp; rfl) (by simp) (by simp))
        | cons b B =>
          rw [hA, hB] at hL
          rw [hL] at hQ
          have hal : A.length ≤ 1000000 := by rw [hA, List.length_cons] at l1; omega
          have hbl : B.length ≤ 1000000 := by rw [hB, List.length_cons] at l2; omega
          have htt : List.take (A.length + 1 + (B.length + 1)) (vI a :: (ints A ++ vI b :: ints B)) = vI a :: (ints A ++ vI b :: ints B) := List.take_of_length_le (by simp; omega)
          refine XZ_seqG (XZ_drawG ?_)
          delta p62_r9
          refine zD_cut 4 ?_ ?_ (fun K_ hK => ?_) ?_
          rotate_left 2
          · simp only [List.take_succ_cons, List.take_zero]
            simp (disch := omega) [oLt, oLe, oLtN, oLeN, nLt, nLe, nLtN, nLeN, hpos, hmx, hgc, hgl, hgl', hx, hxi, hs1, hs2, hf1, hf2, hf1', hf2', hm1, hA, hB, e1, e2, ht, htt]
            exact hK
          simp only [List.drop_succ_cons, List.drop_zero]
          refine zD_cut 1 ?_ ?_ (fun K_ hK => ?_) ?_
          rotate_left 2
          · simp only [List.take_succ_cons, List.take_zero]
            simp (disch := omega) [oLt, oLe, oLtN, oLeN, nLt, nLe, nLtN, nLeN, hpos, hmx, hgc, hgl, hgl', hx, hxi, hs1, hs2, hf1, hf2, hf1', hf2', hm1, hA, hB, e1, e2, ht, htt]
            exact hK
          simp only [List.drop_succ_cons, List.drop_zero]
          refine zD_cut 1 ?_ ?_ (fun K_ hK => ?_) ?_
          rotate_left 2
          · simp only [List.take_succ_cons, List.take_zero]
            simp (disch := omega) [oLt, oLe, oLtN, oLeN, nLt, nLe, nLtN, nLeN, hpos, hmx, hgc, hgl, hgl', hx, hxi, hs1, hs2, hf1, hf2, hf1', hf2', hm1, hA, hB, e1, e2, ht, htt]
            exact hK
          simp only [List.drop_succ_cons, List.drop_zero]
          refine zD_cut 4 ?_ ?_ (fun K_ hK => ?_) ?_
          rotate_left 2
          · simp only [List.take_succ_cons, List.take_zero]
            simp (disch := omega) [oLt, oLe, oLtN, oLeN, nLt, nLe, nLtN, nLeN, hpos, hmx, hgc, hgl, hgl', hx, hxi, hs1, hs2, hf1, hf2, hf1', hf2', hm1, hA, hB, e1, e2, ht, htt]
            exact hK
          simp only [List.drop_succ_cons, List.drop_zero]
          refine zD_cut 3 ?_ ?_ (fun K_ hK => ?_) ?_
          rotate_left 2
          · simp only [List.take_succ_cons, List.take_zero]
            simp (disch := omega) [oLt, oLe, oLtN, oLeN, nLt, nLe, nLtN, nLeN, hpos, hmx, hgc, hgl, hgl', hx, hxi, hs1, hs2, hf1, hf2, hf1', hf2', hm1, hA, hB, e1, e2, ht, htt]
            exact hK
          simp only [List.drop_succ_cons, List.drop_zero]
          refine goD_ok (by decide) ?_
          delta p62_r10
          simp (disch := omega) [oLt, oLe, oLtN, oLeN, nLt, nLe, nLtN, nLeN, hpos, hmx, hgc, hgl, hgl', hx, hxi, hs1, hs2, hf1, hf2, hf1', hf2', hm1, hA, hB, e1, e2, ht, htt]
          exact hQ _ _ (.fz [2] _ (.inl rfl) (fzEnv1 (id := 21) (n := A.length + 1 + (B.length + 1) + 1) (M := vI a :: (ints A ++ vI b :: (ints B ++ [vI x]))) (by simp) (by simp) (by simp; omega) (by simp)) (by simp; omega) (by simp))
def s62k : Sp := s62 1001
@[simp] theorem s62k_g : s62k.g = 62 := rfl
@[simp] theorem s62k_f : s62k.f = (spT 62 [.l] fun (l : List Int) => res (small l && decide (l.length < 1001)) (.il (ints (lpF l)) (lpF l).length false)).f := rfl
theorem s62k_ok : s62k.ok Try.prog := s62_ok 1001
theorem chk2F_sml {l : List Int} (h : chk2F l = 0) : sml l = true := chkF_sml ((chk2_eq l).symm.trans h)
def s17 : Sp := spT 17 [.l] fun (l : List Int) => res (small l) (if chk2F l = 0 then .tup [.il (ints (lpF l)) (lpF l).length false, vI 0] else .tup [.il [] 0 false, vI (chk2F l)])
@[simp] theorem s17_g : s17.g = 17 := rfl
@[simp] theorem s17_f : s17.f = (spT 17 [.l] fun (l : List Int) => res (small l) (if chk2F l = 0 then .tup [.il (ints (lpF l)) (lpF l).length false, vI 0] else .tup [.il [] 0 false, vI (chk2F l)])).f := rfl
theorem s17_ok : s17.ok Try.prog := by
  apply spT_ok
  simp only [OkT, Ty.all, List.nil_append, List.cons_append]
  intro (l : List Int) u
  apply okT_res; intro hg
  refine P17.rz (ss := [s24, s62k]) ⟨s24_ok, s62k_ok, trivial⟩ (by simp) fun Q hQ => ?_
  delta p17 p17_r0 p17_r1 p17_r2 p17_r3 p17_r4
  by_cases h : chk2F l = 0
  · have hs := chk2F_sml h
    have hs' : l.length < 1001 := by simp [sml] at hs; omega
    rw [if_pos h] at hQ
    simp (disch := omega) [oLt, oLe, oLtN, oLeN, nLt, nLe, nLtN, nLeN, hg, h, hs']
    exact hQ _ _ (.p (.inl rfl) (by simp) rfl)
  · rw [if_neg h] at hQ
    simp (disch := omega) [oLt, oLe, oLtN, oLeN, nLt, nLe, nLtN, nLeN, hg, h]
    exact hQ _ _ (.fz [2, 3] _ (.inl rfl) (by simp; rfl) (by simp) (by simp))
end
section
set_option maxRecDepth 100000
def tlG : Nat → List Nat → Nat
  | 0, _ => 0
  | n + 1, l => match l with
    | [] => 0
    | x :: r => cond (Nat.beq x n) (tlG n r + 1) 0
def ck1 (m p : List Nat) (n t : Nat) : Bool := eqN p (lpN 7 m) && chkN n p && Nat.ble (min n (t + 1)) (tlG n p.reverse) && (!srtN m || eqN p m) && (Nat.blt t (n - 1) || srtN m)
def ck (m : List Nat) : Bool := ck1 m (psdN m) m.length (tlG m.length m.reverse)
theorem ck0 : (perN 0).all ck = true := by kernel_rfl
theorem ck1p : (perN 1).all ck = true := by kernel_rfl
theorem ck2 : (perN 2).all ck = true := by kernel_rfl
theorem ck3 : (perN 3).all ck = true := by kernel_rfl
theorem ck4 : (perN 4).all ck = true := by kernel_rfl
theorem ck5 : (perN 5).all ck = true := by kernel_rfl
theorem ck6 : (perN 6).all ck = true := by kernel_rfl
theorem ck70 : (allN 6 [1, 2, 3, 4, 5, 6] [0]).all ck = true := by kernel_rfl
end
section
set_option maxRecDepth 100000
theorem ck71 : (allN 6 [0, 2, 3, 4, 5, 6] [1]).all ck = true := by kernel_rfl
theorem ck72 : (allN 6 [0, 1, 3, 4, 5, 6] [2]).all ck = true := by kernel_rfl
theorem ck73 : (allN 6 [0, 1, 2, 4, 5, 6] [3]).all ck = true := by kernel_rfl
end
section
set_option maxRecDepth 100000
theorem ck74 : (allN 6 [0, 1, 2, 3, 5, 6] [4]).all ck = true := by kernel_rfl
theorem ck75 : (allN 6 [0, 1, 2, 3, 4, 6] [5]).all ck = true := by kernel_rfl
theorem ck76 : (allN 6 [0, 1, 2, 3, 4, 5] [6]).all ck = true := by kernel_rfl
end
section
set_option maxRecDepth 100000
theorem per7 {p : List Nat → Bool} (h0 : (allN 6 [1, 2, 3, 4, 5, 6] [0]).all p = true) (h1 : (allN 6 [0, 2, 3, 4, 5, 6] [1]).all p = true) (h2 : (allN 6 [0, 1, 3, 4, 5, 6] [2]).all p = true) (h3 : (allN 6 [0, 1, 2, 4, 5, 6] [3]).all p = true)
    (h4 : (allN 6 [0, 1, 2, 3, 5, 6] [4]).all p = true) (h5 : (allN 6 [0, 1, 2, 3, 4, 6] [5]).all p = true) (h6 : (allN 6 [0, 1, 2, 3, 4, 5] [6]).all p = true) : (perN 7).all p = true := by
  have e : perN 7 = (List.range 7).flatMap fun k => allN 6 ((List.range 7).eraseIdx k) ([] ++ [(List.range 7).getD k 0]) := rfl
  rw [e, List.all_flatMap, List.all_eq_true]
  intro k hk
  have hk' : k < 7 := List.mem_range.1 hk
  have : k = 0 ∨ k = 1 ∨ k = 2 ∨ k = 3 ∨ k = 4 ∨ k = 5 ∨ k = 6 := by omega
  rcases this with rfl | rfl | rfl | rfl | rfl | rfl | rfl
  · exact h0
  · exact h1
  · exact h2
  · exact h3
  · exact h4
  · exact h5
  · exact h6
theorem ckA : ∀ n, n < 8 → (perN n).all ck = true := by
  intro n hn
  have : n = 0 ∨ n = 1 ∨ n = 2 ∨ n = 3 ∨ n = 4 ∨ n = 5 ∨ n = 6 ∨ n = 7 := by omega
  rcases this with rfl | rfl | rfl | rfl | rfl | rfl | rfl | rfl
  · exact ck0
  · exact ck1p
  · exact ck2
  · exact ck3
  · exact ck4
  · exact ck5
  · exact ck6
  · exact per7 ck70 ck71 ck72 ck73 ck74 ck75 ck76
theorem tlG_at : ∀ (n : Nat) (l : List Nat) (i : Nat), l.length = n → i ≤ tlG n l → ∀ x, n - i ≤ x → x < n → l.reverse[x]? = some x
  | 0, l, i, _, _, x, _, hx => by omega
  | n + 1, [], i, h, _, x, _, hx => by simp at h
  | n + 1, y :: r, i, h, hi, x, h1, h2 => by
    simp only [tlG] at hi
    by_cases e : y = n
    · subst e
      have hb : Nat.beq y y = true := beq_iff.2 rfl
      rw [hb] at hi
      simp only [cond_true] at hi
      have hr : r.length = y := by simpa using h
      by_cases hxy : x = y
      · subst hxy
        rw [List.reverse_cons, List.getElem?_append_right (by simp; omega)]
        simp [hr]
      · have := tlG_at y r (i - 1) hr (by omega) x (by omega) (by omega)
        rw [List.reverse_cons, List.getElem?_append_left (by simp; omega)]
        exact this
    · have hb : Nat.beq y n = false := by
        cases h' : Nat.beq y n
        · rfl
        · exact absurd (beq_iff.1 h') e
      rw [hb] at hi
      simp only [cond_false] at hi
      omega
def Tl (l : List Int) (i : Nat) : Prop := ∀ x : Nat, l.length - i ≤ x → x < l.length → l[x]? = some (x : Int)
def tlI (l : List Int) : Nat := tlG l.length (l.map Int.toNat).reverse
theorem toNat_zs (m : List Nat) : (zs m).map Int.toNat = m := by simp [zs, Function.comp_def]
theorem zs_get (m : List Nat) (x : Nat) : (zs m)[x]? = (m[x]?).map fun (n : Nat) => (n : Int) := by simp [zs]
structure CkF (l : List Int) : Prop where
  lp : lpF l = psd l
  ok : chkF (psd l) = 0
  len : (psd l).length = l.length
  fix : srtB l = true → psd l = l
  up : min l.length (tlI l + 1) ≤ tlI (psd l)
  srt : l.length - 1 ≤ tlI l → srtB l = true
  tl : ∀ i, i ≤ tlI l → Tl l i
theorem ck_facts {l : List Int} (h : chkF l = 0) : CkF l := by
  obtain ⟨m, rfl, hm⟩ := per_all ckA h
  have hl := chkF_len h
  rw [zs_len] at hl
  simp only [ck, ck1, Bool.and_eq_true, Bool.or_eq_true, Bool.not_eq_true', Nat.ble_eq] at hm
  obtain ⟨⟨⟨⟨h1, h2⟩, h3⟩, h4⟩, h5⟩ := hm
  have e1 := eqN_eq h1
  have hlen : (psdN m).length = m.length := by
    have := lpF_len _ (zs m) (Nat.le_refl _)
    rw [lpN_eq 7 m hl.2, ← e1] at this
    simpa using this
  have et : tlI (zs m) = tlG m.length m.reverse := by unfold tlI; rw [toNat_zs, zs_len]
  have ep : tlI (psd (zs m)) = tlG m.length (psdN m).reverse := by unfold tlI; rw [psdN_eq, toNat_zs, zs_len, hlen]
  refine ⟨by rw [lpN_eq 7 m hl.2, psdN_eq, e1], ?_, by rw [psdN_eq]; simp [hlen], fun hs => ?_, by rw [zs_len, et, ep]; exact h3, fun ht => ?_, fun i hi x h1 h2 => ?_⟩
  · rw [psdN_eq]
    exact chkN_F (by omega) (by omega) (by rw [hlen]; exact h2)
  · rw [srtN_eq] at hs
    rcases h4 with h4 | h4
    · rw [hs] at h4; cases h4
    · rw [psdN_eq, eqN_eq h4]
  · rw [zs_len, et] at ht
    rw [srtN_eq]
    rcases h5 with h5 | h5
    · have := blt_iff.1 h5; omega
    · exact h5
  · rw [et] at hi
    rw [zs_len] at h1 h2
    have := tlG_at m.length m.reverse i (by simp) hi x h1 h2
    rw [List.reverse_reverse] at this
    rw [zs_get, this]; rfl
end
end Go.Sx.Lk
