/- What functions of the walk layer return: told and good of the specification. No conditions. -/
import Derived.Test.YtmakepdccccmaaaSxJQBtoQD
set_option linter.unusedVariables false
set_option linter.unusedSimpArgs false
namespace Go.Sx.Wk
open Go Go.Sx Go.Proofs

/-- The error of a walk. -/
def toldF (t w : List Int) : Int := if chk t = 0 then (if 60 < w.length then 19 else if w.all (within 0 · (t.length - 1)) then 0 else 2) else chk t
def toldL (t : List Int) (e : Int) (w : List Int) : Int := if e = 0 then (if w.all (within 0 · (t.length - 1)) then 0 else 2) else e
theorem toldL_ne {t w : List Int} {e : Int} (h : e ≠ 0) : toldL t e w = e := by simp [toldL, h]
def s63 : Sp := spT 63 [.l, .l] fun (t w : List Int) => res (small t && small w) (vI (toldF t w))
@[simp] theorem s63_g : s63.g = 63 := rfl
@[simp] theorem s63_f : s63.f = (spT 63 [.l, .l] fun (t w : List Int) => res (small t && small w) (vI (toldF t w))).f := rfl
theorem s63_ok : s63.ok Try.prog := by
  apply spT_ok
  simp only [OkT, Ty.all, List.nil_append, List.cons_append]
  intro (t : List Int) u (w : List Int) uw
  apply okT_res; intro hs
  refine P63.rz (ss := [s24, s61]) ⟨s24_ok, s61_ok, trivial⟩ (by simp) fun Q hQ => ?_
  delta p63 p63_r0 p63_r1 p63_r2 p63_r3 p63_r4
  simp [small] at hs
  have ht : small t = true := by simp [small]; omega
  have key : ∀ (e : Int) (n : Nat), toldL t e w = toldF t w → XZ (rZ (spc [s24, s61])) 0 (.seq (.seq (.reg p63_r4 [0, 1, 5, 6]) (.block 0 (.loop p63_l0))) (.seq (.reg p63_r9 [4]) .ret)) ⟨[(0, .il (ints t) t.length u), (1, .il (ints w) w.length uw), (5, vI e)], [], n⟩ Q := by
    intro e n he
    delta p63_r4
    simp
    refine XZ_for (fun p : Nat × Int => ⟨[(0, .il (ints t) t.length u), (1, .il (ints w) w.length uw), (5, vI p.2), (6, vI p.1)], [], 0⟩) (fun p => w.length - p.1) (fun p => p.1 ≤ w.length ∧ toldL t p.2 (w.drop p.1) = toldF t w) (0, e) (by simp [he]) (.to [] (by simp)) ?_
    rintro ⟨i, e⟩ ⟨hi, hb⟩ N Q' hN hE
    simp only at hi hb ⊢
    by_cases h0 : e = 0
    · subst h0
      rcases Nat.lt_or_ge i w.length with h | h
      · obtain ⟨x, r, e1, e2, e3, e4, e5⟩ := drop_split h
        rw [e1] at hb
        delta p63_l0 p63_r5 p63_r6 p63_r7 p63_r8
        simp (disch := omega) [oLt, oLe, oLtN, oLeN, nLt, nLe, nLtN, nLeN, h, e2, e3]
        refine ⟨fun h1 => hN _ (i + 1, 2) (by simp only; omega) ⟨h, ?_⟩ (.to [] (by simp)), fun h1 h2 => hN _ (i + 1, 0) (by simp only; omega) ⟨h, ?_⟩ (.to [] (by simp))⟩
        · rw [← hb]; simp [toldL, h1, -within_iff]
        · have hw : within 0 x (t.length - 1) = true := by simp; omega
          rw [← hb]; simp only [e4]; simp [toldL, hw, -within_iff]
      · have h' : ¬ i < w.length := by omega
        delta p63_l0 p63_r5 p63_r6 p63_r7 p63_r8
        simp (disch := omega) [oLt, oLe, oLtN, oLeN, nLt, nLe, nLtN, nLeN, h']
        refine hE _ _ _ .refl ?_
        delta p63_r9
        simp
        refine hQ _ _ (.p (.inl rfl) ?_ rfl)
        simpa [List.drop_eq_nil_of_le h, toldL] using hb
    · rw [toldL_ne h0] at hb
      subst hb
      have hx : XZ (rZ (spc [s24, s61])) 0 p63_l0 ⟨[(0, .il (ints t) t.length u), (1, .il (ints w) w.length uw), (5, vI (toldF t w)), (6, vI i)], [], 0⟩ (thenE N Q') := by
        rcases Nat.lt_or_ge i w.length with h | h
        · delta p63_l0 p63_r5 p63_r6 p63_r7 p63_r8
          simp (disch := omega) [oLt, oLe, oLtN, oLeN, nLt, nLe, nLtN, nLeN, h, h0]
          refine hE _ _ _ .refl ?_
          delta p63_r9
          simp
          exact hQ _ _ (.p (.inl rfl) rfl rfl)
        · have h' : ¬ i < w.length := by omega
          delta p63_l0 p63_r5 p63_r6 p63_r7 p63_r8
          simp (disch := omega) [oLt, oLe, oLtN, oLeN, nLt, nLe, nLtN, nLeN, h', h0]
          refine hE _ _ _ .refl ?_
          delta p63_r9
          simp
          exact hQ _ _ (.p (.inl rfl) rfl rfl)
      exact hx
  show XZ (rZ (spc [s24, s61])) 0 p63 ⟨[(0, .il (ints t) t.length u), (1, .il (ints w) w.length uw)], [], 0⟩ Q
  delta p63
  by_cases h0 : chk t = 0
  · by_cases h1 : 60 < w.length
    · -- too long
      refine XZ_step ?_ (fun N Q' hN => ?_) ?_
      rotate_left
      · delta p63_r0; simp (disch := omega) [oLt, oLe, oLtN, oLeN, nLt, nLe, nLtN, nLeN, ht, h0, h1]
        exact hN
      refine XZ_step ?_ (fun N Q' hN => ?_) ?_
      rotate_left
      · delta p63_r1; simp (disch := omega) [oLt, oLe, oLtN, oLeN, nLt, nLe, nLtN, nLeN, ht, h0, h1]
        exact hN
      refine XZ_step ?_ (fun N Q' hN => ?_) ?_
      rotate_left
      · delta p63_r2 p63_r3; simp (disch := omega) [oLt, oLe, oLtN, oLeN, nLt, nLe, nLtN, nLeN, ht, h0, h1]
        exact hN
      exact key 19 _ (by simp [toldL, toldF, h0, h1])
    · -- not too long
      refine XZ_step ?_ (fun N Q' hN => ?_) ?_
      rotate_left
      · delta p63_r0; simp (disch := omega) [oLt, oLe, oLtN, oLeN, nLt, nLe, nLtN, nLeN, ht, h0, h1]
        exact hN
      refine XZ_step ?_ (fun N Q' hN => ?_) ?_
      rotate_left
      · delta p63_r1; simp (disch := omega) [oLt, oLe, oLtN, oLeN, nLt, nLe, nLtN, nLeN, ht, h0, h1]
        exact hN
      refine XZ_step ?_ (fun N Q' hN => ?_) ?_
      rotate_left
      · delta p63_r2 p63_r3; simp (disch := omega) [oLt, oLe, oLtN, oLeN, nLt, nLe, nLtN, nLeN, ht, h0, h1]
        exact hN
      exact key 0 _ (by simp [toldL, toldF, h0, h1])
  · -- an error before
    refine XZ_step ?_ (fun N Q' hN => ?_) ?_
    rotate_left
    · delta p63_r0; simp (disch := omega) [oLt, oLe, oLtN, oLeN, nLt, nLe, nLtN, nLeN, ht, h0]
      exact hN
    refine XZ_step ?_ (fun N Q' hN => ?_) ?_
    rotate_left
    · delta p63_r1; simp (disch := omega) [oLt, oLe, oLtN, oLeN, nLt, nLe, nLtN, nLeN, ht, h0]
      exact hN
    refine XZ_step ?_ (fun N Q' hN => ?_) ?_
    rotate_left
    · delta p63_r2 p63_r3; simp (disch := omega) [oLt, oLe, oLtN, oLeN, nLt, nLe, nLtN, nLeN, ht, h0]
      exact hN
    exact key (chk t) _ (by simp [toldL, toldF, h0])

/-- Whether one stretch is missed by a walk: since how many tides it was met. -/
def goodS (s m : Int) : Int → List Int → Bool
  | _, [] => true
  | c, x :: r => if (if x = s then 0 else c + 1) = m then false else goodS s m (if x = s then 0 else c + 1) r
def goodL (w : List Int) : Nat → List Int → Bool
  | _, [] => true
  | i, m :: r => goodS i m 0 w && goodL w (i + 1) r
def s64 : Sp := spT 64 [.l, .l] fun (t w : List Int) => res (small t && small w) (vB (goodL w 0 t))
@[simp] theorem s64_g : s64.g = 64 := rfl
@[simp] theorem s64_f : s64.f = (spT 64 [.l, .l] fun (t w : List Int) => res (small t && small w) (vB (goodL w 0 t))).f := rfl
theorem s64_ok : s64.ok Try.prog := by
  apply spT_ok
  simp only [OkT, Ty.all, List.nil_append, List.cons_append]
  intro (t : List Int) u (w : List Int) uw
  apply okT_res; intro hs
  refine P64.rz (ss := []) trivial (by simp) fun Q hQ => ?_
  delta p64 p64_r0 p64_r1
  simp [small] at hs
  simp
  refine XZ_for (fun i : Nat => ⟨[(0, .il (ints t) t.length u), (1, .il (ints w) w.length uw), (5, vI i)], [], 0⟩) (fun i => t.length - i) (fun i => i ≤ t.length ∧ goodL w i (t.drop i) = goodL w 0 t) 0 (by simp) (.to [] (by simp)) ?_
  rintro i ⟨hi, hb⟩ N Q' hN hE
  rcases Nat.lt_or_ge i t.length with h | h
  · obtain ⟨m, r, e1, e2, e3, e4, e5⟩ := drop_split h
    rw [e1] at hb
    simp only [goodL] at hb
    delta p64_l1 p64_r2 p64_r3 p64_r4
    simp (disch := omega) [oLt, oLe, oLtN, oLeN, nLt, nLe, nLtN, nLeN, h]
    refine XZ_for (fun p : Nat × Nat => ⟨[(0, .il (ints t) t.length u), (1, .il (ints w) w.length uw), (5, vI i), (6, vI p.2), (7, vI p.1)], [], 0⟩) (fun p => w.length - p.1) (fun p => p.1 ≤ w.length ∧ p.2 ≤ p.1 ∧ goodS i m p.2 (w.drop p.1) = goodS i m 0 w) (0, 0) (by simp) (.to [] (by simp)) ?_
    rintro ⟨j, c⟩ ⟨hj, hc, hg⟩ N1 Q1 hN1 hE1
    simp only at hj hc hg ⊢
    rcases Nat.lt_or_ge j w.length with h1 | h1
    · obtain ⟨x, r', d1, d2, d3, d4, d5⟩ := drop_split h1
      rw [d1] at hg
      simp only [goodS] at hg
      by_cases hx : x = i
      · subst hx
        by_cases hm : m = 0
        · subst hm
          simp at hg
          delta p64_l0 p64_r5 p64_r6 p64_r7 p64_r8 p64_r9 p64_r10 p64_r11
          simp (disch := omega) [oLt, oLe, oLtN, oLeN, nLt, nLe, nLtN, nLeN, h, h1, d2, d3, e2, e3]
          refine hE1 _ _ _ .refl (hE _ _ _ .refl (hQ _ _ (.p (.inl rfl) ?_ rfl)))
          simp [← hb, hg]
        · have hm' : ¬ (0 : Int) = m := fun e => hm e.symm
          simp [hm'] at hg
          delta p64_l0 p64_r5 p64_r6 p64_r7 p64_r8 p64_r9 p64_r10 p64_r11
          simp (disch := omega) [oLt, oLe, oLtN, oLeN, nLt, nLe, nLtN, nLeN, h, h1, d2, d3, e2, e3, hm, hm']
          refine hN1 _ (j + 1, 0) (by simp only; omega) ⟨h1, by simp, ?_⟩ (.to [] (by simp))
          simp only [d4]; simpa using hg
      · by_cases hm : (c : Int) + 1 = m
        · simp [hx, hm] at hg
          delta p64_l0 p64_r5 p64_r6 p64_r7 p64_r8 p64_r9 p64_r10 p64_r11
          simp (disch := omega) [oLt, oLe, oLtN, oLeN, nLt, nLe, nLtN, nLeN, h, h1, d2, d3, e2, e3, hx, hm]
          refine hE1 _ _ _ .refl (hE _ _ _ .refl (hQ _ _ (.p (.inl rfl) ?_ rfl)))
          simp [← hb, hg]
        · simp [hx, hm] at hg
          delta p64_l0 p64_r5 p64_r6 p64_r7 p64_r8 p64_r9 p64_r10 p64_r11
          simp (disch := omega) [oLt, oLe, oLtN, oLeN, nLt, nLe, nLtN, nLeN, h, h1, d2, d3, e2, e3, hx, hm]
          refine hN1 _ (j + 1, c + 1) (by simp only; omega) ⟨h1, by simp only; omega, ?_⟩ (.to [] (by simp))
          simp only [d4]; simpa using hg
    · have h1' : ¬ j < w.length := by omega
      delta p64_l0 p64_r5 p64_r6 p64_r7 p64_r8 p64_r9 p64_r10 p64_r11
      simp (disch := omega) [oLt, oLe, oLtN, oLeN, nLt, nLe, nLtN, nLeN, h1']
      refine hE1 _ _ _ .refl ?_
      delta p64_r12
      simp (disch := omega) [oLt, oLe, oLtN, oLeN, nLt, nLe, nLtN, nLeN]
      refine hN _ (i + 1) (by omega) ⟨h, ?_⟩ (.to [] (by simp))
      simp [List.drop_eq_nil_of_le h1, goodS] at hg
      rw [e4, ← hb, hg]; rfl
  · have h' : ¬ i < t.length := by omega
    delta p64_l1 p64_r2 p64_r3 p64_r4
    simp (disch := omega) [oLt, oLe, oLtN, oLeN, nLt, nLe, nLtN, nLeN, h']
    refine hE _ _ _ .refl ?_
    delta p64_r13
    simp
    refine hQ _ _ (.p (.inl rfl) ?_ rfl)
    simpa [List.drop_eq_nil_of_le h, goodL] using hb
end Go.Sx.Wk
namespace Go.Sx.Wk
open Go Go.Sx Go.Proofs

/-- Since how many tides a stretch was met. -/
def lastS (s n : Int) : Int → Int → List Int → Int
  | c, _, [] => c
  | c, i, x :: r => lastS s n (if x = s then n - 1 - i else c) (i + 1) r
def leftL (w : List Int) : Int → List Int → List Int
  | _, [] => []
  | s, m :: r => (m - lastS s w.length w.length 0 w) :: leftL w (s + 1) r
theorem leftL_len (w : List Int) : ∀ (t : List Int) (s : Int), (leftL w s t).length = t.length
  | [], _ => rfl
  | m :: r, s => by simp [leftL, leftL_len w r]
def leftF (t w : List Int) : AV := if toldF t w = 0 then (if goodL w 0 t = true then .tup [.il (ints (leftL w 0 t)) t.length false, vI 0] else .tup [.il [] 0 false, vI 12]) else .tup [.il [] 0 false, vI (toldF t w)]
theorem told_ok {t w : List Int} (h : toldF t w = 0) : chk t = 0 ∧ w.length ≤ 60 ∧ ∀ x ∈ w, 0 ≤ x ∧ x ≤ t.length - 1 := by
  unfold toldF at h
  split at h
  · rename_i h0
    refine ⟨h0, ?_⟩
    split at h
    · cases h
    · split at h
      · rename_i h1 h2
        exact ⟨by omega, fun x hx => by simpa using List.all_eq_true.1 h2 x hx⟩
      · cases h
  · rename_i h0; exact absurd h h0
def s26 : Sp := spT 26 [.l, .l] fun (t w : List Int) => res (small t && small w) (leftF t w)
@[simp] theorem s26_g : s26.g = 26 := rfl
@[simp] theorem s26_f : s26.f = (spT 26 [.l, .l] fun (t w : List Int) => res (small t && small w) (leftF t w)).f := rfl
theorem s26_ok : s26.ok Try.prog := by
  apply spT_ok
  simp only [OkT, Ty.all, List.nil_append, List.cons_append]
  intro (t : List Int) ut (w : List Int) uw
  apply okT_res; intro hs
  refine P26.rz (ss := [s63, s64]) ⟨s63_ok, s64_ok, trivial⟩ (by simp) fun Q hQ => ?_
  delta p26 p26_r0 p26_r1 p26_r2 p26_r3 p26_r4 p26_r5 p26_r6 p26_r7
  have hs' := hs
  simp [small] at hs
  by_cases h0 : toldF t w = 0
  case neg =>
    simp [hs', h0]
    exact hQ _ _ (.fz [4, 5] _ (.inl rfl) (by simp; rfl) (by simp [leftF, h0]) (by simp [leftF, h0]))
  by_cases hg0 : goodL w 0 t = true
  case neg =>
    simp only [Bool.not_eq_true] at hg0
    simp [hs', h0, hg0]
    exact hQ _ _ (.fz [4, 5] _ (.inl rfl) (by simp; rfl) (by simp [leftF, h0, hg0]) (by simp [leftF, h0, hg0]))
  obtain ⟨hc, hw, hr⟩ := told_ok h0
  obtain ⟨-, h4, h8⟩ := chk_ok hc
  simp [hs', h0, hg0]
  refine XZ_for (fun p : Nat × List Int => ⟨[(0, .il (ints t) t.length ut), (1, .il (ints w) w.length uw), (7, ow 0 p.2), (8, vI p.1)], owh 0 p.2 [], own p.2 0⟩) (fun p => t.length - p.1) (fun p => p.1 ≤ t.length ∧ p.2.length = p.1 ∧ p.2 ++ leftL w p.1 (t.drop p.1) = leftL w 0 t) (0, []) (by simp) (.to [] (by simp)) ?_
  rintro ⟨i, acc⟩ ⟨hi, hacc, hb⟩ N Q' hN hE
  simp only at hi hacc hb ⊢
  rcases Nat.lt_or_ge i t.length with h | h
  · obtain ⟨m, r, e1, e2, e3, e4, e5⟩ := drop_split h
    have hm := h8 m e5
    rw [e1] at hb
    simp only [leftL] at hb
    have fin : ∀ c : Int, c = lastS i w.length w.length 0 w → ∀ s', ChgT 0 s' ⟨[(0, .il (ints t) t.length ut), (1, .il (ints w) w.length uw), (7, ow 0 (acc ++ [m - c])), (8, vI ((i + 1 : Nat) : Int))], owh 0 (acc ++ [m - c]) [], own (acc ++ [m - c]) 0⟩ → N s' := fun c hc s' hh => hN s' (i + 1, acc ++ [m - c]) (by simp only; omega) ⟨h, by simp [hacc], by simp only [e4]; rw [← hb, hc]; simp⟩ hh
    rcases acc with _ | ⟨a0, ar⟩
    · simp only [List.length_cons, List.length_nil] at hacc
      delta p26_l1 p26_r8 p26_r9 p26_r10
      simp (disch := omega) [oLt, oLe, oLtN, oLeN, nLt, nLe, nLtN, nLeN, h]
      refine XZ_for (fun q : Nat × Int => ⟨[(0, .il (ints t) t.length ut), (1, .il (ints w) w.length uw), (7, .v (.slice none 0 0)), (8, vI i), (9, vI q.2), (10, vI q.1)], [], 0⟩) (fun q => w.length - q.1) (fun q => q.1 ≤ w.length ∧ 0 ≤ q.2 ∧ q.2 ≤ w.length ∧ lastS i w.length q.2 q.1 (w.drop q.1) = lastS i w.length w.length 0 w) (0, (w.length : Int)) (by simp) (.to [] (by simp)) ?_
      rintro ⟨j, c⟩ ⟨hj, hc0, hc1, hg⟩ N1 Q1 hN1 hE1
      simp only at hj hc0 hc1 hg ⊢
      rcases Nat.lt_or_ge j w.length with h1 | h1
      · obtain ⟨x, r', d1, d2, d3, d4, d5⟩ := drop_split h1
        rw [d1] at hg
        simp only [lastS] at hg
        by_cases hx : x = i
        · subst hx
          rw [if_pos rfl] at hg
          delta p26_l0 p26_r11 p26_r12 p26_r13 p26_r14
          simp (disch := omega) [oLt, oLe, oLtN, oLeN, nLt, nLe, nLtN, nLeN, h, h1, d2, d3]
          refine hN1 _ (j + 1, (w.length : Int) - 1 - j) (by simp only; omega) ⟨h1, by simp only; omega, by simp only; omega, ?_⟩ (.to [] (by simp))
          simp only [d4]; simpa using hg
        · rw [if_neg hx] at hg
          delta p26_l0 p26_r11 p26_r12 p26_r13 p26_r14
          simp (disch := omega) [oLt, oLe, oLtN, oLeN, nLt, nLe, nLtN, nLeN, h, h1, d2, d3, hx]
          refine hN1 _ (j + 1, c) (by simp only; omega) ⟨h1, hc0, hc1, ?_⟩ (.to [] (by simp))
          simp only [d4]; simpa using hg
      · have h1' : ¬ j < w.length := by omega
        simp [List.drop_eq_nil_of_le h1, lastS] at hg
        delta p26_l0 p26_r11 p26_r12 p26_r13 p26_r14
        simp (disch := omega) [oLt, oLe, oLtN, oLeN, nLt, nLe, nLtN, nLeN, h1']
        refine hE1 _ _ _ .refl ?_
        delta p26_r15 p26_r16
        simp (disch := omega) [oLt, oLe, oLtN, oLeN, nLt, nLe, nLtN, nLeN, h, e2, e3]
        exact fin c hg _ (.tot [7] (by simp (disch := omega)))
    · simp only [List.length_cons, List.length_nil] at hacc
      delta p26_l1 p26_r8 p26_r9 p26_r10
      simp (disch := omega) [oLt, oLe, oLtN, oLeN, nLt, nLe, nLtN, nLeN, h]
      refine XZ_for (fun q : Nat × Int => ⟨[(0, .il (ints t) t.length ut), (1, .il (ints w) w.length uw), (7, .ref 0 0 (ar.length + 1) 1 none), (8, vI i), (9, vI q.2), (10, vI q.1)], [(0, .cells (.v (.int .i64 a0) :: ints ar))], 1⟩) (fun q => w.length - q.1) (fun q => q.1 ≤ w.length ∧ 0 ≤ q.2 ∧ q.2 ≤ w.length ∧ lastS i w.length q.2 q.1 (w.drop q.1) = lastS i w.length w.length 0 w) (0, (w.length : Int)) (by simp) (.tot [7] (by simp (disch := omega))) ?_
      rintro ⟨j, c⟩ ⟨hj, hc0, hc1, hg⟩ N1 Q1 hN1 hE1
      simp only at hj hc0 hc1 hg ⊢
      rcases Nat.lt_or_ge j w.length with h1 | h1
      · obtain ⟨x, r', d1, d2, d3, d4, d5⟩ := drop_split h1
        rw [d1] at hg
        simp only [lastS] at hg
        by_cases hx : x = i
        · subst hx
          rw [if_pos rfl] at hg
          delta p26_l0 p26_r11 p26_r12 p26_r13 p26_r14
          simp (disch := omega) [oLt, oLe, oLtN, oLeN, nLt, nLe, nLtN, nLeN, h, h1, d2, d3]
          refine hN1 _ (j + 1, (w.length : Int) - 1 - j) (by simp only; omega) ⟨h1, by simp only; omega, by simp only; omega, ?_⟩ (.tot [7] (by simp (disch := omega)))
          simp only [d4]; simpa using hg
        · rw [if_neg hx] at hg
          delta p26_l0 p26_r11 p26_r12 p26_r13 p26_r14
          simp (disch := omega) [oLt, oLe, oLtN, oLeN, nLt, nLe, nLtN, nLeN, h, h1, d2, d3, hx]
          refine hN1 _ (j + 1, c) (by simp only; omega) ⟨h1, hc0, hc1, ?_⟩ (.tot [7] (by simp (disch := omega)))
          simp only [d4]; simpa using hg
      · have h1' : ¬ j < w.length := by omega
        simp [List.drop_eq_nil_of_le h1, lastS] at hg
        delta p26_l0 p26_r11 p26_r12 p26_r13 p26_r14
        simp (disch := omega) [oLt, oLe, oLtN, oLeN, nLt, nLe, nLtN, nLeN, h1']
        refine hE1 _ _ _ .refl ?_
        delta p26_r15 p26_r16
        simp (disch := omega) [oLt, oLe, oLtN, oLeN, nLt, nLe, nLtN, nLeN, h, e2, e3]
        exact fin c hg _ (.tot [7] (by simp (disch := omega)))
  · have h' : ¬ i < t.length := by omega
    simp only [List.drop_eq_nil_of_le h, leftL, List.append_nil] at hb
    have hit : i = t.length := by omega
    subst hit
    rcases acc with _ | ⟨a0, ar⟩ <;> (simp only [List.length_cons, List.length_nil] at hacc; delta p26_l1 p26_r8 p26_r9 p26_r10; simp (disch := omega) [oLt, oLe, oLtN, oLeN, nLt, nLe, nLtN, nLeN]; refine hE _ _ _ .refl ?_; delta p26_r17; simp (disch := omega) [oLt, oLe, oLtN, oLeN, nLt, nLe, nLtN, nLeN]; exact hQ _ _ (.fz [4, 5] _ (.inl rfl) (by simp; rfl) (by simp [← hb, leftF, h0, hg0, hacc.symm]) (by simp [← hb, leftF, h0, hg0])))
end Go.Sx.Wk
namespace Go.Sx.Wk
open Go Go.Sx Go.Proofs

def endS (s : Int) : Int → List Int → Int
  | c, [] => c
  | c, x :: r => endS s (if x = s then 0 else c + 1) r
theorem lastS_end {s n : Int} : ∀ (w : List Int) (c j : Int), j + w.length = n → lastS s n (c + (n - j)) j w = endS s c w
  | [], c, j, h => by simp at h; simp [lastS, endS, h]
  | x :: r, c, j, h => by
    simp only [List.length_cons, Int.natCast_add] at h
    simp only [lastS, endS]
    by_cases hx : x = s
    · simp only [hx, if_true]
      have := lastS_end (s := s) (n := n) r 0 (j + 1) (by omega)
      rw [← this]; congr 1; omega
    · simp only [hx, if_false]
      have := lastS_end (s := s) (n := n) r (c + 1) (j + 1) (by omega)
      rw [← this]; congr 1; omega
theorem good_end {s m : Int} : ∀ {w : List Int} {c : Int}, goodS s m c w = true → 0 ≤ c → c < m → 0 ≤ endS s c w ∧ endS s c w < m
  | [], c, h, h0, h1 => ⟨h0, h1⟩
  | x :: r, c, h, h0, h1 => by
    simp only [goodS] at h
    simp only [endS]
    by_cases hx : x = s
    · simp only [hx, if_true] at h ⊢
      by_cases hm : (0 : Int) = m
      · rw [if_pos hm] at h; cases h
      · rw [if_neg hm] at h
        exact good_end h (by omega) (by omega)
    · simp only [hx, if_false] at h ⊢
      by_cases hm : c + 1 = m
      · rw [if_pos hm] at h; cases h
      · rw [if_neg hm] at h
        exact good_end h (by omega) (by omega)
theorem left_val {w : List Int} : ∀ {t : List Int} {s : Nat}, goodL w s t = true → (∀ y ∈ t, 1 ≤ y) → val t (leftL w s t)
  | [], s, h, h1 => trivial
  | m :: r, s, h, h1 => by
    simp only [goodL, Bool.and_eq_true] at h
    have h2 := good_end h.1 (by omega) (by have := h1 m (by simp); omega)
    have h3 := lastS_end (s := (s : Int)) w 0 0 rfl
    simp at h3
    have h4 := left_val (s := s + 1) h.2 (fun y hy => h1 y (by simp [hy]))
    simp only [leftL, val]
    refine ⟨?_, ?_, by simpa using h4⟩ <;> rw [h3] <;> omega
def everB (t l : List Int) : Bool := (((aliveF t).1)[(idxL t l 0).toNat]?).getD false
def goesF (t w : List Int) : AV := if toldF t w = 0 then (if goodL w 0 t = true then .tup [vB (canB t && everB t (leftL w 0 t)), vI 0] else .tup [vB false, vI 12]) else .tup [vB false, vI (toldF t w)]
def s28 : Sp := spT 28 [.l, .l] fun (t w : List Int) => res (small t && small w) (goesF t w)
@[simp] theorem s28_g : s28.g = 28 := rfl
@[simp] theorem s28_f : s28.f = (spT 28 [.l, .l] fun (t w : List Int) => res (small t && small w) (goesF t w)).f := rfl
theorem s28_ok : s28.ok Try.prog := by
  apply spT_ok
  simp only [OkT, Ty.all, List.nil_append, List.cons_append]
  intro (t : List Int) ut (w : List Int) uw
  apply okT_res; intro hs
  refine P28.rz (ss := [s26, s56, s57, s65]) ⟨s26_ok, s56_ok, s57_ok, s65_ok, trivial⟩ (by simp) fun Q hQ => ?_
  delta p28 p28_r0 p28_r1 p28_r2 p28_r3 p28_r4 p28_r5 p28_r6 p28_r7
  have hs' := hs
  simp [small] at hs
  by_cases h0 : toldF t w = 0
  case neg =>
    simp [hs', h0, leftF]
    exact hQ _ _ (.p (.inl rfl) (by simp [goesF, h0]) (by simp [goesF, h0]))
  by_cases hg0 : goodL w 0 t = true
  case neg =>
    simp only [Bool.not_eq_true] at hg0
    simp [hs', h0, hg0, leftF]
    exact hQ _ _ (.p (.inl rfl) (by simp [goesF, h0, hg0]) (by simp [goesF, h0, hg0]))
  obtain ⟨hc, hw, hr⟩ := told_ok h0
  have hg := chk_g78 hc
  obtain ⟨ht, h4, hne⟩ := chk_facts hc
  have ht8 := ok8_iff.1 ht
  have hv := left_val (w := w) (s := 0) hg0 (fun y hy => (ht8 y hy).1)
  have hl8 : ok8 (leftL w 0 t) = true := ok8_iff.2 (val_ok8 hv ht8)
  have hll := (leftL_len w t 0)
  obtain ⟨i, i1, i2⟩ := idx_get hv
  have hal := aliveF_len ht h4
  have hi : i < (aliveF t).1.length := by rw [hal]; exact (List.getElem?_eq_some_iff.1 i2).1
  have hsmall : (aliveF t).1.length ≤ 4096 := by rw [hal]; exact stL_len ht h4
  simp only [Int.natCast_zero] at *
  cases hcan : canB t with
  | false =>
    simp (disch := omega) [oLt, oLe, oLtN, oLeN, nLt, nLe, nLtN, nLeN, hs', h0, hg0, leftF, hg, hcan]
    exact hQ _ _ (.p (.inl rfl) (by simp [goesF, h0, hg0, hcan]) (by simp [goesF, h0, hg0]))
  | true =>
    have he : ((aliveF t).1)[i]? = some (everB t (leftL w 0 t)) := by
      simp [everB, i1, hi]
    have he' : (aliveF t).1[i] = everB t (leftL w 0 t) := (List.getElem?_eq_some_iff.1 he).2
    simp (disch := omega) [oLt, oLe, oLtN, oLeN, nLt, nLe, nLtN, nLeN, hs', h0, hg0, leftF, hg, hcan, avAlive, ht, hl8, hll, h4, i1, he, he']
    exact hQ _ _ (.p (.inl rfl) (by simp [goesF, h0, hg0, hcan]) (by simp [goesF, h0, hg0]))
end Go.Sx.Wk
namespace Go.Sx.Wk
open Go Go.Sx Go.Proofs

def rep (n : Nat) (w : List Int) : List Int := (List.replicate n w).flatten
theorem rep_zero (w : List Int) : rep 0 w = [] := rfl
theorem rep_succ (n : Nat) (w : List Int) : rep (n + 1) w = rep n w ++ w := by simp [rep, List.replicate_succ']
theorem rep_len (n : Nat) (w : List Int) : (rep n w).length = n * w.length := by simp [rep]
def meetsF (t w : List Int) : Int := if chk t = 0 then (if w.length = 0 then 4 else if toldF t w = 0 then (if goodL (rep 9 w) 0 t = true then 0 else 14) else toldF t w) else chk t
def s31 : Sp := spT 31 [.l, .l] fun (t w : List Int) => res (small t && small w) (vI (meetsF t w))
@[simp] theorem s31_g : s31.g = 31 := rfl
@[simp] theorem s31_f : s31.f = (spT 31 [.l, .l] fun (t w : List Int) => res (small t && small w) (vI (meetsF t w))).f := rfl
theorem s31_ok : s31.ok Try.prog := by
  apply spT_ok
  simp only [OkT, Ty.all, List.nil_append, List.cons_append]
  intro (t : List Int) ut (w : List Int) uw
  apply okT_res; intro hs
  refine P31.rz (ss := [s24, s63, s64]) ⟨s24_ok, s63_ok, s64_ok, trivial⟩ (by simp) fun Q hQ => ?_
  delta p31 p31_r0 p31_r1 p31_r2 p31_r3 p31_r4 p31_r5 p31_r6 p31_r7 p31_r8 p31_r9
  have hs' := hs
  simp [small] at hs
  have hst : small t = true := by simp [small]; omega
  have hsw : small w = true := by simp [small]; omega
  by_cases hc : chk t = 0
  case neg =>
    simp (disch := omega) [oLt, oLe, oLtN, oLeN, nLt, nLe, nLtN, nLeN, hst, hc]
    exact hQ _ _ (.p (.inl rfl) (by simp [meetsF, hc]) rfl)
  by_cases hw : w.length = 0
  · simp (disch := omega) [oLt, oLe, oLtN, oLeN, nLt, nLe, nLtN, nLeN, hst, hc, hw]
    exact hQ _ _ (.p (.inl rfl) (by simp [meetsF, hc, hw]) rfl)
  by_cases h0 : toldF t w = 0
  case neg =>
    simp (disch := omega) [oLt, oLe, oLtN, oLeN, nLt, nLe, nLtN, nLeN, hst, hsw, hc, hw, h0]
    exact hQ _ _ (.p (.inl rfl) (by simp [meetsF, hc, hw, h0]) rfl)
  obtain ⟨-, h60, -⟩ := told_ok h0
  simp (disch := omega) [oLt, oLe, oLtN, oLeN, nLt, nLe, nLtN, nLeN, hst, hsw, hc, hw, h0]
  rcases w with _ | ⟨x, r⟩
  · simp at hw
  refine XZ_for (fun p : Nat × List Int => ⟨[(0, .il (ints t) t.length ut), (1, .il (ints (x :: r)) (x :: r).length uw), (6, ow 0 p.2), (7, vI p.1)], owh 0 p.2 [], own p.2 0⟩) (fun p => 9 - p.1) (fun p => p.1 ≤ 9 ∧ p.2 = rep p.1 (x :: r)) (0, []) (by simp [rep_zero]) (.to [] (by simp)) ?_
  rintro ⟨i, acc⟩ ⟨hi, hacc⟩ N Q' hN hE
  simp only at hi hacc ⊢
  simp only [List.length_cons] at h60
  have hal : acc.length ≤ 540 := by
    rw [hacc, rep_len]
    have := Nat.mul_le_mul hi h60
    simpa using this
  rcases Nat.lt_or_ge i 9 with h | h
  · have fin : ∀ s', ChgT 0 s' ⟨[(0, .il (ints t) t.length ut), (1, .il (ints (x :: r)) (x :: r).length uw), (6, ow 0 (acc ++ x :: r)), (7, vI ((i + 1 : Nat) : Int))], owh 0 (acc ++ x :: r) [], own (acc ++ x :: r) 0⟩ → N s' := fun s' hc => hN s' (i + 1, acc ++ x :: r) (by simp only; omega) ⟨h, by simp only; rw [rep_succ, ← hacc]⟩ hc
    rcases acc with _ | ⟨a0, ar⟩ 
    · delta p31_l0 p31_r10 p31_r11 p31_r12
      simp (disch := omega) [oLt, oLe, oLtN, oLeN, nLt, nLe, nLtN, nLeN, h]
      exact fin _ (.tot [6] (by simp (disch := omega)))
    · simp only [List.length_cons] at hal
      have hcap : (ar.length + 1 + (r.length + 1)) * 9 ≤ 1099511627776 := by omega
      delta p31_l0 p31_r10 p31_r11 p31_r12
      simp (disch := omega) [oLt, oLe, oLtN, oLeN, nLt, nLe, nLtN, nLeN, h, hcap]
      exact fin _ (.tot [6] (by simp (disch := omega); omega))
  · have hi9 : i = 9 := by omega
    subst hi9
    rcases acc with _ | ⟨a0, ar⟩
    · have := congrArg List.length hacc
      rw [rep_len] at this
      simp at this
    · simp only [List.length_cons] at hal
      have hsa : small (a0 :: ar) = true := by simp [small]; omega
      delta p31_l0 p31_r10 p31_r11 p31_r12
      simp (disch := omega) [oLt, oLe, oLtN, oLeN, nLt, nLe, nLtN, nLeN]
      refine hE _ _ _ .refl ?_
      delta p31_r13 p31_r14 p31_r15
      cases hgd : goodL (rep 9 (x :: r)) 0 t with
      | true =>
        have hgd' : goodL (a0 :: ar) 0 t = true := by rw [hacc]; exact hgd
        simp (disch := omega) [oLt, oLe, oLtN, oLeN, nLt, nLe, nLtN, nLeN, hst, hsa, hgd']
        exact hQ _ _ (.p (.inl rfl) (by simp [meetsF, hc, h0, hgd]) rfl)
      | false =>
        have hgd' : goodL (a0 :: ar) 0 t = false := by rw [hacc]; exact hgd
        simp (disch := omega) [oLt, oLe, oLtN, oLeN, nLt, nLe, nLtN, nLeN, hst, hsa, hgd']
        exact hQ _ _ (.p (.inl rfl) (by simp [meetsF, hc, h0, hgd]) rfl)
end Go.Sx.Wk
