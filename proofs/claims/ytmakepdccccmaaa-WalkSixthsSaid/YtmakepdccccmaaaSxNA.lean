/- Walks over the same numbers in another order, and over greater ones: plain facts. No conditions. -/
import Derived.Test.YtmakepdccccmaaaSxO1
set_option linter.unusedVariables false
set_option linter.unusedSimpArgs false
namespace Go.Sx.Wk
open Go Go.Sx Go.Proofs

def dec2 (p : Int × Int) : Int × Int := (p.1, p.2 - 1)
/-- One tide, as pairs of a number and what is left. -/
def StZ (Z W : List (Int × Int)) : Prop := ∃ A p B, Z = A ++ p :: B ∧ (∀ q ∈ A ++ B, q.2 ≠ 1) ∧ W = A.map dec2 ++ (p.1, p.1) :: B.map dec2
theorem aft_past {s : Int} : ∀ {t x l : List Int} {i : Int}, t.length = x.length → s < i → (aftG s t x i = some l ↔ (∀ q ∈ t.zip x, q.2 ≠ 1) ∧ l.length = x.length ∧ t.zip l = (t.zip x).map dec2)
  | [], [], l, i, _, _ => by
    simp only [aftG, Option.some.injEq, List.zip_nil_left, List.map_nil, List.not_mem_nil, false_implies, implies_true, true_and, and_true, List.length_nil]
    constructor
    · rintro rfl; rfl
    · intro h; exact (List.length_eq_zero_iff.1 h).symm
  | t :: ts, x :: xs, l, i, h, hs => by
    have hl : ts.length = xs.length := by simpa using h
    have hi : ¬ i = s := by omega
    simp only [aftG, hi, if_false]
    by_cases hx : x = 1
    · rw [if_pos hx]
      constructor
      · intro h; cases h
      · intro h; exact absurd hx (h.1 (t, x) (by simp))
    · rw [if_neg hx]
      constructor
      · intro h
        cases hr : aftG s ts xs (i + 1) with
        | none => rw [hr] at h; cases h
        | some r =>
          rw [hr] at h
          simp only [Option.map_some, Option.some.injEq] at h
          subst h
          obtain ⟨h1, h2, h3⟩ := (aft_past hl (by omega)).1 hr
          refine ⟨fun q hq => ?_, by simp [h2], ?_⟩
          · rw [List.zip_cons_cons, List.mem_cons] at hq
            rcases hq with rfl | hq
            · exact hx
            · exact h1 q hq
          · simp only [List.zip_cons_cons, List.map_cons, h3, dec2]
      · rintro ⟨h1, h2, h3⟩
        rcases l with _ | ⟨y, r⟩
        · simp at h2
        · simp only [List.zip_cons_cons, List.map_cons, List.cons.injEq, dec2, Prod.mk.injEq, true_and] at h3
          obtain ⟨rfl, h3⟩ := h3
          have := (aft_past (s := s) (l := r) (i := i + 1) hl (by omega)).2 ⟨fun q hq => h1 q (by rw [List.zip_cons_cons]; exact List.mem_cons_of_mem _ hq), by simpa using h2, h3⟩
          rw [this]; rfl
theorem aft_zip : ∀ {t x l : List Int} {i : Int}, t.length = x.length → ((∃ s : Int, i ≤ s ∧ s < i + t.length ∧ aftG s t x i = some l) ↔ l.length = x.length ∧ StZ (t.zip x) (t.zip l))
  | [], [], l, i, _ => by
    constructor
    · rintro ⟨s, h1, h2, _⟩; simp at h2; omega
    · rintro ⟨_, A, p, B, h, _⟩; simp at h
  | t :: ts, x :: xs, l, i, h => by
    have hl : ts.length = xs.length := by simpa using h
    constructor
    · rintro ⟨s, h1, h2, h3⟩
      simp only [List.length_cons, Int.natCast_add, Int.natCast_one] at h2
      simp only [aftG] at h3
      by_cases hi : i = s
      · rw [if_pos hi] at h3
        cases hr : aftG s ts xs (i + 1) with
        | none => rw [hr] at h3; cases h3
        | some r =>
          rw [hr] at h3
          simp only [Option.map_some, Option.some.injEq] at h3
          subst h3
          obtain ⟨g1, g2, g3⟩ := (aft_past hl (by omega)).1 hr
          exact ⟨by simp [g2], [], (t, x), ts.zip xs, by simp, by simpa using g1, by simp [g3]⟩
      · rw [if_neg hi] at h3
        by_cases hx : x = 1
        · rw [if_pos hx] at h3; cases h3
        · rw [if_neg hx] at h3
          cases hr : aftG s ts xs (i + 1) with
          | none => rw [hr] at h3; cases h3
          | some r =>
            rw [hr] at h3
            simp only [Option.map_some, Option.some.injEq] at h3
            subst h3
            obtain ⟨g2, A, p, B, g3, g4, g5⟩ := (aft_zip (l := r) (i := i + 1) hl).1 ⟨s, by omega, by omega, hr⟩
            refine ⟨by simp [g2], (t, x) :: A, p, B, by simp [g3], fun q hq => ?_, by simp [g5, dec2]⟩
            rw [List.cons_append, List.mem_cons] at hq
            rcases hq with rfl | hq
            · exact hx
            · exact g4 q hq
    · rintro ⟨h1, A, p, B, h2, h3, h4⟩
      rcases l with _ | ⟨y, r⟩
      · simp at h1
      have hrl : r.length = xs.length := by simpa using h1
      rcases A with _ | ⟨a, A⟩
      · simp only [List.nil_append, List.zip_cons_cons, List.cons.injEq, List.map_nil] at h2 h4
        obtain ⟨rfl, rfl⟩ := h2
        obtain ⟨e1, e2⟩ := h4
        simp only [Prod.mk.injEq, true_and] at e1
        subst e1
        have := (aft_past (s := i) (l := r) (i := i + 1) hl (by omega)).2 ⟨by simpa using h3, hrl, e2⟩
        refine ⟨i, Int.le_refl _, by simp only [List.length_cons]; omega, ?_⟩
        simp only [aftG, if_true, this]; rfl
      · simp only [List.cons_append, List.zip_cons_cons, List.cons.injEq, List.map_cons] at h2 h4
        obtain ⟨rfl, h2⟩ := h2
        obtain ⟨e1, e2⟩ := h4
        simp only [dec2, Prod.mk.injEq, true_and] at e1
        subst e1
        obtain ⟨s, g1, g2, g3⟩ := (aft_zip (l := r) (i := i + 1) hl).2 ⟨hrl, A, p, B, h2, fun q hq => h3 q (by rw [List.cons_append]; exact List.mem_cons_of_mem _ hq), e2⟩
        refine ⟨s, by omega, by simp only [List.length_cons]; omega, ?_⟩
        have hx : ¬ x = 1 := h3 (t, x) (by simp)
        simp only [aftG, hx, if_neg (show ¬ i = s by omega), if_false, g3]; rfl
def canZ : Nat → List (Int × Int) → Prop
  | 0, _ => True
  | k + 1, Z => ∃ W, StZ Z W ∧ canZ k W
theorem zip_of (W : List (Int × Int)) : (W.map (·.1)).zip (W.map (·.2)) = W := by
  induction W with
  | nil => rfl
  | cons p W ih => simp [ih]
theorem stZ_fst {Z W : List (Int × Int)} (h : StZ Z W) : W.map (·.1) = Z.map (·.1) := by
  obtain ⟨A, p, B, rfl, -, rfl⟩ := h
  have e : ∀ C : List (Int × Int), (C.map dec2).map (·.1) = C.map (·.1) := fun C => by
    rw [List.map_map]; exact List.map_congr_left fun q _ => rfl
  simp only [List.map_append, List.map_cons, e]
theorem zip_fst : ∀ {t x : List Int}, t.length = x.length → (t.zip x).map (·.1) = t
  | [], [], _ => rfl
  | a :: t, b :: x, h => by simp [zip_fst (t := t) (x := x) (by simpa using h)]
theorem canK_Z {t : List Int} : ∀ {k : Nat} {x : List Int}, t.length = x.length → (canK t k x = true ↔ canZ k (t.zip x))
  | 0, x, h => by simp [canK, canZ]
  | k + 1, x, h => by
    rw [canK_succ]
    constructor
    · rintro ⟨s, s1, l, s2, s3⟩
      obtain ⟨g1, g2⟩ := (aft_zip h).1 ⟨s, by omega, by omega, s2⟩
      exact ⟨t.zip l, g2, (canK_Z (by omega)).1 s3⟩
    · rintro ⟨W, w1, w2⟩
      have hf := stZ_fst w1
      rw [zip_fst h] at hf
      have hW : W = t.zip (W.map (·.2)) := by conv => lhs; rw [← zip_of W, hf]
      have hl : (W.map (·.2)).length = x.length := by
        have := congrArg List.length hf
        simp at this ⊢; omega
      rw [hW] at w1 w2
      obtain ⟨s, g1, g2, g3⟩ := (aft_zip (i := 0) h).2 ⟨hl, w1⟩
      obtain ⟨n, rfl⟩ := Int.eq_ofNat_of_zero_le g1
      exact ⟨n, by omega, _, g3, (canK_Z (by omega)).2 w2⟩
theorem stZ_perm {Z W Z' : List (Int × Int)} (h : StZ Z W) (hp : Z.Perm Z') : ∃ W', StZ Z' W' ∧ W.Perm W' := by
  obtain ⟨A, p, B, rfl, h2, rfl⟩ := h
  have hm : p ∈ Z' := hp.subset (by simp)
  obtain ⟨C, D, rfl⟩ := List.append_of_mem hm
  have hq : (A ++ B).Perm (C ++ D) := by
    have e1 : (A ++ p :: B).Perm (p :: (A ++ B)) := List.perm_middle
    have e2 : (C ++ p :: D).Perm (p :: (C ++ D)) := List.perm_middle
    exact (List.perm_cons p).1 ((e1.symm.trans hp).trans e2)
  refine ⟨_, ⟨C, p, D, rfl, fun q hq' => h2 q (hq.symm.subset hq'), rfl⟩, ?_⟩
  refine List.perm_middle.trans (List.Perm.trans ?_ List.perm_middle.symm)
  rw [List.perm_cons, ← List.map_append, ← List.map_append]
  exact hq.map _
theorem canZ_perm : ∀ {k : Nat} {Z Z' : List (Int × Int)}, Z.Perm Z' → canZ k Z → canZ k Z'
  | 0, _, _, _, _ => trivial
  | k + 1, Z, Z', hp, ⟨W, w1, w2⟩ => by
    obtain ⟨W', g1, g2⟩ := stZ_perm w1 hp
    exact ⟨W', g1, canZ_perm g2 w2⟩
theorem zip_self : ∀ t : List Int, t.zip t = t.map fun y => (y, y)
  | [] => rfl
  | a :: t => by simp [zip_self t]
theorem canK_perm {t t' : List Int} (h : t.Perm t') (k : Nat) : canK t k t = canK t' k t' := by
  rw [Bool.eq_iff_iff, canK_Z rfl, canK_Z rfl, zip_self, zip_self]
  exact ⟨canZ_perm (h.map _), canZ_perm (h.symm.map _)⟩
theorem ok8_perm {t t' : List Int} (h : t.Perm t') (h8 : ok8 t = true) : ok8 t' = true := ok8_iff.2 fun y hy => ok8_iff.1 h8 y (h.symm.subset hy)
theorem alive_perm {t t' : List Int} (h : t.Perm t') (h8 : ok8 t = true) (h4 : t.length ≤ 4) : (aliveF t).2 = (aliveF t').2 := by
  have h8' := ok8_perm h h8
  have hl := h.length_eq
  have e : Ever t t ↔ Ever t' t' := by unfold Ever; simp only [canK_perm h]
  have l : ∀ n, Long t t n → Long t' t' n := fun n hn => by unfold Long at hn ⊢; rw [← canK_perm h, ← canK_perm h]; exact hn
  rcases aliveF_spec h8 h4 with ⟨a1, a2, -⟩ | ⟨n, a1, a2⟩ <;> rcases aliveF_spec h8' (by omega) with ⟨b1, b2, -⟩ | ⟨m, b1, b2⟩
  · omega
  · have := e.1 a1 (m + 1); rw [b2.2] at this; cases this
  · have := e.2 b1 (n + 1); rw [a2.2] at this; cases this
  · rw [a1, b1, long_uniq (l n a2) b2]
theorem can_perm {t t' : List Int} (h : t.Perm t') (h8 : ok8 t = true) (h4 : t.length ≤ 4) : canB t = canB t' := by
  unfold canB; rw [alive_perm h h8 h4]

/-! ### Greater numbers -/
theorem aft_more {s : Int} : ∀ {t t' x y x1 : List Int} {i : Int}, leP t t' → leP x y → (∀ a ∈ x, 1 ≤ a) → aftG s t x i = some x1 → ∃ y1, aftG s t' y i = some y1 ∧ leP x1 y1
  | [], [], x, y, x1, i, _, h, h1, ha => by simp [aftG] at ha; subst ha; exact ⟨[], rfl, trivial⟩
  | [], _ :: _, x, y, x1, i, h, _, _, _ => by simp [leP] at h
  | _ :: _, [], x, y, x1, i, h, _, _, _ => by simp [leP] at h
  | t :: ts, t' :: ts', [], y, x1, i, _, h, h1, ha => by simp [aftG] at ha
  | t :: ts, t' :: ts', x :: xs, [], x1, i, _, h, h1, ha => by simp [leP] at h
  | t :: ts, t' :: ts', x :: xs, y :: ys, x1, i, ht, h, h1, ha => by
    simp only [aftG] at ha ⊢
    have h1' : ∀ a ∈ xs, 1 ≤ a := fun a ha => h1 a (by simp [ha])
    have hx := h1 x (by simp)
    by_cases hs : i = s
    · rw [if_pos hs] at ha ⊢
      cases hr : aftG s ts xs (i + 1) with
      | none => rw [hr] at ha; simp at ha
      | some r =>
        rw [hr] at ha; simp at ha; subst ha
        obtain ⟨r', g1, g2⟩ := aft_more ht.2 h.2 h1' hr
        exact ⟨t' :: r', by rw [g1]; rfl, ht.1, g2⟩
    · rw [if_neg hs] at ha ⊢
      by_cases h0 : x = 1
      · rw [if_pos h0] at ha; cases ha
      · rw [if_neg h0] at ha
        have := h.1
        rw [if_neg (by omega)]
        cases hr : aftG s ts xs (i + 1) with
        | none => rw [hr] at ha; simp at ha
        | some r =>
          rw [hr] at ha; simp at ha; subst ha
          obtain ⟨r', g1, g2⟩ := aft_more ht.2 h.2 h1' hr
          exact ⟨(y - 1) :: r', by rw [g1]; rfl, by omega, g2⟩
theorem leP_len : ∀ {x y : List Int}, leP x y → x.length = y.length
  | [], [], _ => rfl
  | [], _ :: _, h => by simp [leP] at h
  | _ :: _, [], h => by simp [leP] at h
  | _ :: xs, _ :: ys, h => by simp [leP_len h.2]
theorem canK_more {t t' : List Int} (ht : leP t t') (h1 : ∀ y ∈ t, 1 ≤ y) (h1' : ∀ y ∈ t', 1 ≤ y) : ∀ {k : Nat} {x y : List Int}, val t x → val t' y → leP x y → canK t k x = true → canK t' k y = true
  | 0, _, _, _, _, _, _ => rfl
  | k + 1, x, y, hx, hy, hl, h => by
    obtain ⟨s, s1, l, s2, s3⟩ := canK_succ.1 h
    obtain ⟨l', g1, g2⟩ := aft_more ht hl (val_ge1 hx) s2
    have := leP_len ht
    exact canK_succ.2 ⟨s, by omega, l', g1, canK_more ht h1 h1' (aft_val hx h1 s2) (aft_val hy h1' g1) g2 s3⟩
theorem can_more {t t' : List Int} (ht : leP t t') (h8 : ok8 t = true) (h8' : ok8 t' = true) (h4 : t.length ≤ 4) (h : canB t = true) : canB t' = true := by
  have := leP_len ht
  rw [canB_iff h8 h4] at h
  rw [canB_iff h8' (by omega)]
  have a := ok8_iff.1 h8
  have b := ok8_iff.1 h8'
  exact fun k => canK_more ht (fun y hy => (a y hy).1) (fun y hy => (b y hy).1) (val_self a) (val_self b) ht (h k)
theorem leP_set : ∀ {t : List Int} {i : Nat} {x : Int}, t[i]? = some x → leP t (t.set i (x + 1))
  | [], i, x, h => by simp at h
  | y :: t, 0, x, h => by
    simp only [List.getElem?_cons_zero, Option.some.injEq] at h
    subst h
    exact ⟨by omega, leP_refl t⟩
  | y :: t, i + 1, x, h => ⟨Int.le_refl _, leP_set (by simpa using h)⟩

/-! ### Some of the numbers -/
theorem can_part {t u r : List Int} (h : t.Perm (u ++ r)) (hu : u ≠ []) (h8 : ok8 t = true) (h4 : t.length ≤ 4) (hc : canB t = true) : canB u = true := by
  have hl := h.length_eq
  rw [can_perm h h8 h4] at hc
  exact canB_pre hu (ok8_perm h h8) (by omega) hc
end Go.Sx.Wk
