/- What can be walked: plain facts. No conditions. -/
import Derived.Test.YtmakepdccccmaaaSxQ5
set_option linter.unusedVariables false
set_option linter.unusedSimpArgs false
namespace Go.Sx.Wk
open Go Go.Sx Go.Proofs

def val : List Int → List Int → Prop
  | [], [] => True
  | t :: ts, x :: xs => 1 ≤ x ∧ x ≤ t ∧ val ts xs
  | _, _ => False
theorem val_len : ∀ {t x : List Int}, val t x → t.length = x.length
  | [], [], _ => rfl
  | t :: ts, x :: xs, h => by simp [val_len h.2.2]
theorem val_self : ∀ {t : List Int}, (∀ y ∈ t, 1 ≤ y ∧ y ≤ 8) → val t t
  | [], _ => trivial
  | t :: ts, h => ⟨(h t (by simp)).1, Int.le_refl _, val_self fun y hy => h y (by simp [hy])⟩
theorem val_ok8 : ∀ {t x : List Int}, val t x → (∀ y ∈ t, 1 ≤ y ∧ y ≤ 8) → ∀ y ∈ x, 1 ≤ y ∧ y ≤ 8
  | [], [], _, _, y, hy => by simp at hy
  | t :: ts, x :: xs, h, h8, y, hy => by
    have := h8 t (by simp)
    simp only [List.mem_cons] at hy
    rcases hy with rfl | hy
    · exact ⟨h.1, by have := h.2.1; omega⟩
    · exact val_ok8 h.2.2 (fun z hz => h8 z (by simp [hz])) y hy
theorem val_snoc : ∀ {ts xs : List Int} {t x : Int}, val (ts ++ [t]) (xs ++ [x]) ↔ val ts xs ∧ 1 ≤ x ∧ x ≤ t
  | [], [], t, x => by simp [val]
  | [], y :: xs, t, x => by
    simp only [List.nil_append, List.cons_append, val, false_and, iff_false]
    rintro ⟨_, _, h⟩
    cases xs <;> simp [val] at h
  | a :: ts, [], t, x => by
    simp only [List.nil_append, List.cons_append, val, false_and, iff_false]
    rintro ⟨_, _, h⟩
    cases ts <;> simp [val] at h
  | a :: ts, y :: xs, t, x => by
    simp only [List.cons_append, val, val_snoc]
    constructor
    · rintro ⟨a, b, c, d⟩; exact ⟨⟨a, b, c⟩, d⟩
    · rintro ⟨⟨a, b, c⟩, d⟩; exact ⟨a, b, c, d⟩
theorem aft_val {s : Int} : ∀ {t x l : List Int} {i : Int}, val t x → (∀ y ∈ t, 1 ≤ y) → aftG s t x i = some l → val t l
  | [], [], l, i, _, _, h => by simp [aftG] at h; subst h; trivial
  | t :: ts, x :: xs, l, i, hv, h1, h => by
    simp only [aftG] at h
    have ht := h1 t (by simp)
    split at h
    · cases hr : aftG s ts xs (i + 1) with
      | none => simp [hr] at h
      | some r => simp [hr] at h; subst h; exact ⟨ht, Int.le_refl _, aft_val hv.2.2 (fun y hy => h1 y (by simp [hy])) hr⟩
    · split at h
      · cases h
      · cases hr : aftG s ts xs (i + 1) with
        | none => simp [hr] at h
        | some r =>
          simp [hr] at h; subst h
          have a := hv.1; have b := hv.2.1
          exact ⟨by omega, by omega, aft_val hv.2.2 (fun y hy => h1 y (by simp [hy])) hr⟩

theorem idxL_snoc : ∀ {ts xs : List Int} {t x a : Int}, ts.length = xs.length → idxL (ts ++ [t]) (xs ++ [x]) a = idxL ts xs a * t + x - 1
  | [], [], t, x, a, _ => rfl
  | b :: ts, y :: xs, t, x, a, h => by simp only [List.cons_append, idxL]; exact idxL_snoc (by simpa using h)
theorem upTo_len (l : List Int) (k n : Nat) : (upTo l k n).length = n := by simp [upTo]
theorem flat_get {n : Nat} : ∀ (L : List (List Int)) (q r : Nat), r < n → (L.flatMap fun l => upTo l 1 n)[q * n + r]? = (L[q]?).map (· ++ [((1 + r : Nat) : Int)])
  | [], q, r, h => by simp
  | a :: L, 0, r, h => by
    simp only [List.flatMap_cons, Nat.zero_mul, Nat.zero_add, List.getElem?_cons_zero, Option.map_some]
    rw [List.getElem?_append_left (by rw [upTo_len]; exact h)]
    simp [upTo, h]
  | a :: L, q + 1, r, h => by
    simp only [List.flatMap_cons, List.getElem?_cons_succ]
    rw [List.getElem?_append_right (by rw [upTo_len, Nat.add_mul]; omega), upTo_len]
    rw [show (q + 1) * n + r - n = q * n + r by rw [Nat.add_mul]; omega]
    exact flat_get L q r h
theorem stR_get : ∀ {r x : List Int}, val r.reverse x → ∃ i : Nat, idxL r.reverse x 0 = i ∧ (stL r.reverse)[i]? = some x
  | [], x, h => by
    cases x with
    | nil => exact ⟨0, rfl, by simp [stL, stR]⟩
    | cons y xs => simp [val] at h
  | t :: r, x, h => by
    rw [List.reverse_cons] at h ⊢
    rcases List.eq_nil_or_concat x with rfl | ⟨xs, y, rfl⟩
    · have := val_len h; simp at this
    · rw [List.concat_eq_append] at h ⊢
      obtain ⟨h1, h2, h3⟩ := val_snoc.1 h
      obtain ⟨i, e1, e2⟩ := stR_get h1
      have hl := val_len h1
      obtain ⟨t, rfl⟩ := Int.eq_ofNat_of_zero_le (show 0 ≤ t by omega)
      obtain ⟨y, rfl⟩ := Int.eq_ofNat_of_zero_le (show 0 ≤ y by omega)
      refine ⟨i * t + (y - 1), ?_, ?_⟩
      · rw [idxL_snoc hl, e1]
        have : 1 ≤ y := by omega
        rw [Int.natCast_add, Int.natCast_mul, Int.ofNat_sub this]; omega
      · rw [stL_snoc, Int.toNat_natCast, flat_get _ _ _ (by omega), e2]
        simp only [Option.map_some]
        congr 3
        omega
theorem idx_get {t x : List Int} (h : val t x) : ∃ i : Nat, idxL t x 0 = i ∧ (stL t)[i]? = some x := by
  have := stR_get (r := t.reverse) (x := x) (by simpa using h)
  simpa using this
theorem stR_val : ∀ {r x : List Int}, (∀ y ∈ r, 1 ≤ y) → x ∈ stR r → val r.reverse x
  | [], x, _, h => by simp [stR] at h; subst h; trivial
  | t :: r, x, h1, h => by
    simp only [stR, List.mem_flatMap, upTo, List.mem_map, List.mem_range] at h
    obtain ⟨a, ha, j, hj, rfl⟩ := h
    rw [List.reverse_cons]
    have := h1 t (by simp)
    exact val_snoc.2 ⟨stR_val (fun y hy => h1 y (by simp [hy])) ha, by omega, by omega⟩
theorem st_val {t x : List Int} (h1 : ∀ y ∈ t, 1 ≤ y) (h : x ∈ stL t) : val t x := by
  have := stR_val (r := t.reverse) (fun y hy => h1 y (by simpa using hy)) h
  simpa using this

/-- So many tides can be walked. -/
def canK (t : List Int) : Nat → List Int → Bool
  | 0, _ => true
  | k + 1, x => (List.range t.length).any fun s => match aftG s t x 0 with
    | some l => canK t k l
    | none => false
theorem canK_succ {t : List Int} {k : Nat} {x : List Int} : canK t (k + 1) x = true ↔ ∃ s, s < t.length ∧ ∃ l, aftG (s : Nat) t x 0 = some l ∧ canK t k l = true := by
  simp only [canK, List.any_eq_true, List.mem_range]
  constructor
  · rintro ⟨s, h1, h2⟩
    split at h2
    · rename_i l hl; exact ⟨s, h1, l, hl, h2⟩
    · cases h2
  · rintro ⟨s, h1, l, hl, h2⟩
    exact ⟨s, h1, by rw [hl]; exact h2⟩
theorem canK_anti {t : List Int} : ∀ {k : Nat} {x : List Int}, canK t (k + 1) x = true → canK t k x = true
  | 0, _, _ => rfl
  | k + 1, x, h => by
    obtain ⟨s, h1, l, hl, h2⟩ := canK_succ.1 h
    exact canK_succ.2 ⟨s, h1, l, hl, canK_anti h2⟩
theorem canK_le {t : List Int} {j k : Nat} {x : List Int} (hjk : j ≤ k) (h : canK t k x = true) : canK t j x = true := by
  induction hjk with
  | refl => exact h
  | step _ ih => exact ih (canK_anti h)
def cnt (t : List Int) (k : Nat) : Nat := (stL t).countP (canK t k)
theorem cnt_lt_aux {p q : List Int → Bool} (h : ∀ x, q x = true → p x = true) : ∀ {L : List (List Int)}, L.map q ≠ L.map p → L.countP q < L.countP p
  | [], hne => (hne rfl).elim
  | x :: L, hne => by
    have mono : L.countP q ≤ L.countP p := List.countP_mono_left fun y _ hy => h y hy
    simp only [List.countP_cons]
    by_cases hx : q x = p x
    · have : L.map q ≠ L.map p := fun e => hne (by simp [hx, e])
      have := cnt_lt_aux h this
      rw [hx]; omega
    · have hq : q x = false := by
        cases hq : q x
        · rfl
        · exact absurd (hq.trans (h x hq).symm) hx
      have hp : p x = true := by
        cases hp : p x
        · exact absurd (hq.trans hp.symm) hx
        · rfl
      rw [hq, hp]; simp; omega
theorem cnt_lt {t : List Int} {k : Nat} (h : (stL t).map (canK t (k + 1)) ≠ (stL t).map (canK t k)) : cnt t (k + 1) < cnt t k :=
  cnt_lt_aux (fun _ => canK_anti) h

/-- What 'alive' returns. -/
def alv (t : List Int) : Nat → Nat → List Bool × Int
  | 0, _ => ([], 0)
  | f + 1, k => if canK t k t = false then ((stL t).map (canK t k), (k : Int) - 1) else
    if (stL t).map (canK t (k + 1)) = (stL t).map (canK t k) then ((stL t).map (canK t k), -1) else alv t f (k + 1)
def aliveF (t : List Int) : List Bool × Int := alv t 5000 0

theorem canK_stable {t : List Int} (h1 : ∀ y ∈ t, 1 ≤ y) {k : Nat} (h : (stL t).map (canK t (k + 1)) = (stL t).map (canK t k)) : ∀ (j : Nat) (x : List Int), val t x → canK t k x = true → canK t (k + j) x = true := by
  have h' : ∀ x, val t x → canK t k x = true → canK t (k + 1) x = true := fun x hx hk => by
    obtain ⟨i, _, hi⟩ := idx_get hx
    have e : ((stL t).map (canK t (k + 1)))[i]? = ((stL t).map (canK t k))[i]? := by rw [h]
    rw [List.getElem?_map, List.getElem?_map, hi] at e
    simp at e
    rw [e]; exact hk
  intro j
  induction j with
  | zero => intro x _ h; exact h
  | succ j ih =>
    intro x hx hk
    have h2 := h' x hx hk
    obtain ⟨s, h3, l, hl, h4⟩ := canK_succ.1 h2
    exact canK_succ.2 ⟨s, h3, l, hl, ih l (aft_val hx h1 hl) h4⟩

/-- A walk can go on for ever. -/
def Ever (t x : List Int) : Prop := ∀ k, canK t k x = true
theorem alv_spec {t : List Int} (h1 : ∀ y ∈ t, 1 ≤ y) (ht : val t t) : ∀ (f k : Nat), cnt t k < f → (∀ j, j < k → canK t j t = true) →
    (Ever t t ∧ (alv t f k).2 = -1 ∧ ∀ (i : Nat) (x : List Int), (stL t)[i]? = some x → (((alv t f k).1)[i]? = some true ↔ Ever t x)) ∨ (∃ n : Nat, (alv t f k).2 = n ∧ canK t n t = true ∧ canK t (n + 1) t = false) := by
  intro f
  induction f with
  | zero => intro k h; omega
  | succ f ih =>
    intro k hk hj
    simp only [alv]
    by_cases h0 : canK t k t = false
    · rw [if_pos h0]
      right
      cases k with
      | zero => simp [canK] at h0
      | succ k => exact ⟨k, by simp only; omega, hj k (by omega), h0⟩
    · rw [if_neg h0]
      have h0' : canK t k t = true := by simpa using h0
      by_cases hs : (stL t).map (canK t (k + 1)) = (stL t).map (canK t k)
      · rw [if_pos hs]
        left
        have ev : ∀ x, val t x → (canK t k x = true ↔ Ever t x) := fun x hx => ⟨fun h j => by
          rcases Nat.le_total j k with hjk | hjk
          · exact canK_le hjk h
          · have := canK_stable h1 hs (j - k) x hx h
            rwa [show k + (j - k) = j by omega] at this, fun h => h k⟩
        refine ⟨(ev t ht).1 h0', rfl, fun i x hx => ?_⟩
        simp only [List.getElem?_map, hx, Option.map_some, Option.some.injEq]
        exact ev x (st_val h1 (List.mem_of_getElem? hx))
      · rw [if_neg hs]
        have := cnt_lt hs
        refine ih (k + 1) (by omega) (fun j hj' => ?_)
        rcases Nat.lt_or_ge j k with h | h
        · exact hj j h
        · have : j = k := by omega
          subst this; exact h0'

end Go.Sx.Wk
