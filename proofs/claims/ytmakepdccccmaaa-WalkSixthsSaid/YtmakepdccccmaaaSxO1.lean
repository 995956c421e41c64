/- How inspectors divide the stretches: plain facts. No conditions. -/
import Derived.Test.YtmakepdccccmaaaSxJQBtoQD
set_option linter.unusedVariables false
set_option linter.unusedSimpArgs false
namespace Go.Sx.Wk
open Go Go.Sx Go.Proofs

/-! ### A stretch less -/
def leP : List Int → List Int → Prop
  | [], [] => True
  | x :: xs, y :: ys => x ≤ y ∧ leP xs ys
  | _, _ => False
theorem leP_refl : ∀ (x : List Int), leP x x
  | [] => trivial
  | x :: xs => ⟨Int.le_refl _, leP_refl xs⟩
theorem aft_mono {s : Int} : ∀ {t x y x1 : List Int} {i : Int}, leP x y → (∀ a ∈ x, 1 ≤ a) → aftG s t x i = some x1 → ∃ y1, aftG s t y i = some y1 ∧ leP x1 y1
  | [], x, y, x1, i, h, h1, ha => by simp [aftG] at ha; subst ha; exact ⟨[], rfl, trivial⟩
  | t :: ts, [], y, x1, i, h, h1, ha => by simp [aftG] at ha
  | t :: ts, x :: xs, [], x1, i, h, h1, ha => by simp [leP] at h
  | t :: ts, x :: xs, y :: ys, x1, i, h, h1, ha => by
    simp only [aftG] at ha ⊢
    have h1' : ∀ a ∈ xs, 1 ≤ a := fun a ha => h1 a (by simp [ha])
    have hx := h1 x (by simp)
    by_cases hs : i = s
    · rw [if_pos hs] at ha ⊢
      cases hr : aftG s ts xs (i + 1) with
      | none => rw [hr] at ha; simp at ha
      | some r =>
        rw [hr] at ha; simp at ha; subst ha
        obtain ⟨r', g1, g2⟩ := aft_mono h.2 h1' hr
        exact ⟨t :: r', by rw [g1]; rfl, Int.le_refl _, g2⟩
    · rw [if_neg hs] at ha ⊢
      by_cases h0 : x = 1
      · rw [if_pos h0] at ha; cases ha
      · rw [if_neg h0] at ha
        have := h.1
        rw [if_neg (by omega)]
        cases hr : aftG s ts xs (i + 1) with
        | none => rw [hr] at ha; simp at ha
        | some r =>
          rw [hr] at ha; simp at ha; subst ha
          obtain ⟨r', g1, g2⟩ := aft_mono h.2 h1' hr
          exact ⟨(y - 1) :: r', by rw [g1]; rfl, by omega, g2⟩
theorem val_ge1 : ∀ {t x : List Int}, val t x → ∀ a ∈ x, 1 ≤ a
  | [], [], _, a, h => by simp at h
  | t :: ts, x :: xs, h, a, ha => by
    rw [List.mem_cons] at ha
    rcases ha with rfl | ha
    · exact h.1
    · exact val_ge1 h.2.2 a ha
theorem canK_mono {t : List Int} (h1 : ∀ y ∈ t, 1 ≤ y) : ∀ {k : Nat} {x y : List Int}, val t x → val t y → leP x y → canK t k x = true → canK t k y = true
  | 0, _, _, _, _, _, _ => rfl
  | k + 1, x, y, hx, hy, hl, h => by
    obtain ⟨s, s1, l, s2, s3⟩ := canK_succ.1 h
    obtain ⟨l', g1, g2⟩ := aft_mono hl (val_ge1 hx) s2
    exact canK_succ.2 ⟨s, s1, l', g1, canK_mono h1 (aft_val hx h1 s2) (aft_val hy h1 g1) g2 s3⟩
theorem aft_app {s : Int} : ∀ {a b x y z : List Int} {i : Int}, a.length = x.length → aftG s (a ++ b) (x ++ y) i = some z → ∃ x1 y1, z = x1 ++ y1 ∧ aftG s a x i = some x1 ∧ aftG s b y (i + a.length) = some y1
  | [], b, [], y, z, i, h, ha => ⟨[], z, rfl, rfl, by simpa using ha⟩
  | a :: ar, b, x :: xs, y, z, i, h, ha => by
    simp only [List.cons_append, aftG] at ha ⊢
    simp only [List.length_cons, Nat.add_right_cancel_iff] at h
    have e : i + 1 + (ar.length : Int) = i + ((a :: ar).length : Nat) := by simp only [List.length_cons]; omega
    by_cases hs : i = s
    · rw [if_pos hs] at ha ⊢
      cases hr : aftG s (ar ++ b) (xs ++ y) (i + 1) with
      | none => rw [hr] at ha; simp at ha
      | some r =>
        rw [hr] at ha; simp at ha; subst ha
        obtain ⟨x1, y1, g1, g2, g3⟩ := aft_app h hr
        rw [e] at g3
        exact ⟨a :: x1, y1, by simp [g1], by rw [g2]; rfl, g3⟩
    · rw [if_neg hs] at ha ⊢
      by_cases h0 : x = 1
      · rw [if_pos h0] at ha; cases ha
      · rw [if_neg h0] at ha ⊢
        cases hr : aftG s (ar ++ b) (xs ++ y) (i + 1) with
        | none => rw [hr] at ha; simp at ha
        | some r =>
          rw [hr] at ha; simp at ha; subst ha
          obtain ⟨x1, y1, g1, g2, g3⟩ := aft_app h hr
          rw [e] at g3
          exact ⟨(x - 1) :: x1, y1, by simp [g1], by rw [g2]; rfl, g3⟩
/-- A tide in which no stretch of these is met: all are one less. -/
theorem aft_out {s : Int} : ∀ {t x x1 : List Int} {i : Int}, val t x → i + t.length ≤ s → aftG s t x i = some x1 → ∀ s', ∃ y1, aftG s' t x i = some y1 ∧ leP x1 y1
  | [], [], x1, i, hv, hs, ha, s' => by simp [aftG] at ha; subst ha; exact ⟨[], rfl, trivial⟩
  | t :: ts, x :: xs, x1, i, hv, hs, ha, s' => by
    simp only [aftG] at ha ⊢
    simp only [List.length_cons, Int.natCast_add, Int.natCast_one] at hs
    rw [if_neg (by omega)] at ha
    have h1 := hv.1
    have h2 := hv.2.1
    by_cases h0 : x = 1
    · rw [if_pos h0] at ha; cases ha
    · rw [if_neg h0] at ha
      cases hr : aftG s ts xs (i + 1) with
      | none => rw [hr] at ha; simp at ha
      | some r =>
        rw [hr] at ha; simp at ha; subst ha
        obtain ⟨y1, g1, g2⟩ := aft_out hv.2.2 (by omega) hr s'
        by_cases hs' : i = s'
        · rw [if_pos hs']
          exact ⟨t :: y1, by rw [g1]; rfl, by omega, g2⟩
        · rw [if_neg hs', if_neg h0]
          exact ⟨(x - 1) :: y1, by rw [g1]; rfl, Int.le_refl _, g2⟩
theorem val_app : ∀ {a b x y : List Int}, a.length = x.length → (val (a ++ b) (x ++ y) ↔ val a x ∧ val b y)
  | [], b, [], y, _ => by simp [val]
  | a :: ar, b, x :: xs, y, h => by
    simp only [List.length_cons, Nat.add_right_cancel_iff] at h
    simp only [List.cons_append, val, val_app h, and_assoc]
theorem canK_pre {a b : List Int} (ha : a ≠ []) (h1 : ∀ y ∈ a ++ b, 1 ≤ y) : ∀ {k : Nat} {x y : List Int}, a.length = x.length → val (a ++ b) (x ++ y) → canK (a ++ b) k (x ++ y) = true → canK a k x = true
  | 0, _, _, _, _, _ => rfl
  | k + 1, x, y, hl, hv, h => by
    have h1a : ∀ y ∈ a, 1 ≤ y := fun y hy => h1 y (by simp [hy])
    obtain ⟨s, s1, l, s2, s3⟩ := canK_succ.1 h
    obtain ⟨x1, y1, rfl, g2, g3⟩ := aft_app hl s2
    have hvx := ((val_app hl).1 hv).1
    have hl1 : a.length = x1.length := (aft_len g2).symm
    have hv1 := aft_val hv h1 s2
    have ih := canK_pre ha h1 hl1 hv1 s3
    have hvx1 := ((val_app hl1).1 hv1).1
    by_cases hs : s < a.length
    · exact canK_succ.2 ⟨s, hs, x1, g2, ih⟩
    · obtain ⟨z, z1, z2⟩ := aft_out (i := 0) hvx (by omega) g2 ((0 : Nat) : Int)
      exact canK_succ.2 ⟨0, List.length_pos_iff.2 ha, z, z1, canK_mono h1a hvx1 (aft_val hvx h1a z1) z2 ih⟩
theorem canB_pre {a b : List Int} (ha : a ≠ []) (h8 : ok8 (a ++ b) = true) (h4 : (a ++ b).length ≤ 4) (h : canB (a ++ b) = true) : canB a = true := by
  have h8' := ok8_iff.1 h8
  have h8a : ok8 a = true := ok8_iff.2 fun y hy => h8' y (by simp [hy])
  have h4a : a.length ≤ 4 := by simp at h4; omega
  rw [canB_iff h8 h4] at h
  rw [canB_iff h8a h4a]
  exact fun k => canK_pre ha (fun y hy => (h8' y hy).1) rfl (val_self h8') (h k)
theorem canB_one {x : Int} (h : 1 ≤ x ∧ x ≤ 8) : canB [x] = true := by
  have h8 : ok8 [x] = true := ok8_iff.2 fun y hy => by simp at hy; subst hy; exact h
  rw [canB_iff h8 (by simp)]
  intro k
  induction k with
  | zero => rfl
  | succ k ih => exact canK_succ.2 ⟨0, by simp, [x], by simp [aftG], ih⟩

/-! ### Divisions -/
/-- The stretches of one inspector. -/
def grpL : List Int → List Int → Int → List Int
  | d :: ds, x :: ts, g => if d = g then x :: grpL ds ts g else grpL ds ts g
  | _, _, _ => []
def nextL : List Int → Int := fun l => l.foldl (fun a g => max a (g + 1)) 0
theorem nextL_app (l : List Int) (g : Int) : nextL (l ++ [g]) = max (nextL l) (g + 1) := by simp [nextL]
theorem nextL_ge : ∀ (l : List Int) (a : Int), a ≤ l.foldl (fun a g => max a (g + 1)) a
  | [], a => Int.le_refl _
  | g :: l, a => by have := nextL_ge l (max a (g + 1)); simp only [List.foldl_cons]; omega
theorem nextL_nonneg (l : List Int) : 0 ≤ nextL l := nextL_ge l 0
/-- Groups up to a number. -/
def gs (n : Nat) : List Int := (List.range n).map fun (i : Nat) => (i : Int)
/-- All lists of inspectors that begin with some. -/
def divs : Nat → List Int → List (List Int)
  | 0, l => [l]
  | r + 1, l => (gs ((nextL l).toNat + 1)).flatMap fun g => divs r (l ++ [g])
theorem own_app : ∀ {l k t u : List Int} {g : Int}, l.length = t.length → grpL (l ++ k) (t ++ u) g = grpL l t g ++ grpL k u g
  | [], k, [], u, g, _ => by simp [grpL]
  | d :: ds, k, x :: ts, u, g, h => by
    simp only [List.length_cons, Nat.add_right_cancel_iff] at h
    simp only [List.cons_append, grpL, own_app h]
    split <;> simp
theorem own_take {l t : List Int} {g : Int} (h : l.length ≤ t.length) : grpL l t g = grpL l (t.take l.length) g := by
  induction l generalizing t with
  | nil => simp [grpL]
  | cons d ds ih =>
    cases t with
    | nil => simp at h
    | cons x ts =>
      simp only [List.length_cons, Nat.add_le_add_iff_right] at h
      simp only [List.length_cons, List.take_succ_cons, grpL, ih h]
theorem own_len : ∀ {l t : List Int} {g : Int}, (grpL l t g).length ≤ t.length
  | [], t, g => by simp [grpL]
  | d :: ds, [], g => by simp [grpL]
  | d :: ds, x :: ts, g => by
    have := own_len (l := ds) (t := ts) (g := g)
    simp only [grpL]
    split <;> simp <;> omega
theorem own_mem : ∀ {l t : List Int} {g y : Int}, y ∈ grpL l t g → y ∈ t
  | [], t, g, y, h => by simp [grpL] at h
  | d :: ds, [], g, y, h => by simp [grpL] at h
  | d :: ds, x :: ts, g, y, h => by
    simp only [grpL] at h
    split at h
    · rw [List.mem_cons] at h
      rcases h with rfl | h
      · simp
      · simp [own_mem h]
    · simp [own_mem h]
theorem divs_pre : ∀ {r : Nat} {l L : List Int}, L ∈ divs r l → ∃ k, L = l ++ k ∧ k.length = r ∧ nextL l ≤ nextL L
  | 0, l, L, h => by simp [divs] at h; subst h; exact ⟨[], by simp, rfl, Int.le_refl _⟩
  | r + 1, l, L, h => by
    simp only [divs, List.mem_flatMap] at h
    obtain ⟨g, -, h⟩ := h
    obtain ⟨k, h1, h2, h3⟩ := divs_pre h
    rw [nextL_app] at h3
    exact ⟨g :: k, by simp [h1], by simp [h2], by omega⟩

/-! ### The search for a division -/
/-- The program's search: groups of a stretch, from one on. -/
def putL (c : List Int → Bool) (t : List Int) (rec : List Int → Option (List Int)) (l : List Int) (b : Nat) : Nat → Option (List Int)
  | 0 => none
  | r + 1 => if c (grpL (l ++ [((b - (r + 1) : Nat) : Int)]) t ((b - (r + 1) : Nat) : Int)) = true then (match rec (l ++ [((b - (r + 1) : Nat) : Int)]) with
    | some L => some L
    | none => putL c t rec l b r) else putL c t rec l b r
def bnd70 (l : List Int) (most : Nat) : Nat := min ((nextL l).toNat + 1) most
def putF (c : List Int → Bool) (t : List Int) (most : Nat) : Nat → List Int → Option (List Int)
  | 0, l => some l
  | r + 1, l => putL c t (putF c t most r) l (bnd70 l most) (bnd70 l most)
/-- Whether all stretches of each inspector can be walked for ever. -/
def fit (c : List Int → Bool) (t L : List Int) : Bool := (gs t.length).all fun g => grpL L t g == [] || c (grpL L t g)
def ok70 (c : List Int → Bool) (t : List Int) (most : Nat) (L : List Int) : Bool := fit c t L && decide (nextL L ≤ most)
theorem gs_mem {n : Nat} {g : Int} : g ∈ gs n ↔ 0 ≤ g ∧ g < n := by
  simp only [gs, List.mem_map, List.mem_range]
  constructor
  · rintro ⟨i, h, rfl⟩; omega
  · rintro ⟨h0, h⟩; exact ⟨g.toNat, by omega, by omega⟩
theorem gs_split (n i : Nat) (h : i ≤ n) : gs n = gs i ++ (List.range (n - i)).map (fun (j : Nat) => ((i + j : Nat) : Int)) := by
  obtain ⟨k, rfl⟩ := Nat.exists_eq_add_of_le h
  simp [gs, List.range_add]
theorem fit_iff {c : List Int → Bool} {t L : List Int} : fit c t L = true ↔ ∀ g : Int, 0 ≤ g → g < t.length → grpL L t g = [] ∨ c (grpL L t g) = true := by
  simp only [fit, List.all_eq_true, gs_mem, Bool.or_eq_true, beq_iff_eq]
  exact ⟨fun h g a b => h g ⟨a, b⟩, fun h g a => h g a.1 a.2⟩
theorem ok70_iff {c : List Int → Bool} {t L : List Int} {most : Nat} : ok70 c t most L = true ↔ (∀ g : Int, 0 ≤ g → g < t.length → grpL L t g = [] ∨ c (grpL L t g) = true) ∧ nextL L ≤ most := by
  simp only [ok70, Bool.and_eq_true, decide_eq_true_eq, fit_iff]
theorem find_none {p : List Int → Bool} {D : List (List Int)} (h : ∀ L ∈ D, ¬ p L = true) : D.find? p = none := List.find?_eq_none.2 h
theorem find_app (p : List Int → Bool) (A B : List (List Int)) : (A ++ B).find? p = (A.find? p).or (B.find? p) := List.find?_append
theorem own_pre {l k t : List Int} {g : Int} (hl : l.length ≤ t.length) : grpL (l ++ k) t g = grpL l t g ++ grpL k (t.drop l.length) g := by
  have h1 : grpL (l ++ k) (t.take l.length ++ t.drop l.length) g = grpL l (t.take l.length) g ++ grpL k (t.drop l.length) g := own_app (by simp; omega)
  rw [List.take_append_drop] at h1
  rw [h1, ← own_take hl]
/-- The search finds the first division that fits. -/
theorem put_find {c : List Int → Bool} {t : List Int} (hc : ∀ a b, a ≠ [] → (∀ y ∈ a ++ b, y ∈ t) → (a ++ b).length ≤ t.length → c (a ++ b) = true → c a = true) {most : Nat} : ∀ (r : Nat) (l : List Int), l.length + r = t.length →
    (∀ g : Int, grpL l t g = [] ∨ c (grpL l t g) = true) → nextL l ≤ most → nextL l ≤ l.length → putF c t most r l = (divs r l).find? (ok70 c t most)
  | 0, l, hl, hf, hn, hnl => by
    have : ok70 c t most l = true := ok70_iff.2 ⟨fun g _ _ => hf g, hn⟩
    simp [putF, divs, this]
  | r + 1, l, hl, hf, hn, hnl => by
    have h0 := nextL_nonneg l
    obtain ⟨n, hN⟩ := Int.eq_ofNat_of_zero_le h0
    have hb : bnd70 l most = min (n + 1) most := by simp [bnd70, hN]
    simp only [putF, divs]
    -- a group, and what is found with it
    have key : ∀ i : Nat, i < bnd70 l most → (divs r (l ++ [(i : Int)])).find? (ok70 c t most) = if c (grpL (l ++ [(i : Int)]) t i) = true then putF c t most r (l ++ [(i : Int)]) else none := by
      intro i hi
      by_cases hci : c (grpL (l ++ [(i : Int)]) t i) = true
      · rw [if_pos hci]
        refine (put_find hc r (l ++ [(i : Int)]) (by simp; omega) (fun g => ?_) (by rw [nextL_app]; omega) (by rw [nextL_app]; simp; omega)).symm
        by_cases hg : g = i
        · subst hg; exact .inr hci
        · have hi' : ¬ (i : Int) = g := fun e => hg e.symm
          rw [own_pre (by omega)]
          have hs : grpL [(i : Int)] (t.drop l.length) g = [] := by
            cases ht : t.drop l.length with
            | nil => rfl
            | cons x ts => simp [grpL, hi']
          rw [hs, List.append_nil]; exact hf g
      · rw [if_neg hci]
        refine find_none fun L hL hok => hci ?_
        obtain ⟨k, rfl, hk, -⟩ := divs_pre hL
        have h1 := (ok70_iff.1 hok).1 i (by omega) (by omega)
        have hlen : (l ++ [(i : Int)]).length ≤ t.length := by simp; omega
        have hne : grpL (l ++ [(i : Int)]) t i ≠ [] := by
          rw [own_pre (by omega)]
          have : t.drop l.length ≠ [] := by
            intro e; have := congrArg List.length e; simp at this; omega
          cases ht : t.drop l.length with
          | nil => exact absurd ht this
          | cons x ts => simp [grpL]
        have h2 := own_pre (l := l ++ [(i : Int)]) (k := k) (t := t) (g := i) hlen
        rw [h2] at h1
        rcases h1 with h1 | h1
        · simp at h1; exact absurd h1.1 hne
        · exact hc _ _ hne (fun y hy => by rw [← h2] at hy; exact own_mem hy) (by rw [← h2]; exact own_len) h1
    -- the groups from one on
    have loop : ∀ j, j ≤ bnd70 l most → putL c t (putF c t most r) l (bnd70 l most) j = (((List.range j).map fun (x : Nat) => ((bnd70 l most - j + x : Nat) : Int)).flatMap fun g => divs r (l ++ [g])).find? (ok70 c t most) := by
      intro j
      induction j with
      | zero => intro _; simp [putL]
      | succ j ih =>
        intro hj
        rw [List.range_succ_eq_map]
        simp only [List.map_cons, List.map_map, List.flatMap_cons, Nat.add_zero, find_app, putL]
        rw [key (bnd70 l most - (j + 1)) (by omega)]
        have e : (List.range j).map ((fun (x : Nat) => ((bnd70 l most - (j + 1) + x : Nat) : Int)) ∘ Nat.succ) = (List.range j).map fun (x : Nat) => ((bnd70 l most - j + x : Nat) : Int) := by
          refine List.map_congr_left fun x _ => ?_
          simp only [Function.comp]; congr 1; omega
        rw [e, ← ih (by omega)]
        by_cases hci : c (grpL (l ++ [((bnd70 l most - (j + 1) : Nat) : Int)]) t ((bnd70 l most - (j + 1) : Nat) : Int)) = true
        · rw [if_pos hci, if_pos hci]
          cases putF c t most r (l ++ [((bnd70 l most - (j + 1) : Nat) : Int)]) <;> rfl
        · rw [if_neg hci, if_neg hci]; rfl
    rw [loop _ (Nat.le_refl _)]
    have hN' : (nextL l).toNat = n := by rw [hN]; rfl
    rw [hN', gs_split (n + 1) (bnd70 l most) (by omega), List.flatMap_append, find_app]
    have hrest : (((List.range (n + 1 - bnd70 l most)).map fun (j : Nat) => ((bnd70 l most + j : Nat) : Int)).flatMap fun g => divs r (l ++ [g])).find? (ok70 c t most) = none := by
      refine find_none fun L hL hok => ?_
      simp only [List.mem_flatMap, List.mem_map, List.mem_range] at hL
      obtain ⟨g, ⟨j, hj, rfl⟩, hL⟩ := hL
      obtain ⟨k, rfl, hk, hnx⟩ := divs_pre hL
      rw [nextL_app] at hnx
      have := (ok70_iff.1 hok).2
      omega
    rw [hrest, Option.or_none]
    simp [gs]
end Go.Sx.Wk
