/- What is left after a walk, found tide by tide or stretch by stretch: plain facts; Goes. No conditions. -/
import Derived.Test.YtmakepdccccmaaaSxJQItoQL
set_option linter.unusedVariables false
set_option linter.unusedSimpArgs false
namespace Go.Sx.Wk
open Go Go.Sx Go.Proofs

/-- Whether a walk from a state misses no stretch, and what it leaves. -/
def goodG (w : List Int) : Int → List Int → List Int → Bool
  | s, m :: ts, y :: ys => goodS s m (m - y) w && goodG w (s + 1) ts ys
  | _, _, _ => true
def endG (w : List Int) : Int → List Int → List Int → List Int
  | s, m :: ts, y :: ys => (m - endS s (m - y) w) :: endG w (s + 1) ts ys
  | _, _, _ => []
theorem goodG_nil : ∀ {s : Int} {t l : List Int}, goodG [] s t l = true
  | s, [], _ => by simp [goodG]
  | s, _ :: _, [] => by simp [goodG]
  | s, m :: ts, y :: ys => by simp [goodG, goodS, goodG_nil (t := ts)]
theorem endG_nil : ∀ {s : Int} {t l : List Int}, val t l → endG [] s t l = l
  | s, [], [], _ => rfl
  | s, m :: ts, y :: ys, h => by simp only [endG, endS, endG_nil h.2.2]; congr 1; omega
theorem goodG_some {x : Int} {r : List Int} : ∀ {t l l' : List Int} {i : Int}, val t l → aftG x t l i = some l' → goodG (x :: r) i t l = goodG r i t l' ∧ endG (x :: r) i t l = endG r i t l'
  | [], [], l', i, hv, h => by simp [aftG] at h; subst h; simp [goodG, endG]
  | m :: ts, y :: ys, l', i, hv, h => by
    simp only [aftG] at h
    have h1 := hv.1
    have h2 := hv.2.1
    by_cases hx : i = x
    · simp only [hx, if_true] at h
      cases hr : aftG x ts ys (x + 1) with
      | none => rw [hr] at h; simp at h
      | some q =>
        rw [hr] at h; simp at h; subst h
        obtain ⟨ih1, ih2⟩ := goodG_some hv.2.2 hr
        subst hx
        simp only [goodG, endG, goodS, endS, if_true]
        have hm : ¬ (0 : Int) = m := by omega
        simp only [hm, if_false, Int.sub_self]; rw [ih1, ih2]; exact ⟨rfl, rfl⟩
    · simp only [hx, if_false] at h
      by_cases hy : y = 1
      · simp [hy] at h
      · simp only [hy, if_false] at h
        cases hr : aftG x ts ys (i + 1) with
        | none => rw [hr] at h; simp at h
        | some q =>
          rw [hr] at h; simp at h; subst h
          obtain ⟨ih1, ih2⟩ := goodG_some hv.2.2 hr
          have hx' : ¬ x = i := fun e => hx e.symm
          have hm : ¬ (m - y + 1 : Int) = m := by omega
          simp only [goodG, endG, goodS, endS, hx', hm, if_false]
          rw [show m - y + 1 = m - (y - 1) by omega, ih1, ih2]; exact ⟨rfl, rfl⟩
theorem goodG_none {x : Int} {r : List Int} : ∀ {t l : List Int} {i : Int}, val t l → aftG x t l i = none → goodG (x :: r) i t l = false
  | [], [], i, hv, h => by simp [aftG] at h
  | m :: ts, y :: ys, i, hv, h => by
    simp only [aftG] at h
    simp only [goodG, Bool.and_eq_false_iff]
    by_cases hx : i = x
    · simp only [hx, if_true, Option.map_eq_none_iff] at h
      right
      rw [hx]; exact goodG_none hv.2.2 h
    · simp only [hx, if_false] at h
      have hx' : ¬ x = i := fun e => hx e.symm
      by_cases hy : y = 1
      · left
        have hm : (m - y + 1 : Int) = m := by omega
        simp [goodS, hx', hm]
      · simp only [hy, if_false, Option.map_eq_none_iff] at h
        right; exact goodG_none hv.2.2 h
/-- What a walk does from a state. -/
theorem walkS_eq {t : List Int} (h1 : ∀ y ∈ t, 1 ≤ y) : ∀ {w l : List Int}, (∀ x ∈ w, 0 ≤ x) → val t l → walkS t w (pad t l) = if goodG w 0 t l = true then some (pad t (endG w 0 t l)) else none
  | [], l, hw, hv => by simp [walkS, goodG_nil, endG_nil hv]
  | x :: r, l, hw, hv => by
    have hx := hw x (by simp)
    have hxn : ((x.toNat : Nat) : Int) = x := by omega
    simp only [walkS, stp_pad (val_len hv), hxn]
    cases ha : aftG x t l 0 with
    | none => simp [goodG_none hv ha]
    | some l' =>
      obtain ⟨g1, g2⟩ := goodG_some (r := r) hv ha
      simp only [Option.map_some]
      rw [walkS_eq h1 (fun y hy => hw y (by simp [hy])) (aft_val hv h1 ha), g1, g2]
theorem goodG_top {w : List Int} : ∀ {t : List Int} {s : Nat}, goodG w s t t = goodL w s t
  | [], s => by simp [goodG, goodL]
  | m :: r, s => by
    have := goodG_top (w := w) (t := r) (s := s + 1)
    simp only [goodG, goodL, Int.sub_self]; rw [← this]; rfl
theorem endG_top {w : List Int} : ∀ {t : List Int} {s : Int}, endG w s t t = leftL w s t
  | [], s => by simp [endG, leftL]
  | m :: r, s => by
    have h3 := lastS_end (s := s) w 0 0 rfl
    simp only [Int.sub_zero, Int.zero_add] at h3
    simp only [endG, leftL, Int.sub_self, h3, endG_top (t := r)]
theorem walk_left {t w : List Int} (h0 : toldF t w = 0) : walkS t w (pad t t) = if goodL w 0 t = true then some (pad t (leftL w 0 t)) else none := by
  obtain ⟨hc, -, hr⟩ := told_ok h0
  obtain ⟨ht, h4, hne⟩ := chk_facts hc
  have ht8 := ok8_iff.1 ht
  have := walkS_eq (t := t) (w := w) (l := t) (fun y hy => (ht8 y hy).1) (fun x hx => (hr x hx).1) (val_self ht8)
  have g := goodG_top (w := w) (t := t) (s := 0)
  simp only [Int.natCast_zero] at g
  rw [this, g, endG_top]
/-- The program's Left is the specification's. -/
theorem leftP_eq (t w : List Int) : leftP t w = leftF t w := by
  unfold leftP leftF
  by_cases h0 : toldF t w = 0
  · rw [if_pos h0, if_pos h0, walk_left h0]
    by_cases hg : goodL w 0 t = true
    · rw [if_pos hg, if_pos hg]
      have : (pad t (leftL w 0 t)).take t.length = leftL w 0 t := List.take_left' (leftL_len w t 0)
      simp only [this]
    · rw [if_neg hg, if_neg hg]
  · rw [if_neg h0, if_neg h0]

/-! ### Goes -/
theorem ever_walk {t : List Int} (h1 : ∀ y ∈ t, 1 ≤ y) : ∀ {w l l' : List Int}, (∀ x ∈ w, 0 ≤ x ∧ x ≤ t.length - 1) → val t l → val t l' → walkS t w (pad t l) = some (pad t l') → Ever t l' → Ever t l
  | [], l, l', hw, hv, hv', h, he => by
    simp only [walkS, Option.some.injEq] at h
    rw [pad_inj (val_len hv) (val_len hv') h]; exact he
  | x :: r, l, l', hw, hv, hv', h, he => by
    have hx := hw x (by simp)
    have hxn : ((x.toNat : Nat) : Int) = x := by omega
    simp only [walkS, stp_pad (val_len hv)] at h
    cases ha : aftG (x.toNat : Nat) t l 0 with
    | none => rw [ha] at h; simp at h
    | some q =>
      rw [ha] at h
      simp only [Option.map_some] at h
      have := ever_walk h1 (fun y hy => hw y (by simp [hy])) (aft_val hv h1 ha) hv' h he
      exact ever_path (.one ⟨x.toNat, by omega, ha⟩) this
/-- What the search from any state says. -/
theorem goF_any {t l : List Int} (ht : ok8 t = true) (h4 : t.length ≤ 4) (hv : val t l) : ∃ b ev sh, goF t 5000 (pad t l) [] [] = some (b, ev, sh) ∧ (b = true ↔ Ever t l) := by
  obtain ⟨b, ev, sh, h1, h2, _, h3, h5⟩ := goF_ok ht h4 5000 [] l [] [] hv inv_nil (fun k hk => by simp at hk) (unv_nil ht h4)
  refine ⟨b, ev, sh, h1, h3, fun he => ?_⟩
  cases b with
  | true => rfl
  | false =>
    obtain ⟨l', m, e1, e2, e3, e4⟩ := h2.fa _ (h5 rfl)
    have := pad_inj (val_len hv) (val_len e2) e1
    subst this
    have := he (m + 1)
    rw [e4.2] at this; cases this
theorem ever_iff {t l : List Int} (ht : ok8 t = true) (h4 : t.length ≤ 4) (hv : val t l) (hle : Ever t l → Ever t t) : (canB t && everB t l) = true ↔ Ever t l := by
  rw [Bool.and_eq_true, canB_iff ht h4]
  obtain ⟨i, i1, i2⟩ := idx_get hv
  rcases aliveF_spec ht h4 with ⟨h1, h2, h3⟩ | ⟨n, h1, h2⟩
  · have := h3 i l i2
    unfold everB
    rw [i1, Int.toNat_natCast]
    have hi : i < (aliveF t).1.length := by rw [aliveF_len ht h4]; exact (List.getElem?_eq_some_iff.1 i2).1
    rw [← this, List.getElem?_eq_getElem hi]
    simp [h1]
  · constructor
    · rintro ⟨h, -⟩; have := h (n + 1); rw [h2.2] at this; cases this
    · intro h; have := hle h (n + 1); rw [h2.2] at this; cases this
def s27 : Sp := spT 27 [.l, .l] fun (t w : List Int) => res (small t && small w) (goesF t w)
@[simp] theorem s27_g : s27.g = 27 := rfl
@[simp] theorem s27_f : s27.f = (spT 27 [.l, .l] fun (t w : List Int) => res (small t && small w) (goesF t w)).f := rfl
theorem s27_ok : s27.ok Try.prog := by
  apply spT_ok
  simp only [OkT, Ty.all, List.nil_append, List.cons_append]
  intro (t : List Int) ut (w : List Int) uw
  apply okT_res; intro hs
  refine P27.rz (ss := [s62, s55]) ⟨s62_ok, s55_ok, trivial⟩ (by simp) fun Q hQ => ?_
  delta p27 p27_r0 p27_r1 p27_r2
  simp only [Bool.and_eq_true] at hs
  obtain ⟨hst, hsw⟩ := hs
  by_cases h0 : toldF t w = 0
  case neg =>
    simp (disch := omega) [oLt, oLe, oLtN, oLeN, nLt, nLe, nLtN, nLeN, hst, hsw, h0, walkedF, noW]
    exact hQ _ _ (.p (.inl rfl) (by simp [goesF, h0]) (by simp [goesF, h0]))
  have hwl := walk_left h0
  by_cases hg0 : goodL w 0 t = true
  case neg =>
    rw [if_neg hg0] at hwl
    simp (disch := omega) [oLt, oLe, oLtN, oLeN, nLt, nLe, nLtN, nLeN, hst, hsw, h0, hwl, walkedF, noW]
    exact hQ _ _ (.p (.inl rfl) (by simp [goesF, h0, hg0]) (by simp [goesF, h0, hg0]))
  rw [if_pos hg0] at hwl
  obtain ⟨hc, -, hr⟩ := told_ok h0
  obtain ⟨ht, h4, hne⟩ := chk_facts hc
  have ht8 := ok8_iff.1 ht
  have h1 : ∀ y ∈ t, 1 ≤ y := fun y hy => (ht8 y hy).1
  have hv := left_val (w := w) (s := 0) hg0 h1
  simp only [Int.natCast_zero] at hv
  obtain ⟨b, ev, sh, g1, g2⟩ := goF_any ht h4 hv
  have hb : b = (canB t && everB t (leftL w 0 t)) := by
    rw [Bool.eq_iff_iff, g2, ever_iff ht h4 hv (fun he => ever_walk h1 hr (val_self ht8) hv hwl he)]
  obtain ⟨a0, a1, a2, a3, hp⟩ := pad4 h4
  obtain ⟨q0, q1, q2, q3, hql⟩ := list4 (pad_len (val_len hv) h4)
  rw [hql] at hwl g1
  rw [hp] at hwl
  have h55 : G55 5000 t [a0, a1, a2, a3] [] [] [.agg [vI q0, vI q1, vI q2, vI q3]] = some (vB b, ev, sh) := by simp [G55, g1]
  simp (disch := omega) [oLt, oLe, oLtN, oLeN, nLt, nLe, nLtN, nLeN, hst, hsw, h0, hwl, walkedF, shp, hp, h4, h55]
  exact hQ _ _ (.p (.inl rfl) (by simp [goesF, h0, hg0, hb]) (by simp [goesF, h0, hg0]))
end Go.Sx.Wk
namespace Go.Sx.Wk
open Go Go.Sx Go.Proofs

/-- A plan repeated, as the program looks at it: since how many tides a stretch was met. -/
def progS (s m : Int) : Int → List Int → Bool
  | _, [] => true
  | c, x :: r => if x = s then (if m < c + 1 then false else progS s m 0 r) else progS s m (c + 1) r
theorem progS_big {s m : Int} : ∀ {w : List Int} {c : Int}, m ≤ c → progS s m c (w ++ [s]) = false
  | [], c, h => by
    have : m < c + 1 := by omega
    simp [progS, this]
  | x :: r, c, h => by
    simp only [List.cons_append, progS]
    split
    · rw [if_pos (by omega)]
    · exact progS_big (by omega)
theorem progS_good {s m : Int} : ∀ {w : List Int} {c : Int}, 0 ≤ c → c < m → progS s m c (w ++ [s]) = goodS s m c (w ++ [s])
  | [], c, h0, h => by
    have h1 : ¬ m < c + 1 := by omega
    have h2 : ¬ (0 : Int) = m := by omega
    simp [progS, goodS, h1, h2]
  | x :: r, c, h0, h => by
    have h1 : ¬ m < c + 1 := by omega
    have h2 : ¬ (0 : Int) = m := by omega
    simp only [List.cons_append, progS, goodS]
    by_cases hx : x = s
    · simp only [hx, if_true, h1, h2, if_false]; exact progS_good (by omega) (by omega)
    · simp only [hx, if_false]
      by_cases hm : c + 1 = m
      · rw [if_pos hm]; exact progS_big (by omega)
      · rw [if_neg hm]; exact progS_good (by omega) (by omega)
theorem goodS_app {s m : Int} : ∀ {a b : List Int} {c : Int}, goodS s m c (a ++ b) = (goodS s m c a && goodS s m (endS s c a) b)
  | [], b, c => by simp [goodS, endS]
  | x :: r, b, c => by
    simp only [List.cons_append, goodS, endS]
    by_cases hm : (if x = s then 0 else c + 1) = m
    · rw [if_pos hm, if_pos hm]; rfl
    · rw [if_neg hm, if_neg hm]; exact goodS_app
theorem endS_app {s : Int} : ∀ {a b : List Int} {c : Int}, endS s c (a ++ b) = endS s (endS s c a) b
  | [], b, c => rfl
  | x :: r, b, c => by simp only [List.cons_append, endS]; exact endS_app
theorem endS_last {s : Int} {a : List Int} {c : Int} : endS s c (a ++ [s]) = 0 := by rw [endS_app]; simp [endS]
theorem goodS_mono {s m : Int} : ∀ {w : List Int} {c c' : Int}, 0 ≤ c' → c' ≤ c → c < m → goodS s m c w = true → goodS s m c' w = true
  | [], c, c', _, _, _, _ => rfl
  | x :: r, c, c', h0, h1, h2, h => by
    simp only [goodS] at h ⊢
    by_cases hx : x = s
    · simpa [hx] using h
    · simp only [hx, if_false] at h ⊢
      by_cases hm : c + 1 = m
      · rw [if_pos hm] at h; cases h
      · rw [if_neg hm] at h
        rw [if_neg (by omega)]
        exact goodS_mono (by omega) (by omega) (by omega) h
theorem goodS_none {s m : Int} : ∀ {w : List Int} {c : Int}, (∀ x ∈ w, ¬ x = s) → c < m → m ≤ c + w.length → goodS s m c w = false
  | [], c, _, h1, h2 => by simp at h2; omega
  | x :: r, c, h, h1, h2 => by
    have hx := h x (by simp)
    simp only [List.length_cons, Int.natCast_add] at h2
    simp only [goodS, hx, if_false]
    split
    · rfl
    · exact goodS_none (fun y hy => h y (by simp [hy])) (by omega) (by omega)
theorem rep_turn (u v : List Int) (s : Int) : ∀ n, rep (n + 1) (u ++ s :: v) = u ++ [s] ++ rep n (v ++ u ++ [s]) ++ v
  | 0 => by simp [rep_succ, rep_zero]
  | n + 1 => by rw [rep_succ, rep_turn u v s n, rep_succ]; simp [List.append_assoc]
theorem goodS_rep {s m : Int} {q : List Int} (h : goodS s m 0 q = true) (he : endS s 0 q = 0) : ∀ n, goodS s m 0 (rep n q) = true ∧ endS s 0 (rep n q) = 0
  | 0 => by simp [rep_zero, goodS, endS]
  | n + 1 => by
    obtain ⟨h1, h2⟩ := goodS_rep h he n
    rw [rep_succ, goodS_app, endS_app, h1, h2]; simp [h, he]
/-- One stretch in a plan that is repeated. -/
theorem meets_one {s m : Int} {u v : List Int} (hm : 1 ≤ m) : goodS s m 0 (rep 9 (u ++ s :: v)) = progS s m 0 (v ++ u ++ [s]) := by
  rw [progS_good (Int.le_refl _) (by omega), rep_turn u v s 8, Bool.eq_iff_iff]
  have hrep := rep_succ 7 (v ++ u ++ [s])
  have hq0 : endS s 0 (v ++ u ++ [s]) = 0 := endS_last
  constructor
  · intro h
    rw [goodS_app, goodS_app, endS_last, Bool.and_eq_true, Bool.and_eq_true] at h
    have h8 := h.1.2
    have : rep 8 (v ++ u ++ [s]) = (v ++ u ++ [s]) ++ rep 7 (v ++ u ++ [s]) := by
      simp [rep, List.replicate_succ]
    rw [this, goodS_app, Bool.and_eq_true] at h8
    exact h8.1
  · intro h
    obtain ⟨r1, r2⟩ := goodS_rep h hq0 8
    rw [goodS_app, goodS_app, endS_app (a := u ++ [s]), endS_last, r1, r2]
    rw [List.append_assoc, goodS_app, Bool.and_eq_true] at h
    have := good_end h.1 (Int.le_refl _) (by omega)
    simp only [Bool.and_true, Bool.and_eq_true]
    exact ⟨goodS_mono (Int.le_refl _) this.1 this.2 h.2, h.1⟩
theorem meets_none {s m : Int} {w : List Int} (hw : w ≠ []) (h : ∀ x ∈ w, ¬ x = s) (hm : 1 ≤ m) (h8 : m ≤ 8) : goodS s m 0 (rep 9 w) = false := by
  have hl : 0 < w.length := List.length_pos_iff.2 hw
  refine goodS_none (fun x hx => ?_) (by omega) (by rw [rep_len]; omega)
  simp only [rep, List.mem_flatten, List.mem_replicate] at hx
  obtain ⟨l, ⟨-, rfl⟩, hx⟩ := hx
  exact h x hx
theorem first_spec (p : Int → Bool) : ∀ (l : List Int) (i : Nat), (first p l i = -1 ∧ ∀ x ∈ l, p x = false) ∨ ∃ u y v, l = u ++ y :: v ∧ p y = true ∧ first p l i = (i + u.length : Nat)
  | [], i => .inl ⟨rfl, fun x h => by simp at h⟩
  | x :: l, i => by
    simp only [first]
    by_cases hx : p x = true
    · rw [if_pos hx]
      exact .inr ⟨[], x, l, rfl, hx, rfl⟩
    · rw [if_neg hx]
      rcases first_spec p l (i + 1) with ⟨h1, h2⟩ | ⟨u, y, v, h1, h2, h3⟩
      · left
        simp only [Int.natCast_add, Int.natCast_one] at h1
        refine ⟨h1, fun y hy => ?_⟩
        rw [List.mem_cons] at hy
        rcases hy with rfl | hy
        · simpa using hx
        · exact h2 y hy
      · right
        simp only [Int.natCast_add, Int.natCast_one] at h3
        refine ⟨x :: u, y, v, by simp [h1], h2, ?_⟩
        rw [h3]; simp only [List.length_cons]; omega
theorem mod_get {w : List Int} {k : Nat} (hk : k < 2 * w.length) : (w ++ w)[k]? = w[k % w.length]? := by
  rcases Nat.lt_or_ge k w.length with h | h
  · rw [List.getElem?_append_left h, Nat.mod_eq_of_lt h]
  · rw [List.getElem?_append_right h, Nat.mod_eq_sub_mod h, Nat.mod_eq_of_lt (by omega)]

def s67 : Sp := spT 67 [.l, .i] fun (t : List Int) (x : Int) => res (small t) (vI (first (fun y => decide (x = y)) t 0))
@[simp] theorem s67_g : s67.g = 67 := rfl
@[simp] theorem s67_f : s67.f = (spT 67 [.l, .i] fun (t : List Int) (x : Int) => res (small t) (vI (first (fun y => decide (x = y)) t 0))).f := rfl
theorem s67_ok : s67.ok Try.prog := by
  apply spT_ok
  simp only [OkT, Ty.all, List.nil_append, List.cons_append]
  intro (t : List Int) ut (x : Int)
  apply okT_res; intro hs
  refine P67.rz (ss := []) trivial (by simp) fun Q hQ => ?_
  delta p67 p67_r0 p67_r1
  simp [small] at hs
  simp
  refine XZ_for (fun i : Nat => ⟨[(0, .il (ints t) t.length ut), (1, vI x), (7, vI t.length), (8, vI i)], [], 0⟩) (fun i => t.length - i) (fun i => i ≤ t.length ∧ first (fun y => decide (x = y)) (t.drop i) i = first (fun y => decide (x = y)) t 0) 0 (by simp) (.to [] (by simp)) ?_
  rintro i ⟨hi, hb⟩ N Q' hN hE
  rcases Nat.lt_or_ge i t.length with h | h
  · obtain ⟨y, r, e1, e2, e3, e4, e5⟩ := drop_split h
    rw [e1] at hb
    simp only [first] at hb
    by_cases hx : x = y
    · subst hx
      simp at hb
      delta p67_l0 p67_r2 p67_r3 p67_r4 p67_r5 p67_r6
      simp (disch := omega) [oLt, oLe, oLtN, oLeN, nLt, nLe, nLtN, nLeN, h, e2, e3]
      exact hE _ _ _ .refl (hQ _ _ (.p (.inl rfl) (by simp [← hb]) rfl))
    · simp [hx] at hb
      delta p67_l0 p67_r2 p67_r3 p67_r4 p67_r5 p67_r6
      simp (disch := omega) [oLt, oLe, oLtN, oLeN, nLt, nLe, nLtN, nLeN, h, e2, e3, hx]
      refine hN _ (i + 1) (by omega) ⟨h, ?_⟩ (.to [] (by simp))
      simp only [e4]; rw [← hb]; simp
  · have h' : ¬ i < t.length := by omega
    simp [List.drop_eq_nil_of_le h, first] at hb
    delta p67_l0 p67_r2 p67_r3 p67_r4 p67_r5 p67_r6
    simp (disch := omega) [oLt, oLe, oLtN, oLeN, nLt, nLe, nLtN, nLeN, h']
    refine hE _ _ _ .refl ?_
    delta p67_r7
    simp (disch := omega) [oLt, oLe, oLtN, oLeN, nLt, nLe, nLtN, nLeN]
    exact hQ _ _ (.p (.inl rfl) (by simp [← hb]) rfl)

def s30 : Sp := spT 30 [.l, .l] fun (t w : List Int) => res (small t && small w) (vI (meetsF t w))
@[simp] theorem s30_g : s30.g = 30 := rfl
@[simp] theorem s30_f : s30.f = (spT 30 [.l, .l] fun (t w : List Int) => res (small t && small w) (vI (meetsF t w))).f := rfl
theorem s30_ok : s30.ok Try.prog := by
  apply spT_ok
  simp only [OkT, Ty.all, List.nil_append, List.cons_append]
  intro (t : List Int) ut (w : List Int) uw
  apply okT_res; intro hs
  refine P30.rz (ss := [s23, s58q, s67]) ⟨s23_ok, s58q_ok, s67_ok, trivial⟩ (by simp) fun Q hQ => ?_
  delta p30 p30_r0 p30_r1 p30_r2 p30_r3 p30_r4 p30_r5 p30_r6 p30_r7 p30_r8 p30_r9 p30_r10
  simp only [Bool.and_eq_true] at hs
  obtain ⟨hst, hsw⟩ := hs
  have hlt : t.length ≤ 1000000 := by simpa [small] using hst
  have hlw : w.length ≤ 1000000 := by simpa [small] using hsw
  by_cases hc : chk t = 0
  case neg =>
    simp (disch := omega) [oLt, oLe, oLtN, oLeN, nLt, nLe, nLtN, nLeN, hst, hc]
    exact hQ _ _ (.p (.inl rfl) (by simp [meetsF, hc]) rfl)
  by_cases hw : w.length = 0
  · simp (disch := omega) [oLt, oLe, oLtN, oLeN, nLt, nLe, nLtN, nLeN, hst, hc, hw]
    exact hQ _ _ (.p (.inl rfl) (by simp [meetsF, hc, hw]) rfl)
  by_cases h60 : 60 < w.length
  · simp (disch := omega) [oLt, oLe, oLtN, oLeN, nLt, nLe, nLtN, nLeN, hst, hc, hw, h60]
    exact hQ _ _ (.p (.inl rfl) (by simp [meetsF, hc, hw, toldF, h60]) rfl)
  have hfa := first_lt (othF t) w
  rw [oth_any] at hfa
  cases hall : w.all (within 0 · (t.length - 1)) with
  | false =>
    rw [hall] at hfa
    simp (disch := omega) [oLt, oLe, oLtN, oLeN, nLt, nLe, nLtN, nLeN, hst, hc, hw, h60, spF1, hlt, hlw, hfa, effMkfn]
    exact hQ _ _ (.p (.inl rfl) (by simp [meetsF, hc, hw, toldF, h60, hall]) rfl)
  | true =>
    rw [hall] at hfa
    have h0t : toldF t w = 0 := by simp [toldF, hc, h60, hall]
    have hres : meetsF t w = if goodL (rep 9 w) 0 t = true then 0 else 14 := by simp [meetsF, hc, hw, h0t]
    obtain ⟨-, h4, h8⟩ := chk_ok hc
    have hw0 : w ≠ [] := fun e => hw (by simp [e])
    simp (disch := omega) [oLt, oLe, oLtN, oLeN, nLt, nLe, nLtN, nLeN, hst, hc, hw, h60, spF1, hlt, hlw, hfa, effMkfn]
    refine XZ_for (fun i : Nat => ⟨[(1, .il (ints w) w.length uw), (29, .il (ints t) t.length ut), (30, vI t.length), (31, vI i)], [], 0⟩) (fun i => t.length - i) (fun i => i ≤ t.length ∧ goodL (rep 9 w) i (t.drop i) = goodL (rep 9 w) 0 t) 0 (by simp) (.to [] (by simp)) ?_
    rintro i ⟨hi, hb⟩ N Q' hN hE
    rcases Nat.lt_or_ge i t.length with h | h
    · obtain ⟨m, r, e1, e2, e3, e4, e5⟩ := drop_split h
      have hm := h8 m e5
      rw [e1] at hb
      simp only [goodL] at hb
      have bad : goodS i m 0 (rep 9 w) = false → ∀ s, EndsP 0 [SRes.tmp 4] (vI (meetsF t w)) 0 [] .ret ⟨[(4, vI 14)], [], s⟩ := fun hbad s => by
        rw [hbad] at hb
        exact .p (.inl rfl) (by simp [hres, ← hb]) rfl
      rcases first_spec (fun y => decide ((i : Int) = y)) w 0 with ⟨f1, f2⟩ | ⟨u, y, v, f1, f2, f3⟩
      · simp only [Int.natCast_zero] at f1
        have hbad := meets_none (s := i) (m := m) hw0 (fun x hx => by have := f2 x hx; simp at this; omega) hm.1 hm.2
        delta p30_l1 p30_r11 p30_r12 p30_r13 p30_r14 p30_r15 p30_r16 p30_r17
        simp (disch := omega) [oLt, oLe, oLtN, oLeN, nLt, nLe, nLtN, nLeN, h, e2, e3, hsw, f1]
        refine hE _ _ _ .refl (hQ _ _ ?_)
        exact bad hbad _
      · simp at f2 f3
        subst f2
        have hone := meets_one (s := i) (m := m) (u := u) (v := v) hm.1
        rw [← f1] at hone
        have hlen : w.length = u.length + 1 + v.length := by rw [f1]; simp; omega
        have hWd : ((w ++ w).drop (u.length + 1)).take w.length = v ++ u ++ [(i : Int)] := by
          have : w ++ w = (u ++ [(i : Int)]) ++ ((v ++ u ++ [(i : Int)]) ++ v) := by rw [f1]; simp
          rw [this, List.drop_left' (by simp), List.take_left' (by simp; omega)]
        delta p30_l1 p30_r11 p30_r12 p30_r13 p30_r14 p30_r15 p30_r16 p30_r17
        simp (disch := omega) [oLt, oLe, oLtN, oLeN, nLt, nLe, nLtN, nLeN, h, e2, e3, hsw, f3]
        refine XZ_for (fun p : Nat × Nat => ⟨[(1, .il (ints w) w.length uw), (6, vI i), (7, vI m), (8, vI u.length), (9, vI p.2), (10, vI p.1), (29, .il (ints t) t.length ut), (30, vI t.length), (31, vI i)], [], 0⟩) (fun p => u.length + w.length + 1 - p.1)
          (fun p => p.1 ≤ u.length + w.length + 1 ∧ p.2 < p.1 ∧ progS i m ((p.1 : Int) - p.2 - 1) (((w ++ w).drop p.1).take (u.length + w.length + 1 - p.1)) = goodS i m 0 (rep 9 w)) (u.length + 1, u.length) ⟨by simp only; omega, by simp only; omega, by
            simp only
            rw [show u.length + w.length + 1 - (u.length + 1) = w.length by omega, hWd, hone]
            congr 1; omega⟩ (.to [] (by simp)) ?_
        rintro ⟨k, at'⟩ ⟨hk, hat, hg⟩ N1 Q1 hN1 hE1
        simp only at hk hat hg ⊢
        rcases Nat.lt_or_ge k (u.length + w.length + 1) with h1 | h1
        · have hk2 : k < (w ++ w).length := by simp; omega
          obtain ⟨x, rr, d1, d2, d3, d4, d5⟩ := drop_split hk2
          rw [mod_get (by omega)] at d2
          obtain ⟨j, hj, hjl, hjg⟩ : ∃ j : Nat, (k : Int) % (w.length : Int) = j ∧ j < w.length ∧ w[j]? = some x := ⟨k % w.length, by rw [Int.natCast_emod], Nat.mod_lt _ (by omega), d2⟩
          have hjx : w[j] = x := (List.getElem?_eq_some_iff.1 hjg).2
          rw [show u.length + w.length + 1 - k = (u.length + w.length + 1 - (k + 1)) + 1 by omega, d1, List.take_succ_cons] at hg
          simp only [progS] at hg
          by_cases hx : x = i
          · rw [if_pos hx] at hg
            by_cases hgt : m < (k : Int) - at'
            · rw [if_pos (by omega)] at hg
              delta p30_l0 p30_r18 p30_r19 p30_r20 p30_r21 p30_r22 p30_r23
              simp (disch := omega) [oLt, oLe, oLtN, oLeN, nLt, nLe, nLtN, nLeN, h1, hw0, hj, hjl, hjg, hjx, hx, hgt]
              refine hE1 _ _ _ .refl (hE _ _ _ .refl (hQ _ _ ?_))
              exact bad hg.symm _
            · rw [if_neg (by omega)] at hg
              delta p30_l0 p30_r18 p30_r19 p30_r20 p30_r21 p30_r22 p30_r23
              simp (disch := omega) [oLt, oLe, oLtN, oLeN, nLt, nLe, nLtN, nLeN, h1, hw0, hj, hjl, hjg, hjx, hx, hgt]
              refine hN1 _ (k + 1, k) (by simp only; omega) ⟨by simp only; omega, by simp only; omega, ?_⟩ (.to [] (by simp))
              simp only [d4]; rw [← hg]; congr 1; omega
          · rw [if_neg hx] at hg
            delta p30_l0 p30_r18 p30_r19 p30_r20 p30_r21 p30_r22 p30_r23
            simp (disch := omega) [oLt, oLe, oLtN, oLeN, nLt, nLe, nLtN, nLeN, h1, hw0, hj, hjl, hjg, hjx, hx]
            refine hN1 _ (k + 1, at') (by simp only; omega) ⟨by simp only; omega, by simp only; omega, ?_⟩ (.to [] (by simp))
            simp only [d4]; rw [← hg]; congr 1; omega
        · have h1' : ¬ (k : Int) ≤ u.length + w.length := by omega
          have hk0 : u.length + w.length + 1 - k = 0 := by omega
          rw [hk0] at hg
          simp [progS] at hg
          delta p30_l0 p30_r18 p30_r19 p30_r20 p30_r21 p30_r22 p30_r23
          simp (disch := omega) [oLt, oLe, oLtN, oLeN, nLt, nLe, nLtN, nLeN, h1']
          refine hE1 _ _ _ .refl ?_
          delta p30_r24
          simp (disch := omega) [oLt, oLe, oLtN, oLeN, nLt, nLe, nLtN, nLeN]
          refine hN _ (i + 1) (by omega) ⟨h, ?_⟩ (.to [] (by simp))
          rw [e4, ← hb, hg]; rfl
    · have h' : ¬ i < t.length := by omega
      delta p30_l1 p30_r11 p30_r12 p30_r13 p30_r14 p30_r15 p30_r16 p30_r17
      simp (disch := omega) [oLt, oLe, oLtN, oLeN, nLt, nLe, nLtN, nLeN, h']
      refine hE _ _ _ .refl ?_
      delta p30_r25
      simp (disch := omega) [oLt, oLe, oLtN, oLeN, nLt, nLe, nLtN, nLeN]
      refine hQ _ _ (.p (.inl rfl) ?_ rfl)
      simp [List.drop_eq_nil_of_le h, goodL] at hb
      simp [hres, ← hb]
end Go.Sx.Wk
