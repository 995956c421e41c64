/- What is left after a walk, found tide by tide or stretch by stretch: plain facts; Goes. No conditions. -/
import Derived.Test.YtmakepdccccmaaaSxJQItoQL
set_option linter.unusedVariables false
set_option linter.unusedSimpArgs false
namespace Go.Sx.Wk
open Go Go.Sx Go.Proofs

/-- Whether a walk from a state misses no stretch, and what it leaves. -/
def goodG (w : List Int) : Int → List Int → List Int → Bool
  | s, m :: ts, y :: ys => goodS s m (m - y) w && goodG w (s + 1) ts ys
  | _, _, _ => true
def endG (w : List Int) : Int → List Int → List Int → List Int
  | s, m :: ts, y :: ys => (m - endS s (m - y) w) :: endG w (s + 1) ts ys
  | _, _, _ => []
theorem goodG_nil : ∀ {s : Int} {t l : List Int}, goodG [] s t l = true
  | s, [], _ => by simp [goodG]
  | s, _ :: _, [] => by simp [goodG]
  | s, m :: ts, y :: ys => by simp [goodG, goodS, goodG_nil (t := ts)]
theorem endG_nil : ∀ {s : Int} {t l : List Int}, val t l → endG [] s t l = l
  | s, [], [], _ => rfl
  | s, m :: ts, y :: ys, h => by simp only [endG, endS, endG_nil h.2.2]; congr 1; omega
theorem goodG_some {x : Int} {r : List Int} : ∀ {t l l' : List Int} {i : Int}, val t l → aftG x t l i = some l' → goodG (x :: r) i t l = goodG r i t l' ∧ endG (x :: r) i t l = endG r i t l'
  | [], [], l', i, hv, h => by simp [aftG] at h; subst h; simp [goodG, endG]
  | m :: ts, y :: ys, l', i, hv, h => by
    simp only [aftG] at h
    have h1 := hv.1
    have h2 := hv.2.1
    by_cases hx : i = x
    · simp only [hx, if_true] at h
      cases hr : aftG x ts ys (x + 1) with
      | none => rw [hr] at h; simp at h
      | some q =>
        rw [hr] at h; simp at h; subst h
        obtain ⟨ih1, ih2⟩ := goodG_some hv.2.2 hr
        subst hx
        simp only [goodG, endG, goodS, endS, if_true]
        have hm : ¬ (0 : Int) = m := by omega
        simp only [hm, if_false, Int.sub_self]; rw [ih1, ih2]; exact ⟨rfl, rfl⟩
    · simp only [hx, if_false] at h
      by_cases hy : y = 1
      · simp [hy] at h
      · simp only [hy, if_false] at h
        cases hr : aftG x ts ys (i + 1) with
        | none => rw [hr] at h; simp at h
        | some q =>
          rw [hr] at h; simp at h; subst h
          obtain ⟨ih1, ih2⟩ := goodG_some hv.2.2 hr
          have hx' : ¬ x = i := fun e => hx e.symm
          have hm : ¬ (m - y + 1 : Int) = m := by omega
          simp only [goodG, endG, goodS, endS, hx', hm, if_false]
          rw [show m - y + 1 = m - (y - 1) by omega, ih1, ih2]; exact ⟨rfl, rfl⟩
theorem goodG_none {x : Int} {r : List Int} : ∀ {t l : List Int} {i : Int}, val t l → aftG x t l i = none → goodG (x :: r) i t l = false
  | [], [], i, hv, h => by simp [aftG] at h
  | m :: ts, y :: ys, i, hv, h => by
    simp only [aftG] at h
    simp only [goodG, Bool.and_eq_false_iff]
    by_cases hx : i = x
    · simp only [hx, if_true, Option.map_eq_none_iff] at h
      right
      rw [hx]; exact goodG_none hv.2.2 h
    · simp only [hx, if_false] at h
      have hx' : ¬ x = i := fun e => hx e.symm
      by_cases hy : y = 1
      · left
        have hm : (m - y + 1 : Int) = m := by omega
        simp [goodS, hx', hm]
      · simp only [hy, if_false, Option.map_eq_none_iff] at h
        right; exact goodG_none hv.2.2 h
/-- What a walk does from a state. -/
theorem walkS_eq {t : List Int} (h1 : ∀ y ∈ t, 1 ≤ y) : ∀ {w l : List Int}, (∀ x ∈ w, 0 ≤ x) → val t l → walkS t w (pad t l) = if goodG w 0 t l = true then some (pad t (endG w 0 t l)) else none
  | [], l, hw, hv => by simp [walkS, goodG_nil, endG_nil hv]
  | x :: r, l, hw, hv => by
    have hx := hw x (by simp)
    have hxn : ((x.toNat : Nat) : Int) = x := by omega
    simp only [walkS, stp_pad (val_len hv), hxn]
    cases ha : aftG x t l 0 with
    | none => simp [goodG_none hv ha]
    | some l' =>
      obtain ⟨g1, g2⟩ := goodG_some (r := r) hv ha
      simp only [Option.map_some]
      rw [walkS_eq h1 (fun y hy => hw y (by simp [hy])) (aft_val hv h1 ha), g1, g2]
theorem goodG_top {w : List Int} : ∀ {t : List Int} {s : Nat}, goodG w s t t = goodL w s t
  | [], s => by simp [goodG, goodL]
  | m :: r, s => by
    have := goodG_top (w := w) (t := r) (s := s + 1)
    simp only [goodG, goodL, Int.sub_self]; rw [← this]; rfl
theorem endG_top {w : List Int} : ∀ {t : List Int} {s : Int}, endG w s t t = leftL w s t
  | [], s => by simp [endG, leftL]
  | m :: r, s => by
    have h3 := lastS_end (s := s) w 0 0 rfl
    simp only [Int.sub_zero, Int.zero_add] at h3
    simp only [endG, leftL, Int.sub_self, h3, endG_top (t := r)]
theorem walk_left {t w : List Int} (h0 : toldF t w = 0) : walkS t w (pad t t) = if goodL w 0 t = true then some (pad t (leftL w 0 t)) else none := by
  obtain ⟨hc, -, hr⟩ := told_ok h0
  obtain ⟨ht, h4, hne⟩ := chk_facts hc
  have ht8 := ok8_iff.1 ht
  have := walkS_eq (t := t) (w := w) (l := t) (fun y hy => (ht8 y hy).1) (fun x hx => (hr x hx).1) (val_self ht8)
  have g := goodG_top (w := w) (t := t) (s := 0)
  simp only [Int.natCast_zero] at g
  rw [this, g, endG_top]
/-- The program's Left is the specification's. -/
theorem leftP_eq (t w : List Int) : leftP t w = leftF t w := by
  unfold leftP leftF
  by_cases h0 : toldF t w = 0
  · rw [if_pos h0, if_pos h0, walk_left h0]
    by_cases hg : goodL w 0 t = true
    · rw [if_pos hg, if_pos hg]
      have : (pad t (leftL w 0 t)).take t.length = leftL w 0 t := List.take_left' (leftL_len w t 0)
      simp only [this]
    · rw [if_neg hg, if_neg hg]
  · rw [if_neg h0, if_neg h0]

/-! ### Goes -/
theorem ever_walk {t : List Int} (h1 : ∀ y ∈ t, 1 ≤ y) : ∀ {w l l' : List Int}, (∀ x ∈ w, 0 ≤ x ∧ x ≤ t.length - 1) → val t l → val t l' → walkS t w (pad t l) = some (pad t l') → Ever t l' → Ever t l
  | [], l, l', hw, hv, hv', h, he => by
    simp only [walkS, Option.some.injEq] at h
    rw [pad_inj (val_len hv) (val_len hv') h]; exact he
  | x :: r, l, l', hw, hv, hv', h, he => by
    have hx := hw x (by simp)
    have hxn : ((x.toNat : Nat) : Int) = x := by omega
    simp only [walkS, stp_pad (val_len hv)] at h
    cases ha : aftG (x.toNat : Nat) t l 0 with
    | none => rw [ha] at h; simp at h
    | some q =>
      rw [ha] at h
      simp only [Option.map_some] at h
      have := ever_walk h1 (fun y hy => hw y (by simp [hy])) (aft_val hv h1 ha) hv' h he
      exact ever_path (.one ⟨x.toNat, by omega, ha⟩) this
/-- What the search from any state says. -/
theorem goF_any {t l : List Int} (ht : ok8 t = true) (h4 : t.length ≤ 4) (hv : val t l) : ∃ b ev sh, goF t 5000 (pad t l) [] [] = some (b, ev, sh) ∧ (b = true ↔ Ever t l) := by
  obtain ⟨b, ev, sh, h1, h2, _, h3, h5⟩ := goF_ok ht h4 5000 [] l [] [] hv inv_nil (fun k hk => by simp at hk) (unv_nil ht h4)
  refine ⟨b, ev, sh, h1, h3, fun he => ?_⟩
  cases b with
  | true => rfl
  | false =>
    obtain ⟨l', m, e1, e2, e3, e4⟩ := h2.fa _ (h5 rfl)
    have := pad_inj (val_len hv) (val_len e2) e1
    subst this
    have := he (m + 1)
    rw [e4.2] at this; cases this
theorem ever_iff {t l : List Int} (ht : ok8 t = true) (h4 : t.length ≤ 4) (hv : val t l) (hle : Ever t l → Ever t t) : (canB t && everB t l) = true ↔ Ever t l := by
  rw [Bool.and_eq_true, canB_iff ht h4]
  obtain ⟨i, i1, i2⟩ := idx_get hv
  rcases aliveF_spec ht h4 with ⟨h1, h2, h3⟩ | ⟨n, h1, h2⟩
  · have := h3 i l i2
    unfold everB
    rw [i1, Int.toNat_natCast]
    have hi : i < (aliveF t).1.length := by rw [aliveF_len ht h4]; exact (List.getElem?_eq_some_iff.1 i2).1
    rw [← this, List.getElem?_eq_getElem hi]
    simp [h1]
  · constructor
    · rintro ⟨h, -⟩; have := h (n + 1); rw [h2.2] at this; cases this
    · intro h; have := hle h (n + 1); rw [h2.2] at this; cases this
def s27 : Sp := spT 27 [.l, .l] fun (t w : List Int) => res (small t && small w) (goesF t w)
@[simp] theorem s27_g : s27.g = 27 := rfl
@[simp] theorem s27_f : s27.f = (spT 27 [.l, .l] fun (t w : List Int) => res (small t && small w) (goesF t w)).f := rfl
theorem s27_ok : s27.ok Try.prog := by
  apply spT_ok
  simp only [OkT, Ty.all, List.nil_append, List.cons_append]
  intro (t : List Int) ut (w : List Int) uw
  apply okT_res; intro hs
  refine P27.rz (ss := [s62, s55]) ⟨s62_ok, s55_ok, trivial⟩ (by simp) fun Q hQ => ?_
  delta p27 p27_r0 p27_r1 p27_r2
  simp only [Bool.and_eq_true] at hs
  obtain ⟨hst, hsw⟩ := hs
  by_cases h0 : toldF t w = 0
  case neg =>
    simp (disch := omega) [oLt, oLe, oLtN, oLeN, nLt, nLe, nLtN, nLeN, hst, hsw, h0, walkedF, noW]
    exact hQ _ _ (.p (.inl rfl) (by simp [goesF, h0]) (by simp [goesF, h0]))
  have hwl := walk_left h0
  by_cases hg0 : goodL w 0 t = true
  case neg =>
    rw [if_neg hg0] at hwl
    simp (disch := omega) [oLt, oLe, oLtN, oLeN, nLt, nLe, nLtN, nLeN, hst, hsw, h0, hwl, walkedF, noW]
    exact hQ _ _ (.p (.inl rfl) (by simp [goesF, h0, hg0]) (by simp [goesF, h0, hg0]))
  rw [if_pos hg0] at hwl
  obtain ⟨hc, -, hr⟩ := told_ok h0
  obtain ⟨ht, h4, hne⟩ := chk_facts hc
  have ht8 := ok8_iff.1 ht
  have h1 : ∀ y ∈ t, 1 ≤ y := fun y hy => (ht8 y hy).1
  have hv := left_val (w := w) (s := 0) hg0 h1
  simp only [Int.natCast_zero] at hv
  obtain ⟨b, ev, sh, g1, g2⟩ := goF_any ht h4 hv
  have hb : b = (canB t && everB t (leftL w 0 t)) := by
    rw [Bool.eq_iff_iff, g2, ever_iff ht h4 hv (fun he => ever_walk h1 hr (val_self ht8) hv hwl he)]
  obtain ⟨a0, a1, a2, a3, hp⟩ := pad4 h4
  obtain ⟨q0, q1, q2, q3, hql⟩ := list4 (pad_len (val_len hv) h4)
  rw [hql] at hwl g1
  rw [hp] at hwl
  have h55 : G55 5000 t [a0, a1, a2, a3] [] [] [.agg [vI q0, vI q1, vI q2, vI q3]] = some (vB b, ev, sh) := by simp [G55, g1]
  simp (disch := omega) [oLt, oLe, oLtN, oLeN, nLt, nLe, nLtN, nLeN, hst, hsw, h0, hwl, walkedF, shp, hp, h4, h55]
  exact hQ _ _ (.p (.inl rfl) (by simp [goesF, h0, hg0, hb]) (by simp [goesF, h0, hg0]))
end Go.Sx.Wk
