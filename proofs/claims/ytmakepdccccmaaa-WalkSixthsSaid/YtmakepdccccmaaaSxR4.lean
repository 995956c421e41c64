/- What functions of the outright laws return: a beach's numbers; whether a walk misses a stretch. No conditions. -/
import Derived.Test.YtmakepdccccmaaaSxJQMtoQN
import Derived.Test.YtmakepdccccmaaaSxJR0toN0
import Derived.Test.YtmakepdccccmaaaSxJPd14toPd72
set_option linter.unusedVariables false
set_option linter.unusedSimpArgs false
namespace Go.Sx.Wk
open Go Go.Sx Go.Proofs

def s72 : Sp := spT 72 [.l, .i] fun (t : List Int) (x : Int) => res (small t) (vB (t.contains x))
@[simp] theorem s72_g : s72.g = 72 := rfl
@[simp] theorem s72_f : s72.f = (spT 72 [.l, .i] fun (t : List Int) (x : Int) => res (small t) (vB (t.contains x))).f := rfl
theorem s72_ok : s72.ok Try.prog := by
  apply spT_ok
  simp only [OkT, Ty.all, List.nil_append, List.cons_append]
  intro (t : List Int) ut (x : Int)
  apply okT_res; intro hs
  refine P72.rz (ss := [s67]) ⟨s67_ok, trivial⟩ (by simp) fun Q hQ => ?_
  delta p72 p72_r0 p72_r1
  have h := first_lt (fun y => decide (x = y)) t
  have hc : ∀ t : List Int, t.any (fun y => decide (x = y)) = t.contains x := fun t => by
    induction t with
    | nil => rfl
    | cons a r ih =>
      simp only [List.any_cons, List.contains_cons, ih]
      congr 1
  rw [hc] at h
  simp (disch := omega) [oLt, oLe, oLtN, oLeN, nLt, nLe, nLtN, nLeN, hs]
  have hm : x ∈ t ↔ 0 ≤ first (fun y => decide (x = y)) t 0 := by rw [← List.contains_iff_mem, ← h, decide_eq_true_eq]
  refine hQ _ _ (.p (.inl rfl) ?_ rfl)
  by_cases hx : x ∈ t
  · have := hm.1 hx
    simp [hx]; omega
  · have : ¬ 0 ≤ first (fun y => decide (x = y)) t 0 := fun e => hx (hm.2 e)
    simp [hx]; omega

/-- Whether each row of tides of some length has a stretch. -/
def wndB (s m : Int) : List Int → Bool
  | [] => true
  | x :: r => (decide ((r.length : Int) + 1 < m) || ((x :: r).take m.toNat).contains s) && wndB s m r
def wlkL (w : List Int) : Nat → List Int → Bool
  | _, [] => true
  | i, m :: r => wndB i m w && wlkL w (i + 1) r
theorem wnd_short {s m : Int} : ∀ {w : List Int}, (w.length : Int) < m → wndB s m w = true
  | [], _ => rfl
  | x :: r, h => by
    have hl : ((r.length : Int) + 1) < m := by simpa using h
    have ih := wnd_short (s := s) (m := m) (w := r) (by omega)
    simp only [wndB, ih, Bool.and_true, Bool.or_eq_true, decide_eq_true_eq]
    exact .inl hl
theorem wnd_good {s m : Int} (hm : 1 ≤ m) : ∀ {w : List Int} {c : Int}, 0 ≤ c → c < m → goodS s m c w = ((decide ((w.length : Int) < m - c) || (w.take (m - c).toNat).contains s) && wndB s m w)
  | [], c, h0, h1 => by
    have : (0 : Int) < m - c := by omega
    simp [goodS, wndB, h1]
  | x :: r, c, h0, h1 => by
    obtain ⟨k, hk⟩ := Int.eq_ofNat_of_zero_le (show 0 ≤ m - c - 1 by omega)
    have hk1 : (m - c).toNat = k + 1 := by omega
    obtain ⟨n, rfl⟩ := Int.eq_ofNat_of_zero_le (show 0 ≤ m by omega)
    obtain ⟨n, rfl⟩ : ∃ j, n = j + 1 := ⟨n - 1, by omega⟩
    have hn1 : (((n + 1 : Nat) : Int)).toNat = n + 1 := by omega
    simp only [goodS, wndB, hk1, hn1, List.take_succ_cons, List.contains_cons, List.length_cons]
    by_cases hx : x = s
    · subst hx
      have h0' : ¬ (0 : Int) = ((n + 1 : Nat) : Int) := by omega
      rw [if_pos rfl, if_neg h0', wnd_good hm (by omega) (by omega)]
      simp only [beq_self_eq_true, Bool.true_or, Bool.or_true, Bool.true_and]
      have e : (((n + 1 : Nat) : Int) - 0).toNat = n + 1 := by omega
      rw [e]
      cases hw : wndB x ((n + 1 : Nat) : Int) r with
      | false => simp
      | true =>
        simp only [Bool.and_true, Bool.or_eq_true, decide_eq_true_eq]
        by_cases hl : (r.length : Int) < ((n + 1 : Nat) : Int) - 0
        · exact .inl hl
        · right
          rcases r with _ | ⟨y, q⟩
          · exfalso; simp only [List.length_nil] at hl; omega
          · simp only [wndB, Bool.and_eq_true, Bool.or_eq_true, decide_eq_true_eq, hn1] at hw
            rcases hw.1 with h | h
            · simp only [List.length_cons] at hl; omega
            · exact h
    · have hx' : (s == x) = false := by simpa using fun e => hx e.symm
      rw [if_neg hx, hx']
      simp only [Bool.false_or]
      by_cases hc : c + 1 = ((n + 1 : Nat) : Int)
      · have hk0 : k = 0 := by omega
        subst hk0
        have hl : ¬ ((r.length + 1 : Nat) : Int) < ((n + 1 : Nat) : Int) - c := by omega
        rw [if_pos hc, decide_eq_false hl]
        simp
      · rw [if_neg hc, wnd_good hm (by omega) (by omega)]
        have e : (((n + 1 : Nat) : Int) - (c + 1)).toNat = k := by omega
        rw [e]
        cases hw : wndB s ((n + 1 : Nat) : Int) r with
        | false => simp
        | true =>
          simp only [Bool.and_true]
          have a1 : decide ((r.length : Int) < ((n + 1 : Nat) : Int) - (c + 1)) = decide (((r.length + 1 : Nat) : Int) < ((n + 1 : Nat) : Int) - c) := by
            rw [Bool.eq_iff_iff]; simp only [decide_eq_true_eq]; omega
          rw [a1]
          cases hh : (decide (((r.length + 1 : Nat) : Int) < ((n + 1 : Nat) : Int) - c) || (r.take k).contains s) with
          | false => simp
          | true =>
            simp only [Bool.true_and]
            symm
            simp only [Bool.or_eq_true, decide_eq_true_eq] at hh ⊢
            by_cases hl : (r.length : Int) + 1 < ((n + 1 : Nat) : Int)
            · exact .inl hl
            · right
              rcases hh with h | h
              · omega
              · have hkn : k ≤ n := by omega
                simp only [List.contains_iff_mem] at h ⊢
                exact List.mem_of_mem_take (i := k) (by rw [List.take_take, Nat.min_eq_left hkn]; exact h)
theorem wnd_top {s m : Int} {w : List Int} (hm : 1 ≤ m) : goodS s m 0 w = wndB s m w := by
  rw [wnd_good hm (Int.le_refl _) (by omega)]
  cases hw : wndB s m w with
  | false => simp
  | true =>
    simp only [Bool.and_true, Bool.or_eq_true, decide_eq_true_eq]
    rcases w with _ | ⟨x, r⟩
    · left; simp; omega
    · simp only [wndB, Bool.and_eq_true, Bool.or_eq_true, decide_eq_true_eq] at hw
      simp only [Int.sub_zero, List.length_cons, Int.natCast_add, Int.natCast_one]
      exact hw.1
theorem wlk_good {w : List Int} : ∀ {t : List Int} {i : Nat}, (∀ y ∈ t, 1 ≤ y) → wlkL w i t = goodL w i t
  | [], i, _ => rfl
  | m :: r, i, h => by
    simp only [wlkL, goodL, wnd_top (h m (by simp)), wlk_good (t := r) (fun y hy => h y (by simp [hy]))]

def s43 : Sp := spT 43 [.l, .l] fun (t w : List Int) => res (ok8 t && small t && small w) (vB (wlkL w 0 t))
@[simp] theorem s43_g : s43.g = 43 := rfl
@[simp] theorem s43_f : s43.f = (spT 43 [.l, .l] fun (t w : List Int) => res (ok8 t && small t && small w) (vB (wlkL w 0 t))).f := rfl
theorem s43_ok : s43.ok Try.prog := by
  apply spT_ok
  simp only [OkT, Ty.all, List.nil_append, List.cons_append]
  intro (t : List Int) ut (w : List Int) uw
  apply okT_res; intro hs
  refine P43.rz (ss := [s72]) ⟨s72_ok, trivial⟩ (by simp) fun Q hQ => ?_
  delta p43 p43_r0 p43_r1
  simp only [Bool.and_eq_true] at hs
  obtain ⟨⟨ht, hst⟩, hsw⟩ := hs
  have ht8 := ok8_iff.1 ht
  have hlt : t.length ≤ 1000000 := by simpa [small] using hst
  have hlw : w.length ≤ 1000000 := by simpa [small] using hsw
  simp (disch := omega) [oLt, oLe, oLtN, oLeN, nLt, nLe, nLtN, nLeN]
  refine XZ_for (fun i : Nat => ⟨[(1, .il (ints w) w.length uw), (8, .il (ints t) t.length ut), (9, vI t.length), (10, vI i)], [], 0⟩) (fun i => t.length - i) (fun i => i ≤ t.length ∧ wlkL w i (t.drop i) = wlkL w 0 t) 0 (by simp) (.to [] (by simp)) ?_
  rintro i ⟨hi, hb⟩ N Q' hN hE
  rcases Nat.lt_or_ge i t.length with h | h
  · obtain ⟨m, r, e1, e2, e3, e4, e5⟩ := drop_split h
    have hm := ht8 m e5
    rw [e1] at hb
    simp only [wlkL] at hb
    obtain ⟨n, rfl⟩ := Int.eq_ofNat_of_zero_le (show 0 ≤ m by omega)
    delta p43_l1 p43_r2 p43_r3 p43_r4
    simp (disch := omega) [oLt, oLe, oLtN, oLeN, nLt, nLe, nLtN, nLeN, h, e2, e3]
    refine XZ_for (fun j : Nat => ⟨[(1, .il (ints w) w.length uw), (5, vI i), (6, vI n), (7, vI j), (8, .il (ints t) t.length ut), (9, vI t.length), (10, vI i)], [], 0⟩) (fun j => w.length - j) (fun j => j ≤ w.length ∧ wndB i n (w.drop j) = wndB i n w) 0 (by simp) (.to [] (by simp)) ?_
    rintro j ⟨hj, hg⟩ N1 Q1 hN1 hE1
    by_cases h1 : j + n ≤ w.length
    · have hjl : j < w.length := by omega
      obtain ⟨x, q, d1, d2, d3, d4, d5⟩ := drop_split hjl
      have hwd : wndB i n (w.drop j) = ((((w.drop j).take n).contains (i : Int)) && wndB i n q) := by
        have hql : q.length = w.length - j - 1 := by
          have := congrArg List.length d1; simp at this; omega
        have : ¬ ((q.length : Int) + 1 < n) := by omega
        rw [d1]; simp only [wndB, Int.toNat_natCast, this, decide_false, Bool.false_or]
      rw [hwd] at hg
      have hmin : min n (w.length - j) = n := by omega
      have hjn : j + n - j = n := by omega
      have hjt : ((j : Int) + n).toNat - j = n := by omega
      have hsl : small ((w.drop j).take n) = true := by simp [small]; omega
      have h1c : (j : Int) + n ≤ w.length := by omega
      cases hct : ((w.drop j).take n).contains (i : Int) with
      | true =>
        rw [hct] at hg
        simp only [Bool.true_and] at hg
        delta p43_l0 p43_r5 p43_r6 p43_r7 p43_r8
        have hmem : (i : Int) ∈ (w.drop j).take n := List.contains_iff_mem.1 hct
        simp (disch := omega) [oLt, oLe, oLtN, oLeN, nLt, nLe, nLtN, nLeN, h1c, h1, hmin, hjn, hjt, hsl, hmem]
        refine hN1 _ (j + 1) (by omega) ⟨hjl, ?_⟩ (.to [] (by simp))
        rw [d4]; exact hg
      | false =>
        rw [hct] at hg
        simp only [Bool.false_and] at hg
        delta p43_l0 p43_r5 p43_r6 p43_r7 p43_r8
        have hmem : ¬ (i : Int) ∈ (w.drop j).take n := fun e => by rw [List.contains_iff_mem.2 e] at hct; cases hct
        simp (disch := omega) [oLt, oLe, oLtN, oLeN, nLt, nLe, nLtN, nLeN, h1c, h1, hmin, hjn, hjt, hsl, hmem]
        exact hE1 _ _ _ .refl (hE _ _ _ .refl (hQ _ _ (.p (.inl rfl) (by simp [← hb, ← hg]) rfl)))
    · have h1c : ¬ (j : Int) + n ≤ w.length := by omega
      rw [wnd_short (by simp; omega)] at hg
      delta p43_l0 p43_r5 p43_r6 p43_r7 p43_r8
      simp (disch := omega) [oLt, oLe, oLtN, oLeN, nLt, nLe, nLtN, nLeN, h1c]
      refine hE1 _ _ _ .refl ?_
      delta p43_r9
      simp (disch := omega) [oLt, oLe, oLtN, oLeN, nLt, nLe, nLtN, nLeN]
      refine hN _ (i + 1) (by omega) ⟨h, ?_⟩ (.to [] (by simp))
      rw [e4, ← hb, ← hg]; rfl
  · have h' : ¬ i < t.length := by omega
    rw [List.drop_eq_nil_of_le h] at hb
    simp only [wlkL] at hb
    delta p43_l1 p43_r2 p43_r3 p43_r4
    simp (disch := omega) [oLt, oLe, oLtN, oLeN, nLt, nLe, nLtN, nLeN, h']
    refine hE _ _ _ .refl ?_
    delta p43_r10
    simp (disch := omega) [oLt, oLe, oLtN, oLeN, nLt, nLe, nLtN, nLeN]
    exact hQ _ _ (.p (.inl rfl) (by simp [← hb]) rfl)
end Go.Sx.Wk
