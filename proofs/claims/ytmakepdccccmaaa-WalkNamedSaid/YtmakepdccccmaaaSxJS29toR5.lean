/- What functions of the walk layer return: same. No conditions. -/
import Derived.Test.YtmakepdccccmaaaSxJQBtoQD
import Derived.Test.YtmakepdccccmaaaSxJQMtoQN
import Derived.Test.YtmakepdccccmaaaSxR0
import Derived.Test.YtmakepdccccmaaaSxJPd12toPd72
set_option linter.unusedVariables false
set_option linter.unusedSimpArgs false
namespace Go.Sx.Wk
open Go Go.Sx Go.Proofs

def s29 : Sp := spT 29 [.l, .l] fun (a b : List Int) => res (small a && small b) (vB (decide (a = b)))
@[simp] theorem s29_g : s29.g = 29 := rfl
@[simp] theorem s29_f : s29.f = (spT 29 [.l, .l] fun (a b : List Int) => res (small a && small b) (vB (decide (a = b)))).f := rfl
theorem s29_ok : s29.ok Try.prog := by
  apply spT_ok
  simp only [OkT, Ty.all, List.nil_append, List.cons_append]
  intro (a : List Int) ua (b : List Int) ub
  apply okT_res; intro hs
  refine P29.rz (ss := []) trivial (by simp) fun Q hQ => ?_
  delta p29 p29_r0 p29_r1 p29_r2 p29_r3
  simp only [Bool.and_eq_true] at hs
  obtain ⟨hsa, hsb⟩ := hs
  have hla : a.length ≤ 1000000 := by simpa [small] using hsa
  have hlb : b.length ≤ 1000000 := by simpa [small] using hsb
  by_cases hl : a.length = b.length
  case neg =>
    have hne : ¬ a = b := fun e => hl (by rw [e])
    have hlc : ¬ (a.length : Int) = b.length := by omega
    simp (disch := omega) [oLt, oLe, oLtN, oLeN, nLt, nLe, nLtN, nLeN, hlc]
    exact hQ _ _ (.p (.inl rfl) (by simp [hne]) rfl)
  simp (disch := omega) [oLt, oLe, oLtN, oLeN, nLt, nLe, nLtN, nLeN, hl]
  refine XZ_for (fun i : Nat => ⟨[(0, .il (ints a) a.length ua), (1, .il (ints b) b.length ub), (5, vI i)], [], 0⟩) (fun i => a.length - i) (fun i => i ≤ a.length ∧ (a.drop i = b.drop i ↔ a = b)) 0 (by simp) (.to [] (by simp [hl])) ?_
  rintro i ⟨hi, hb⟩ N Q' hN hE
  rcases Nat.lt_or_ge i a.length with h | h
  · obtain ⟨x, r, d1, d2, d3, d4, d5⟩ := drop_split h
    have h' : i < b.length := by omega
    obtain ⟨y, r', e1, e2, e3, e4, e5⟩ := drop_split h'
    rw [d1, e1] at hb
    by_cases hx : x = y
    · subst hx
      delta p29_l0 p29_r4 p29_r5 p29_r6 p29_r7
      simp (disch := omega) [oLt, oLe, oLtN, oLeN, nLt, nLe, nLtN, nLeN, h, h', d2, d3, e2, e3]
      refine hN _ (i + 1) (by omega) ⟨h, ?_⟩ (.to [] (by simp))
      rw [d4, e4, ← hb]; simp
    · have hne : ¬ a = b := fun e => by
        have := hb.2 e
        simp only [List.cons.injEq] at this
        exact hx this.1
      delta p29_l0 p29_r4 p29_r5 p29_r6 p29_r7
      simp (disch := omega) [oLt, oLe, oLtN, oLeN, nLt, nLe, nLtN, nLeN, h, h', d2, d3, e2, e3, hx]
      exact hE _ _ _ .refl (hQ _ _ (.p (.inl rfl) (by simp [hne]) rfl))
  · have h' : ¬ i < a.length := by omega
    have heq : a = b := hb.1 (by rw [List.drop_eq_nil_of_le h, List.drop_eq_nil_of_le (by omega)])
    delta p29_l0 p29_r4 p29_r5 p29_r6 p29_r7
    simp (disch := omega) [oLt, oLe, oLtN, oLeN, nLt, nLe, nLtN, nLeN, h']
    refine hE _ _ _ .refl ?_
    delta p29_r8
    simp (disch := omega) [oLt, oLe, oLtN, oLeN, nLt, nLe, nLtN, nLeN]
    exact hQ _ _ (.p (.inl rfl) (by simp [heq]) rfl)
end Go.Sx.Wk
namespace Go.Sx.Wk
open Go Go.Sx Go.Proofs

def s72 : Sp := spT 72 [.l, .i] fun (t : List Int) (x : Int) => res (small t) (vB (t.contains x))
@[simp] theorem s72_g : s72.g = 72 := rfl
@[simp] theorem s72_f : s72.f = (spT 72 [.l, .i] fun (t : List Int) (x : Int) => res (small t) (vB (t.contains x))).f := rfl
theorem s72_ok : s72.ok Try.prog := by
  apply spT_ok
  simp only [OkT, Ty.all, List.nil_append, List.cons_append]
  intro (t : List Int) ut (x : Int)
  apply okT_res; intro hs
  refine P72.rz (ss := [s67]) ⟨s67_ok, trivial⟩ (by simp) fun Q hQ => ?_
  delta p72 p72_r0 p72_r1
  have h := first_lt (fun y => decide (x = y)) t
  have hc : ∀ t : List Int, t.any (fun y => decide (x = y)) = t.contains x := fun t => by
    induction t with
    | nil => rfl
    | cons a r ih =>
      simp only [List.any_cons, List.contains_cons, ih]
      congr 1
  rw [hc] at h
  simp (disch := omega) [oLt, oLe, oLtN, oLeN, nLt, nLe, nLtN, nLeN, hs]
  have hm : x ∈ t ↔ 0 ≤ first (fun y => decide (x = y)) t 0 := by rw [← List.contains_iff_mem, ← h, decide_eq_true_eq]
  refine hQ _ _ (.p (.inl rfl) ?_ rfl)
  by_cases hx : x ∈ t
  · have := hm.1 hx
    simp [hx]; omega
  · have : ¬ 0 ≤ first (fun y => decide (x = y)) t 0 := fun e => hx (hm.2 e)
    simp [hx]; omega

/-- Whether each row of tides of some length has a stretch. -/
def wndB (s m : Int) : List Int → Bool
  | [] => true
  | x :: r => (decide ((r.length : Int) + 1 < m) || ((x :: r).take m.toNat).contains s) && wndB s m r
def wlkL (w : List Int) : Nat → List Int → Bool
  | _, [] => true
  | i, m :: r => wndB i m w && wlkL w (i + 1) r
theorem wnd_short {s m : Int} : ∀ {w : List Int}, (w.length : Int) < m → wndB s m w = true
  | [], _ => rfl
  | x :: r, h => by
    have hl : ((r.length : Int) + 1) < m := by simpa using h
    have ih := wnd_short (s := s) (m := m) (w := r) (by omega)
    simp only [wndB, ih, Bool.and_true, Bool.or_eq_true, decide_eq_true_eq]
    exact .inl hl
theorem wnd_good {s m : Int} (hm : 1 ≤ m) : ∀ {w : List Int} {c : Int}, 0 ≤ c → c < m → goodS s m c w = ((decide ((w.length : Int) < m - c) || (w.take (m - c).toNat).contains s) && wndB s m w)
  | [], c, h0, h1 => by
    have : (0 : Int) < m - c := by omega
    simp [goodS, wndB, h1]
  | x :: r, c, h0, h1 => by
    obtain ⟨k, hk⟩ := Int.eq_ofNat_of_zero_le (show 0 ≤ m - c - 1 by omega)
    have hk1 : (m - c).toNat = k + 1 := by omega
    obtain ⟨n, rfl⟩ := Int.eq_ofNat_of_zero_le (show 0 ≤ m by omega)
    obtain ⟨n, rfl⟩ : ∃ j, n = j + 1 := ⟨n - 1, by omega⟩
    have hn1 : (((n + 1 : Nat) : Int)).toNat = n + 1 := by omega
    simp only [goodS, wndB, hk1, hn1, List.take_succ_cons, List.contains_cons, List.length_cons]
    by_cases hx : x = s
    · subst hx
      have h0' : ¬ (0 : Int) = ((n + 1 : Nat) : Int) := by omega
      rw [if_pos rfl, if_neg h0', wnd_good hm (by omega) (by omega)]
      simp only [beq_self_eq_true, Bool.true_or, Bool.or_true, Bool.true_and]
      have e : (((n + 1 : Nat) : Int) - 0).toNat = n + 1 := by omega
      rw [e]
      cases hw : wndB x ((n + 1 : Nat) : Int) r with
      | false => simp
      | true =>
        simp only [Bool.and_true, Bool.or_eq_true, decide_eq_true_eq]
        by_cases hl : (r.length : Int) < ((n + 1 : Nat) : Int) - 0
        · exact .inl hl
        · right
          rcases r with _ | ⟨y, q⟩
          · exfalso; simp only [List.length_nil] at hl; omega
          · simp only [wndB, Bool.and_eq_true, Bool.or_eq_true, decide_eq_true_eq, hn1] at hw
            rcases hw.1 with h | h
            · simp only [List.length_cons] at hl; omega
            · exact h
    · have hx' : (s == x) = false := by simpa using fun e => hx e.symm
      rw [if_neg hx, hx']
      simp only [Bool.false_or]
      by_cases hc : c + 1 = ((n + 1 : Nat) : Int)
      · have hk0 : k = 0 := by omega
        subst hk0
        have hl : ¬ ((r.length + 1 : Nat) : Int) < ((n + 1 : Nat) : Int) - c := by omega
        rw [if_pos hc, decide_eq_false hl]
        simp
      · rw [if_neg hc, wnd_good hm (by omega) (by omega)]
        have e : (((n + 1 : Nat) : Int) - (c + 1)).toNat = k := by omega
        rw [e]
        cases hw : wndB s ((n + 1 : Nat) : Int) r with
        | false => simp
        | true =>
          simp only [Bool.and_true]
          have a1 : decide ((r.length : Int) < ((n + 1 : Nat) : Int) - (c + 1)) = decide (((r.length + 1 : Nat) : Int) < ((n + 1 : Nat) : Int) - c) := by
            rw [Bool.eq_iff_iff]; simp only [decide_eq_true_eq]; omega
          rw [a1]
          cases hh : (decide (((r.length + 1 : Nat) : Int) < ((n + 1 : Nat) : Int) - c) || (r.take k).contains s) with
          | false => simp
          | true =>
            simp only [Bool.true_and]
            symm
            simp only [Bool.or_eq_true, decide_eq_true_eq] at hh ⊢
            by_cases hl : (r.length : Int) + 1 < ((n + 1 : Nat) : Int)
            · exact .inl hl
            · right
              rcases hh with h | h
              · omega
              · have hkn : k ≤ n := by omega
                simp only [List.contains_iff_mem] at h ⊢
                exact List.mem_of_mem_take (i := k) (by rw [List.take_take, Nat.min_eq_left hkn]; exact h)
theorem wnd_top {s m : Int} {w : List Int} (hm : 1 ≤ m) : goodS s m 0 w = wndB s m w := by
  rw [wnd_good hm (Int.le_refl _) (by omega)]
  cases hw : wndB s m w with
  | false => simp
  | true =>
    simp only [Bool.and_true, Bool.or_eq_true, decide_eq_true_eq]
    rcases w with _ | ⟨x, r⟩
    · left; simp; omega
    · simp only [wndB, Bool.and_eq_true, Bool.or_eq_true, decide_eq_true_eq] at hw
      simp only [Int.sub_zero, List.length_cons, Int.natCast_add, Int.natCast_one]
      exact hw.1
theorem wlk_good {w : List Int} : ∀ {t : List Int} {i : Nat}, (∀ y ∈ t, 1 ≤ y) → wlkL w i t = goodL w i t
  | [], i, _ => rfl
  | m :: r, i, h => by
    simp only [wlkL, goodL, wnd_top (h m (by simp)), wlk_good (t := r) (fun y hy => h y (by simp [hy]))]

def s43 : Sp := spT 43 [.l, .l] fun (t w : List Int) => res (ok8 t && small t && small w) (vB (wlkL w 0 t))
@[simp] theorem s43_g : s43.g = 43 := rfl
@[simp] theorem s43_f : s43.f = (spT 43 [.l, .l] fun (t w : List Int) => res (ok8 t && small t && small w) (vB (wlkL w 0 t))).f := rfl
theorem s43_ok : s43.ok Try.prog := by
  apply spT_ok
  simp only [OkT, Ty.all, List.nil_append, List.cons_append]
  intro (t : List Int) ut (w : List Int) uw
  apply okT_res; intro hs
  refine P43.rz (ss := [s72]) ⟨s72_ok, trivial⟩ (by simp) fun Q hQ => ?_
  delta p43 p43_r0 p43_r1
  simp only [Bool.and_eq_true] at hs
  obtain ⟨⟨ht, hst⟩, hsw⟩ := hs
  have ht8 := ok8_iff.1 ht
  have hlt : t.length ≤ 1000000 := by simpa [small] using hst
  have hlw : w.length ≤ 1000000 := by simpa [small] using hsw
  simp (disch := omega) [oLt, oLe, oLtN, oLeN, nLt, nLe, nLtN, nLeN]
  refine XZ_for (fun i : Nat => ⟨[(1, .il (ints w) w.length uw), (8, .il (ints t) t.length ut), (9, vI t.length), (10, vI i)], [], 0⟩) (fun i => t.length - i) (fun i => i ≤ t.length ∧ wlkL w i (t.drop i) = wlkL w 0 t) 0 (by simp) (.to [] (by simp)) ?_
  rintro i ⟨hi, hb⟩ N Q' hN hE
  rcases Nat.lt_or_ge i t.length with h | h
  · obtain ⟨m, r, e1, e2, e3, e4, e5⟩ := drop_split h
    have hm := ht8 m e5
    rw [e1] at hb
    simp only [wlkL] at hb
    obtain ⟨n, rfl⟩ := Int.eq_ofNat_of_zero_le (show 0 ≤ m by omega)
    delta p43_l1 p43_r2 p43_r3 p43_r4
    simp (disch := omega) [oLt, oLe, oLtN, oLeN, nLt, nLe, nLtN, nLeN, h, e2, e3]
    refine XZ_for (fun j : Nat => ⟨[(1, .il (ints w) w.length uw), (5, vI i), (6, vI n), (7, vI j), (8, .il (ints t) t.length ut), (9, vI t.length), (10, vI i)], [], 0⟩) (fun j => w.length - j) (fun j => j ≤ w.length ∧ wndB i n (w.drop j) = wndB i n w) 0 (by simp) (.to [] (by simp)) ?_
    rintro j ⟨hj, hg⟩ N1 Q1 hN1 hE1
    by_cases h1 : j + n ≤ w.length
    · have hjl : j < w.length := by omega
      obtain ⟨x, q, d1, d2, d3, d4, d5⟩ := drop_split hjl
      have hwd : wndB i n (w.drop j) = ((((w.drop j).take n).contains (i : Int)) && wndB i n q) := by
        have hql : q.length = w.length - j - 1 := by
          have := congrArg List.length d1; simp at this; omega
        have : ¬ ((q.length : Int) + 1 < n) := by omega
        rw [d1]; simp only [wndB, Int.toNat_natCast, this, decide_false, Bool.false_or]
      rw [hwd] at hg
      have hmin : min n (w.length - j) = n := by omega
      have hjn : j + n - j = n := by omega
      have hjt : ((j : Int) + n).toNat - j = n := by omega
      have hsl : small ((w.drop j).take n) = true := by simp [small]; omega
      have h1c : (j : Int) + n ≤ w.length := by omega
      cases hct : ((w.drop j).take n).contains (i : Int) with
      | true =>
        rw [hct] at hg
        simp only [Bool.true_and] at hg
        delta p43_l0 p43_r5 p43_r6 p43_r7 p43_r8
        have hmem : (i : Int) ∈ (w.drop j).take n := List.contains_iff_mem.1 hct
        simp (disch := omega) [oLt, oLe, oLtN, oLeN, nLt, nLe, nLtN, nLeN, h1c, h1, hmin, hjn, hjt, hsl, hmem]
        refine hN1 _ (j + 1) (by omega) ⟨hjl, ?_⟩ (.to [] (by simp))
        rw [d4]; exact hg
      | false =>
        rw [hct] at hg
        simp only [Bool.false_and] at hg
        delta p43_l0 p43_r5 p43_r6 p43_r7 p43_r8
        have hmem : ¬ (i : Int) ∈ (w.drop j).take n := fun e => by rw [List.contains_iff_mem.2 e] at hct; cases hct
        simp (disch := omega) [oLt, oLe, oLtN, oLeN, nLt, nLe, nLtN, nLeN, h1c, h1, hmin, hjn, hjt, hsl, hmem]
        exact hE1 _ _ _ .refl (hE _ _ _ .refl (hQ _ _ (.p (.inl rfl) (by simp [← hb, ← hg]) rfl)))
    · have h1c : ¬ (j : Int) + n ≤ w.length := by omega
      rw [wnd_short (by simp; omega)] at hg
      delta p43_l0 p43_r5 p43_r6 p43_r7 p43_r8
      simp (disch := omega) [oLt, oLe, oLtN, oLeN, nLt, nLe, nLtN, nLeN, h1c]
      refine hE1 _ _ _ .refl ?_
      delta p43_r9
      simp (disch := omega) [oLt, oLe, oLtN, oLeN, nLt, nLe, nLtN, nLeN]
      refine hN _ (i + 1) (by omega) ⟨h, ?_⟩ (.to [] (by simp))
      rw [e4, ← hb, ← hg]; rfl
  · have h' : ¬ i < t.length := by omega
    rw [List.drop_eq_nil_of_le h] at hb
    simp only [wlkL] at hb
    delta p43_l1 p43_r2 p43_r3 p43_r4
    simp (disch := omega) [oLt, oLe, oLtN, oLeN, nLt, nLe, nLtN, nLeN, h']
    refine hE _ _ _ .refl ?_
    delta p43_r10
    simp (disch := omega) [oLt, oLe, oLtN, oLeN, nLt, nLe, nLtN, nLeN]
    exact hQ _ _ (.p (.inl rfl) (by simp [← hb]) rfl)
end Go.Sx.Wk
namespace Go.Sx.Wk
open Go Go.Sx Go.Proofs

theorem set_rep (pre : List Int) (m : Nat) (v : Int) : (pre ++ List.replicate (m + 1) 0).set pre.length v = (pre ++ [v]) ++ List.replicate m 0 := by
  rw [List.set_append_right _ _ (Nat.le_refl _)]
  simp [List.replicate_succ]
@[simp] theorem agg_take4 {p : List Int} (h : p.length = 4) : (ints p).take 4 = ints p := List.take_of_length_le (by simp [h])
def s44 : Sp := spT 44 [.l, .l] fun (t w : List Int) => res (ok8 t && decide (t.length ≤ 4) && small w) (.agg (ints (pad t (leftL w 0 t))))
@[simp] theorem s44_g : s44.g = 44 := rfl
@[simp] theorem s44_f : s44.f = (spT 44 [.l, .l] fun (t w : List Int) => res (ok8 t && decide (t.length ≤ 4) && small w) (.agg (ints (pad t (leftL w 0 t))))).f := rfl
theorem s44_ok : s44.ok Try.prog := by
  apply spT_ok
  simp only [OkT, Ty.all, List.nil_append, List.cons_append]
  intro (t : List Int) ut (w : List Int) uw
  apply okT_res; intro hs
  refine P44.rz (ss := []) trivial (by simp) fun Q hQ => ?_
  delta p44 p44_r0 p44_r1 p44_r2
  simp only [Bool.and_eq_true, decide_eq_true_eq] at hs
  obtain ⟨⟨ht, h4⟩, hsw⟩ := hs
  have ht8 := ok8_iff.1 ht
  have hlw : w.length ≤ 1000000 := by simpa [small] using hsw
  simp (disch := omega) [oLt, oLe, oLtN, oLeN, nLt, nLe, nLtN, nLeN]
  refine XZ_for (fun p : Nat × List Int => ⟨[(1, .il (ints w) w.length uw), (4, .ptr 0 0), (5, .ptr 1 0), (11, .il (ints t) t.length ut), (12, vI t.length), (13, vI p.1)], [(0, .cells [vI 0, vI 0, vI 0, vI 0]), (1, .cells (ints (p.2 ++ List.replicate (4 - p.1) 0)))], 2⟩) (fun p => t.length - p.1) (fun p => p.1 ≤ t.length ∧ p.2.length = p.1 ∧ p.2 ++ leftL w p.1 (t.drop p.1) = leftL w 0 t) (0, []) ⟨by simp, by simp, by simp⟩ (.tot [4, 5] (by simp [List.replicate])) ?_
  rintro ⟨i, pre⟩ ⟨hi, hpl, hb⟩ N Q' hN hE
  simp only at hi hpl hb ⊢
  rcases Nat.lt_or_ge i t.length with h | h
  · obtain ⟨m, r, e1, e2, e3, e4, e5⟩ := drop_split h
    have hm := ht8 m e5
    rw [e1] at hb
    simp only [leftL] at hb
    obtain ⟨k, hk⟩ : ∃ k, 4 - i = k + 1 := ⟨3 - i, by omega⟩
    have hk' : 4 - (i + 1) = k := by omega
    have hi4 : i < 4 := by omega
    have hset := set_rep pre k (m - lastS i w.length w.length 0 w)
    rw [hpl] at hset
    have hAl : (pre ++ List.replicate (k + 1) (0 : Int)).length = 4 := by simp [hpl]; omega
    have fin : ∀ s', ChgT 0 s' ⟨[(1, .il (ints w) w.length uw), (4, .ptr 0 0), (5, .ptr 1 0), (11, .il (ints t) t.length ut), (12, vI t.length), (13, vI ((i + 1 : Nat) : Int))], [(0, .cells [vI 0, vI 0, vI 0, vI 0]), (1, .cells (ints ((pre ++ List.replicate (k + 1) 0).set i (m - lastS i w.length w.length 0 w))))], 2⟩ → N s' := fun s' hh => by
      rw [hset] at hh
      exact hN s' (i + 1, pre ++ [m - lastS i w.length w.length 0 w]) (by simp only; omega) ⟨h, by simp [hpl], by simp only [e4]; rw [← hb]; simp⟩ (by rw [hk']; exact hh)
    rw [hk]
    generalize pre ++ List.replicate (k + 1) (0 : Int) = A at *
    have hiA : i < A.length := by omega
    delta p44_l1 p44_r3 p44_r4 p44_r5 p44_r6
    simp (disch := omega) [oLt, oLe, oLtN, oLeN, nLt, nLe, nLtN, nLeN, h, e2, e3]
    refine XZ_for (fun q : Nat × Int => ⟨[(1, .il (ints w) w.length uw), (4, .ptr 0 0), (5, .ptr 1 0), (6, vI i), (7, vI m), (8, vI q.2), (11, .il (ints t) t.length ut), (12, vI t.length), (13, vI i), (20, .il (ints w) w.length uw), (21, vI w.length), (22, vI q.1)], [(0, .cells [vI 0, vI 0, vI 0, vI 0]), (1, .cells (ints A))], 2⟩) (fun q => w.length - q.1) (fun q => q.1 ≤ w.length ∧ 0 ≤ q.2 ∧ q.2 ≤ w.length ∧ lastS i w.length q.2 q.1 (w.drop q.1) = lastS i w.length w.length 0 w) (0, (w.length : Int)) (by simp) (.tot [4, 5] (by simp)) ?_
    rintro ⟨j, c⟩ ⟨hj, hc0, hc1, hg⟩ N1 Q1 hN1 hE1
    simp only at hj hc0 hc1 hg ⊢
    rcases Nat.lt_or_ge j w.length with h1 | h1
    · obtain ⟨x, r', d1, d2, d3, d4, d5⟩ := drop_split h1
      rw [d1] at hg
      simp only [lastS] at hg
      by_cases hx : x = i
      · subst hx
        rw [if_pos rfl] at hg
        delta p44_l0 p44_r7 p44_r8 p44_r9 p44_r10 p44_r11
        simp (disch := omega) [oLt, oLe, oLtN, oLeN, nLt, nLe, nLtN, nLeN, h, h1, d2, d3]
        refine hN1 _ (j + 1, (w.length : Int) - 1 - j) (by simp only; omega) ⟨h1, by simp only; omega, by simp only; omega, ?_⟩ (.tot [4, 5] (by simp))
        simp only [d4]; simpa using hg
      · rw [if_neg hx] at hg
        delta p44_l0 p44_r7 p44_r8 p44_r9 p44_r10 p44_r11
        simp (disch := omega) [oLt, oLe, oLtN, oLeN, nLt, nLe, nLtN, nLeN, h, h1, d2, d3, hx]
        refine hN1 _ (j + 1, c) (by simp only; omega) ⟨h1, hc0, hc1, ?_⟩ (.tot [4, 5] (by simp))
        simp only [d4]; simpa using hg
    · have h1' : ¬ j < w.length := by omega
      simp [List.drop_eq_nil_of_le h1, lastS] at hg
      rw [← hg] at fin
      delta p44_l0 p44_r7 p44_r8 p44_r9 p44_r10 p44_r11
      simp (disch := omega) [oLt, oLe, oLtN, oLeN, nLt, nLe, nLtN, nLeN, h1']
      refine hE1 _ _ _ .refl ?_
      delta p44_r12 p44_r13
      simp (disch := omega) [oLt, oLe, oLtN, oLeN, nLt, nLe, nLtN, nLeN, hi4, hiA, hAl]
      exact fin _ (.tot [4, 5] (by simp))
  · have h' : ¬ i < t.length := by omega
    have hit : i = t.length := by omega
    subst hit
    rw [List.drop_eq_nil_of_le h] at hb
    simp only [leftL, List.append_nil] at hb
    subst hb
    have hA : leftL w 0 t ++ List.replicate (4 - t.length) 0 = pad t (leftL w 0 t) := rfl
    rw [hA]
    have hpl4 : (pad t (leftL w 0 t)).length = 4 := pad_len (leftL_len w t 0).symm h4
    generalize pad t (leftL w 0 t) = A at *
    delta p44_l1 p44_r3 p44_r4 p44_r5 p44_r6
    simp (disch := omega) [oLt, oLe, oLtN, oLeN, nLt, nLe, nLtN, nLeN, h']
    refine hE _ _ _ .refl ?_
    delta p44_r14
    have hA4 : A.take 4 = A := List.take_of_length_le (by omega)
    simp (disch := omega) [oLt, oLe, oLtN, oLeN, nLt, nLe, nLtN, nLeN, hpl4, hA4]
    exact hQ _ _ (.p (.inl rfl) (by simp [hpl4, hA4]) (by simp))

/-- A copy of a list. -/
def f45 : List AV → HL → Nat → Option (AV × HL × Nat) := fun args h k => match args, h, k with
  | [.il (x :: cs) n u], [], 0 => match unints (x :: cs) with
    | some l => if n = l.length ∧ small l = true then some (.ref 0 0 l.length 1 none, [(0, .cells (ints l))], 1) else none
    | none => none
  | [.v (.slice none 0 0)], [], 0 => some (.v (.slice none 0 0), [], 0)
  | _, _, _ => none
def s45 : Sp := ⟨45, f45⟩
@[simp] theorem s45_g : s45.g = 45 := rfl
@[simp] theorem s45_f : s45.f = f45 := rfl
attribute [simp] effEqn nilA fits nilOf
theorem s45_ok : s45.ok Try.prog := by
  intro args h k r h' k' hh
  simp only [s45_f, f45] at hh
  split at hh
  · rename_i x cs n u
    split at hh
    · rename_i l hl
      split at hh
      · rename_i hc
        obtain ⟨hn, hsl⟩ := hc
        cases hh
        have e := unints_inv hl
        rw [e, hn]
        simp only [hp_eq]
        rcases l with _ | ⟨l0, lr⟩
        · simp at e
        have hlr : lr.length + 1 ≤ 1000000 := by simpa [small] using hsl
        refine P45.rz (ss := []) trivial (by simp) fun Q hQ => ?_
        delta p45 p45_r0 p45_r1 p45_r2 p45_r3
        simp (disch := omega) [oLt, oLe, oLtN, oLeN, nLt, nLe, nLtN, nLeN]
        exact hQ _ _ (EndsP_at [5] (.inl rfl) (by simp) rfl (by simp) rfl (by simp))
      · cases hh
    · cases hh
  · cases hh
    simp only [hp_eq]
    refine P45.rz (ss := []) trivial (by simp) fun Q hQ => ?_
    delta p45 p45_r0 p45_r1 p45_r2 p45_r3
    simp (disch := omega) [oLt, oLe, oLtN, oLeN, nLt, nLe, nLtN, nLeN]
    exact hQ _ _ (.same (.inl rfl) (by simp) rfl rfl rfl (by simp))
  · cases hh
end Go.Sx.Wk
