/- ChartColoured: the numbers are tried. No conditions. -/
import Derived.Test.YtfiebjbhiflfpaaDoorSxJJ
set_option linter.unusedVariables false
set_option linter.unusedSimpArgs false
set_option maxRecDepth 4000
namespace Go.Sx.Ch
open Go Go.Sx Go.Proofs

theorem few_nil {L : List (List Int)} {l : List Int} {k : Nat} (hT : fewT L = some (l, k)) (h0 : L.length = 0) : l = [] ∧ k = 0 := by
  obtain ⟨h1, h2, -⟩ := few_first hT
  exact ⟨List.length_eq_zero_iff.1 (by rw [h1.len, h0]), by omega⟩
theorem num_ok {L : List (List Int)} (hc : chk L = 0) {l : List Int} {k m x : Nat} (hT : fewT L = some (l, k)) (hmk : m ≤ k) (hx : x < m ^ L.length)
    (hlow : ∀ y, y < x → gdP (nearF (tabF L)) (digT m y L.length) L.length = false) (hg : gdP (nearF (tabF L)) (digT m x L.length) L.length = true) : m = k ∧ digT m x L.length = l := by
  obtain ⟨h1, h2, h3⟩ := few_first hT
  by_cases h0 : L.length = 0
  · obtain ⟨rfl, rfl⟩ := few_nil hT h0
    refine ⟨by omega, ?_⟩
    rw [h0]; rfl
  · have hm : 0 < m := by
      rcases Nat.eq_zero_or_pos m with rfl | h
      · rw [Nat.zero_pow (by omega)] at hx; omega
      · exact h
    rcases Nat.lt_or_ge m k with h | h
    · have hr := digT_rng hm x L.length
      have hf : Fits (JR L) m (digT m x L.length) := (fits_gd hc (digT_len _ _ _) hr).1 (by rw [digT_len]; exact hg)
      exact absurd (digT_len _ _ _) (h3 m h _ hf)
    · obtain rfl : m = k := by omega
      exact ⟨rfl, dig_first hc hm h1 hx hg hlow⟩
theorem num_end {L : List (List Int)} (hc : chk L = 0) {l : List Int} {k m : Nat} (hT : fewT L = some (l, k)) (hmk : m ≤ k)
    (hlow : ∀ y, y < m ^ L.length → gdP (nearF (tabF L)) (digT m y L.length) L.length = false) : m < k := by
  obtain ⟨h1, h2, h3⟩ := few_first hT
  rcases Nat.lt_or_ge m k with h | h
  · exact h
  · obtain rfl : m = k := by omega
    by_cases h0 : L.length = 0
    · have := hlow 0 (by rw [h0]; simp)
      rw [h0] at this
      cases this
    · rcases Nat.eq_zero_or_pos m with rfl | hm
      · have := h1.fits.rng 0 (by rw [h1.len]; omega)
        omega
      · obtain ⟨y, hy, hg⟩ := dig_exists hc hm h1
        rw [hlow y hy] at hg; cases hg
/-- What holds of the map and its colours. -/
structure G8 (L : List (List Int)) (l : List Int) (k : Nat) : Prop where
  hc : chk L = 0
  hP : L.length ≤ 6
  ht : total L ≤ 12
  lp : loopR L = false
  hT : fewT L = some (l, k)
theorem G8.few {L l k} (h : G8 L l k) : l.length = L.length ∧ k ≤ L.length ∧ k ≤ 4 ∧ propV L l = .tup [vB true, vI 0] := by
  obtain ⟨h1, h2, h3⟩ := few_first h.hT
  exact ⟨h1.len, h2, few_four h.hc h.ht h.hT, prop_fits h.hc h.lp h1.fits h1.len⟩
theorem G8.sm {L l k} (h : G8 L l k) : smM L = true := by
  have := h.hP; have := h.ht
  simp only [smM, Bool.and_eq_true, decide_eq_true_eq]; omega
set_option maxHeartbeats 4000000
theorem r39_8 {n k a x : Nat} {L : List (List Int)} {l : List Int} {N : List Nat} {nx : Nat} {Q : Exit → ST → Prop} (hG : G8 L l k) (hn : L.length = n)
    (hq : ∀ h nx, Q .ret ⟨[(2, vB true)], h, nx⟩) :
    XZ (rZ (spc ss8)) 0 (.seq (.reg p8_r38 [3, 6, 7, 8, 9, 11, 14, 19, 20]) (.seq (.reg p8_r39 [2]) .ret)) ⟨[(3, .ptr 0 0), (5, vI n), (6, vI k), (7, vI 0), (8, .il (ints l) l.length false), (9, vI 0), (10, .il (uws N) N.length false), (11, vI k), (14, .ref 1 0 n 1 (some n)), (101, vI a), (102, vI x), (156, .v (.bool false))], [(0, .cells [.il (lls L) n false]), (1, .cells (ints l))], nx⟩ Q := by
  obtain ⟨f1, f2, f3, f4⟩ := hG.few
  have hs := hG.sm
  have hP := hG.hP
  have hln : l.length = n := by omega
  have hsl : small l = true := by simp only [small, decide_eq_true_eq]; omega
  have hlt : l.take n = l := List.take_of_length_le (by omega)
  have hk4 : (k : Int) ≤ 4 := by omega
  subst hn
  refine XZ_step ?_ (fun N Q_ hN => ?_) ?_
  rotate_left
  · delta p8_r38
    simp (disch := omega) [oLt, oLe, oLtN, oLeN, nLt, nLe, nLtN, nLeN, hs, hsl, f4, hlt, hln]
    exact hN
  refine XZ_regG ?_
  delta p8_r39
  refine zOps_cut 10 ?_ (fun K_ hK => ?_) ?_
  rotate_left
  · simp only [List.take_succ_cons, List.take_zero]
    simp (disch := omega) [oLt, oLe, oLtN, oLeN, nLt, nLe, nLtN, nLeN]
    exact hK
  simp only [List.drop_succ_cons, List.drop_zero]
  refine zOps_cut 10 ?_ (fun K_ hK => ?_) ?_
  rotate_left
  · simp only [List.take_succ_cons, List.take_zero]
    simp (disch := omega) [oLt, oLe, oLtN, oLeN, nLt, nLe, nLtN, nLeN]
    exact hK
  simp only [List.drop_succ_cons, List.drop_zero]
  refine zOps_cut 8 ?_ (fun K_ hK => ?_) ?_
  rotate_left
  · simp only [List.take_succ_cons, List.take_zero]
    simp (disch := omega) [oLt, oLe, oLtN, oLeN, nLt, nLe, nLtN, nLeN, hsl, hln, hlt]
    exact hK
  simp only [List.drop_succ_cons, List.drop_zero]
  refine zOps_cut 8 ?_ (fun K_ hK => ?_) ?_
  rotate_left
  · simp only [List.take_succ_cons, List.take_zero]
    simp (disch := omega) [oLt, oLe, oLtN, oLeN, nLt, nLe, nLtN, nLeN, hk4]
    exact hK
  simp only [List.drop_succ_cons, List.drop_zero]
  simp (disch := omega) [oLt, oLe, oLtN, oLeN, nLt, nLe, nLtN, nLeN]
  exact hq _ _
theorem b1_8 {n k m i A B : Nat} {l : List Int} {N : List Nat} {M : AV} {N' : ST → Prop} {Q' : Exit → ST → Prop} (hi : i < n) (hn : n ≤ 6) (hB : B ≤ 46656) (hAB : (A : Int) * (m : Int) = (B : Int))
    (hK : ∀ nx, N' ⟨[(3, .ptr 0 0), (5, vI n), (6, vI k), (7, vI 0), (8, .il (ints l) l.length false), (9, vI 0), (10, .il (uws N) N.length false), (11, vI m), (12, vI B), (94, vI n), (95, vI ((i : Int) + 1))], [(0, .cells [M])], nx⟩) : XZ (rZ (spc ss8)) 0 p8_l1 ⟨[(3, .ptr 0 0), (5, vI n), (6, vI k), (7, vI 0), (8, .il (ints l) l.length false), (9, vI 0), (10, .il (uws N) N.length false), (11, vI m), (12, vI A), (94, vI n), (95, vI i)], [(0, .cells [M])], 1⟩ (thenE N' Q') := by
  have hic : (i : Int) < n := by omega
  delta p8_l1
  refine XZ_step ?_ (fun N Q_ hN => ?_) ?_
  rotate_left
  · delta p8_r15; simp (disch := omega) [oLt, oLe, oLtN, oLeN, nLt, nLe, nLtN, nLeN, hic]
    exact hN
  refine XZ_step ?_ (fun N Q_ hN => ?_) ?_
  rotate_left
  · simp (disch := omega) [oLt, oLe, oLtN, oLeN, nLt, nLe, nLtN, nLeN]
    exact hN
  refine XZ_step ?_ (fun N Q_ hN => ?_) ?_
  rotate_left
  · delta p8_r16
    simp (disch := omega) [oLt, oLe, oLtN, oLeN, nLt, nLe, nLtN, nLeN, hAB]
    exact hN
  delta p8_r17
  simp (disch := omega) [oLt, oLe, oLtN, oLeN, nLt, nLe, nLtN, nLeN]
  exact hK _
theorem l1_8 {n k m : Nat} {l : List Int} {N : List Nat} {M : AV} {s0 : ST} {Q : Exit → ST → Prop} (hn : n ≤ 6) (hm : m ≤ 6) (hMr : ∀ f, ren f M = M) (hMc : clo M = true)
    (hs0 : ChgT 0 s0 ⟨[(3, .ptr 0 0), (5, vI n), (6, vI k), (7, vI 0), (8, .il (ints l) l.length false), (9, vI 0), (10, .il (uws N) N.length false), (11, vI m), (12, vI 1), (94, vI n), (95, vI (0 : Nat))], [(0, .cells [M])], 1⟩)
    (hq : Q (.exit 4) ⟨[(3, .ptr 0 0), (5, vI n), (6, vI k), (7, vI 0), (8, .il (ints l) l.length false), (9, vI 0), (10, .il (uws N) N.length false), (11, vI m), (12, vI (m ^ n : Nat))], [(0, .cells [M])], 1⟩) :
    XZ (rZ (spc ss8)) 0 (.loop p8_l1) s0 Q := by
  refine XZ_for (fun i : Nat => ⟨[(3, .ptr 0 0), (5, vI n), (6, vI k), (7, vI 0), (8, .il (ints l) l.length false), (9, vI 0), (10, .il (uws N) N.length false), (11, vI m), (12, vI (m ^ i : Nat)), (94, vI n), (95, vI i)], [(0, .cells [M])], 1⟩) (fun i => n - i) (fun i => i ≤ n) 0 (Nat.zero_le _) (by simpa using hs0) ?_
  intro i hi N' Q' hN hE
  rcases Nat.lt_or_ge i n with h | h
  · have hic : (i : Int) < n := by omega
    have fin := fun s' hh => hN s' (i + 1) (by omega) h hh
    have hB2 : m ^ (i + 1) ≤ 46656 := Nat.le_trans (Nat.le_trans (Nat.pow_le_pow_left hm _) (Nat.pow_le_pow_right (show 0 < 6 by decide) (show i + 1 ≤ 6 by omega))) (by decide)
    have hAB : ((m ^ i : Nat) : Int) * (m : Int) = ((m ^ (i + 1) : Nat) : Int) := by simp [Int.pow_succ]
    clear hN hE hq hs0
    exact b1_8 h hn hB2 hAB fun nx => fin _ (.tot [3] (by simp [hMr, hMc]))
  · obtain rfl : i = n := by omega
    have hic : ¬ (i : Int) < i := by omega
    clear hN
    delta p8_l1 p8_r15 p8_r16 p8_r17
    simp (disch := omega) [oLt, oLe, oLtN, oLeN, nLt, nLe, nLtN, nLeN, hic]
    exact hE _ _ _ (.tot [3] (by simp [hMr, hMc])) hq
theorem l5_8 {n k m : Nat} {L : List (List Int)} {l : List Int} {N : List Nat} {s0 : ST} {Q : Exit → ST → Prop} (hG : G8 L l k) (hn : L.length = n) (hNe : nearF (tabF L) = N) (hm : m ≤ k)
    (hs0 : ChgT 0 s0 ⟨[(3, .ptr 0 0), (5, vI n), (6, vI k), (7, vI 0), (8, .il (ints l) l.length false), (9, vI 0), (10, .il (uws N) N.length false), (11, vI m), (101, vI (m ^ n : Nat)), (102, vI (0 : Nat))], [(0, .cells [.il (lls L) n false])], 1⟩)
    (hq : m < k → Q (.exit 6) ⟨[(3, .ptr 0 0), (5, vI n), (6, vI k), (7, vI 0), (8, .il (ints l) l.length false), (9, vI 0), (10, .il (uws N) N.length false), (11, vI m)], [(0, .cells [.il (lls L) n false])], 1⟩)
    (hr : ∀ h nx, Q .ret ⟨[(2, vB true)], h, nx⟩) :
    XZ (rZ (spc ss8)) 0 (.loop p8_l5) s0 Q := by
  obtain ⟨f1, f2, f3, f4⟩ := hG.few
  have hP := hG.hP
  have hNl : N.length = n := by rw [← hNe, nearF_len hG.hc, hn]
  have hN6 : ∀ i, N.getD i 0 < 65536 := by
    obtain ⟨n', P, h34, hn', hP', h0, h33, en, eP, hf⟩ := g80_facts (g80_tab hG.hc)
    rw [← hNe]
    exact nearN_lt _ fun e he => by
      rw [en] at he
      obtain ⟨o, a, b, -, -, hb, -, -, -, -, e2⟩ := hf e (by simpa using he)
      rw [e2]; simp; omega
  have hn9 : (n : Int) * 9 ≤ 1099511627776 := by omega
  have hrep : List.replicate n (AV.v (.int .i64 0)) = ints (List.replicate n 0) := by simp [ints]
  have hpw2 : m ^ n ≤ 46656 := Nat.le_trans (Nat.le_trans (Nat.pow_le_pow_left (show m ≤ 6 by omega) _) (Nat.pow_le_pow_right (show 0 < 6 by decide) (show n ≤ 6 by omega))) (by decide)
  refine XZ_for (fun x : Nat => ⟨[(3, .ptr 0 0), (5, vI n), (6, vI k), (7, vI 0), (8, .il (ints l) l.length false), (9, vI 0), (10, .il (uws N) N.length false), (11, vI m), (101, vI (m ^ n : Nat)), (102, vI x)], [(0, .cells [.il (lls L) n false])], 1⟩) (fun x => m ^ n - x) (fun x => x ≤ m ^ n ∧ ∀ y, y < x → gdP N (digT m y n) n = false) 0 ⟨Nat.zero_le _, fun y hy => by omega⟩ hs0 ?_
  rintro x ⟨hx, hlow⟩ N' Q' hN hE
  rcases Nat.lt_or_ge x (m ^ n) with h | h
  · have hxc : (x : Int) < ((m ^ n : Nat) : Int) := by omega
    have hm0 : 0 < n → 0 < m := fun hn0 => by
      rcases Nat.eq_zero_or_pos m with rfl | hh
      · rw [Nat.zero_pow hn0] at h; omega
      · exact hh
    have hok := num_ok hG.hc hG.hT hm (x := x) (by rw [hn]; exact h) (by rw [hNe, hn]; exact hlow)
    rw [hNe, hn] at hok
    have fin : gdP N (digT m x n) n = false → ∀ s', ChgT 0 s' ⟨[(3, .ptr 0 0), (5, vI n), (6, vI k), (7, vI 0), (8, .il (ints l) l.length false), (9, vI 0), (10, .il (uws N) N.length false), (11, vI m), (101, vI (m ^ n : Nat)), (102, vI ((x : Int) + 1))], [(0, .cells [.il (lls L) n false])], 1⟩ → N' s' := fun hf s' hh => hN s' (x + 1) (by omega) ⟨h, fun y hy => by
      by_cases e : y = x
      · rw [e]; exact hf
      · exact hlow y (by omega)⟩ (by simpa using hh)
    have hret : ∀ h nx, Q' .ret ⟨[(2, vB true)], h, nx⟩ := fun h nx => hE _ _ _ .refl (hr h nx)
    clear hN hE hq hr hs0 hlow
    generalize m ^ n = a at *
    delta p8_l5 p8_r19 p8_r20 p8_r21 p8_r22
    simp (disch := omega) [oLt, oLe, oLtN, oLeN, nLt, nLe, nLtN, nLeN, hxc, hn9, hrep]
    refine l2_8 (n := n) (k := k) (m := m) (x := x) (a := a) (c9 := []) (l := l) (N := N) (M := .il (lls L) n false) (by omega) hm0 (by omega) (by omega) (by simp) (by simp) (.tot [3, 14] (by simp)) ?_
    simp only [inBE, thenE, if_true]
    delta p8_r27 p8_r28
    simp (disch := omega) [oLt, oLe, oLtN, oLeN, nLt, nLe, nLtN, nLeN]
    refine l4_8 (n := n) (k := k) (m := m) (x := x) (a := a) (c := digT m x n) (l := l) (N := N) (M := .il (lls L) n false) (by omega) (digT_len _ _ _) hNl hN6 (by simp) (by simp) (.tot [3, 14] (by simp)) ?_
    simp only [inBE, thenE, if_true]
    cases hg : gdP N (digT m x n) n with
    | false =>
      have fin := fin hg
      delta p8_r37
      simp (disch := omega) [oLt, oLe, oLtN, oLeN, nLt, nLe, nLtN, nLeN]
      delta p8_r40
      simp (disch := omega) [oLt, oLe, oLtN, oLeN, nLt, nLe, nLtN, nLeN]
      exact fin _ (.tot [3] (by simp))
    | true =>
      obtain ⟨rfl, hd⟩ := hok hg
      rw [hd]
      delta p8_r37
      simp (disch := omega) [oLt, oLe, oLtN, oLeN, nLt, nLe, nLtN, nLeN]
      exact r39_8 (L := L) (l := l) (N := N) (n := n) (k := m) (a := a) (x := x) hG hn fun h nx => hret h nx
  · obtain rfl : x = m ^ n := by omega
    have hxc : ¬ ((m ^ n : Nat) : Int) < ((m ^ n : Nat) : Int) := by omega
    have hq := hq (num_end hG.hc hG.hT hm (by rw [hNe, hn]; exact hlow))
    clear hN hlow
    generalize m ^ n = a at *
    delta p8_l5 p8_r19 p8_r20 p8_r21 p8_r22
    simp (disch := omega) [oLt, oLe, oLtN, oLeN, nLt, nLe, nLtN, nLeN, hxc]
    exact hE _ _ _ (.tot [3] (by simp)) hq
end Go.Sx.Ch
set_option maxRecDepth 4000
namespace Go.Sx.Ch
open Go Go.Sx Go.Proofs

set_option maxHeartbeats 4000000
theorem l6_8 {n k : Nat} {L : List (List Int)} {l : List Int} {N : List Nat} {s0 : ST} {Q : Exit → ST → Prop} (hG : G8 L l k) (hn : L.length = n) (hNe : nearF (tabF L) = N)
    (hs0 : ChgT 0 s0 ⟨[(3, .ptr 0 0), (5, vI n), (6, vI k), (7, vI 0), (8, .il (ints l) l.length false), (9, vI 0), (10, .il (uws N) N.length false), (11, vI (0 : Nat))], [(0, .cells [.il (lls L) n false])], 1⟩)
    (hr : ∀ h nx, Q .ret ⟨[(2, vB true)], h, nx⟩) :
    XZ (rZ (spc ss8)) 0 (.loop p8_l6) s0 Q := by
  obtain ⟨f1, f2, f3, f4⟩ := hG.few
  have hP := hG.hP
  refine XZ_for (fun m : Nat => ⟨[(3, .ptr 0 0), (5, vI n), (6, vI k), (7, vI 0), (8, .il (ints l) l.length false), (9, vI 0), (10, .il (uws N) N.length false), (11, vI m)], [(0, .cells [.il (lls L) n false])], 1⟩) (fun m => k - m) (fun m => m ≤ k) 0 (Nat.zero_le _) hs0 ?_
  intro m hm N' Q' hN hE
  have hmc : (m : Int) ≤ n := by omega
  have hret : ∀ h nx, Q' .ret ⟨[(2, vB true)], h, nx⟩ := fun h nx => hE _ _ _ .refl (hr h nx)
  have fin : m < k → ∀ s', ChgT 0 s' ⟨[(3, .ptr 0 0), (5, vI n), (6, vI k), (7, vI 0), (8, .il (ints l) l.length false), (9, vI 0), (10, .il (uws N) N.length false), (11, vI ((m : Int) + 1))], [(0, .cells [.il (lls L) n false])], 1⟩ → N' s' := fun hlt s' hh => hN s' (m + 1) (by omega) hlt (by simpa using hh)
  clear hN hE hs0 hr
  delta p8_l6 p8_r12 p8_r13 p8_r14
  simp (disch := omega) [oLt, oLe, oLtN, oLeN, nLt, nLe, nLtN, nLeN, hmc]
  refine l1_8 (n := n) (k := k) (m := m) (l := l) (N := N) (M := .il (lls L) n false) (by omega) (by omega) (by simp) (by simp) (.tot [3] (by simp)) ?_
  simp only [inBE, thenE, if_true]
  delta p8_r18
  simp (disch := omega) [oLt, oLe, oLtN, oLeN, nLt, nLe, nLtN, nLeN]
  refine l5_8 (n := n) (k := k) (m := m) (L := L) (l := l) (N := N) hG hn hNe hm (.tot [3] (by simp)) (fun hlt => ?_) fun h nx => hret h nx
  have fin := fin hlt
  simp only [inBE, thenE, if_true]
  delta p8_r41
  simp (disch := omega) [oLt, oLe, oLtN, oLeN, nLt, nLe, nLtN, nLeN]
  exact fin _ (.tot [3] (by simp))
/-- What holds of a map that is made and joined. -/
structure J8 (L : List (List Int)) : Prop where
  ne : ∀ l ∈ L, l.length ≠ 0
  cov : Cov L (total L)
  ht : total L ≤ 12
  ev : total L % 2 = 0
  hL : L.length ≤ 12
theorem J8.chk {L} (h : J8 L) : chk L = 0 := h.cov.chk h.ne h.ev
theorem J8.join {D : List (List Int)} {a b : List Int} (h : J8 (D ++ [a, b])) : J8 (D ++ [a ++ b]) := by
  have hc := h.cov.join
  have e := hc.len
  refine ⟨fun l hl => ?_, by rw [e]; exact hc, by rw [e]; exact h.ht, by rw [e]; exact h.ev, ?_⟩
  · rw [List.mem_append, List.mem_singleton] at hl
    rcases hl with hl | rfl
    · exact h.ne l (List.mem_append_left _ hl)
    · have := h.ne a (by simp)
      rw [List.length_append]; omega
  · have := h.hL
    simp at this ⊢; omega
theorem l0_8 {L0 : List (List Int)} {s0 : ST} {Q : Exit → ST → Prop} (h0 : J8 L0) (hs0 : ChgT 0 s0 ⟨[(3, .ptr 0 0)], [(0, .cells [.il (lls L0) L0.length false])], 1⟩)
    (hq : ∀ L, J8 L → L.length ≤ 6 → Q (.exit 0) ⟨[(3, .ptr 0 0)], [(0, .cells [.il (lls L) L.length false])], 1⟩) :
    XZ (rZ (spc ss8)) 0 (.loop p8_l0) s0 Q := by
  refine XZ_for (fun L : List (List Int) => ⟨[(3, .ptr 0 0)], [(0, .cells [.il (lls L) L.length false])], 1⟩) (fun L => L.length) (fun L => J8 L) L0 h0 hs0 ?_
  intro L hJ N' Q' hN hE
  rcases Nat.lt_or_ge 6 L.length with h | h
  · obtain ⟨D, a, b, rfl⟩ := snoc2 (L := L) (by omega)
    have fin : ∀ s', ChgT 0 s' ⟨[(3, .ptr 0 0)], [(0, .cells [.il (lls D ++ [.il (ints (a ++ b)) (a.length + b.length) false]) (D.length + 1) false])], 1⟩ → N' s' := fun s' hh => hN s' (D ++ [a ++ b]) (by simp) hJ.join (by simpa [lls, eL] using hh)
    clear hN hE hq hs0
    have ha0 : a ≠ [] := fun e => hJ.ne a (by simp) (by rw [e]; rfl)
    have hb0 : b ≠ [] := fun e => hJ.ne b (by simp) (by rw [e]; rfl)
    have ht := hJ.ht
    have hal : a.length ≤ 12 := Nat.le_trans (total_mem (by simp)) ht
    have hbl : b.length ≤ 12 := Nat.le_trans (total_mem (by simp)) ht
    have hsa : small a = true := by simp only [small, decide_eq_true_eq]; omega
    have hf50 := f50_at (u := false) ha0 hsa
    have hDl : D.length + 2 ≤ 12 := by have := hJ.hL; simpa using this
    have h6 : (6 : Int) < ((D.length + 2 : Nat) : Int) := by simp at h; omega
    have hb1 : ¬ b.length = 0 := fun e => hb0 (List.length_eq_zero_iff.1 e)
    have e1 : lls (D ++ [a, b]) = lls D ++ [.il (ints a) a.length false, .il (ints b) b.length false] := by simp [lls, eL]
    have hWl : (lls D).length = D.length := by simp [lls]
    have hlen : (D ++ [a, b]).length = D.length + 2 := by simp
    simp only [e1, hlen]
    have hWr : ∀ f, renL f (lls D) = lls D := fun f => by simp
    have hWf : ∀ id cs, frL id cs (lls D) = lls D := fun id cs => by simp
    have hWc : cloL (lls D) = true := by simp
    generalize lls D = W at *
    generalize D.length = d at *
    have w1 : ∀ x y : AV, (W ++ [x, y]).take d = W := fun x y => by rw [List.take_left' hWl]
    have w2 : ∀ x y : AV, (W ++ [x, y])[d]? = some x := fun x y => by rw [List.getElem?_append_right (by omega), hWl]; simp
    have w3 : ∀ x y : AV, (W ++ [x, y])[d + 1]? = some y := fun x y => by rw [List.getElem?_append_right (by omega), hWl]; simp
    delta p8_l0 p8_r2 p8_r3
    simp (disch := omega) [oLt, oLe, oLtN, oLeN, nLt, nLe, nLtN, nLeN, h6]
    delta p8_r4
    have hd1 : ¬ (d + 2 : Int) < 0 := by omega
    refine zD_cut 7 ?_ ?_ (fun K_ hK => ?_) ?_
    rotate_left 2
    · simp only [List.take_succ_cons, List.take_zero]
      simp (disch := omega) [oLt, oLe, oLtN, oLeN, nLt, nLe, nLtN, nLeN, w1, hWl]
      exact hK
    simp only [List.drop_succ_cons, List.drop_zero]
    refine zD_cut 5 ?_ ?_ (fun K_ hK => ?_) ?_
    rotate_left 2
    · simp only [List.take_succ_cons, List.take_zero]
      simp (disch := omega) [oLt, oLe, oLtN, oLeN, nLt, nLe, nLtN, nLeN, w2, hWl]
      exact hK
    simp only [List.drop_succ_cons, List.drop_zero]
    refine zD_cut 2 ?_ ?_ (fun K_ hK => ?_) ?_
    rotate_left 2
    · simp only [List.take_succ_cons, List.take_zero]
      simp (disch := omega) [oLt, oLe, oLtN, oLeN, nLt, nLe, nLtN, nLeN, w2, hf50]
      exact hK
    simp only [List.drop_succ_cons, List.drop_zero]
    refine zD_cut 5 ?_ ?_ (fun K_ hK => ?_) ?_
    rotate_left 2
    · simp only [List.take_succ_cons, List.take_zero]
      simp (disch := omega) [oLt, oLe, oLtN, oLeN, nLt, nLe, nLtN, nLeN, w3, hWl]
      exact hK
    simp only [List.drop_succ_cons, List.drop_zero]
    have htn : ((d : Int) + 2).toNat - 1 = d + 1 := by omega
    refine zD_cut 2 ?_ ?_ (fun K_ hK => ?_) ?_
    rotate_left 2
    · simp only [List.take_succ_cons, List.take_zero]
      simp (disch := omega) [oLt, oLe, oLtN, oLeN, nLt, nLe, nLtN, nLeN, htn, w3, hb1, hb0, hal, hbl]
      exact hK
    simp only [List.drop_succ_cons, List.drop_zero]
    refine zD_cut 2 ?_ ?_ (fun K_ hK => ?_) ?_
    rotate_left 2
    · simp only [List.take_succ_cons, List.take_zero]
      simp (disch := omega) [oLt, oLe, oLtN, oLeN, nLt, nLe, nLtN, nLeN, hWl, hDl]
      exact hK
    simp only [List.drop_succ_cons, List.drop_zero]
    refine zD_cut 2 ?_ ?_ (fun K_ hK => ?_) ?_
    rotate_left 2
    · simp only [List.take_succ_cons, List.take_zero]
      simp (disch := omega) [oLt, oLe, oLtN, oLeN, nLt, nLe, nLtN, nLeN, hWl]
      exact hK
    simp only [List.drop_succ_cons, List.drop_zero]
    refine goD_ok (by decide) ?_
    simp (disch := omega) [oLt, oLe, oLtN, oLeN, nLt, nLe, nLtN, nLeN]
    have w4 : ∀ x : AV, (W ++ [x]).take (d + 1) = W ++ [x] := fun x => List.take_of_length_le (by simp [hWl])
    have ht1 : (ints a ++ ints b).take (a.length + b.length) = ints a ++ ints b := List.take_of_length_le (by simp)
    exact fin _ (.frz 29 (cs := ints a ++ ints b) rfl (by simp) (.frz 31 (cs := W ++ [.il (ints a ++ ints b) (a.length + b.length) false]) (by simp [frzS, hWf, ht1]) (by simp [hWc]) (.tot [3] (by simp [frzS, hWr, hWf, hWl, ht1, w4]))))
  · have hc : ¬ (6 : Int) < L.length := by omega
    have hq := hq L hJ h
    clear hN
    delta p8_l0 p8_r2 p8_r3 p8_r4
    simp (disch := omega) [oLt, oLe, oLtN, oLeN, nLt, nLe, nLtN, nLeN, hc]
    exact hE _ _ _ (.tot [3] (by simp)) hq
theorem mdL_J8 (s : Nat) (O : List Int) (g : Nat) : J8 (mdL s O g 6) := by
  have hc := mdL_cov s O g 6 (by omega)
  have e := hc.len
  have hs : s % 7 < 7 := Nat.mod_lt _ (by omega)
  have hb := (mdS_bd O g (2 * (s % 7)) (2 * (s % 7))).1
  refine ⟨fun l hl => mdS_no O g _ _ l hl, by rw [e]; exact hc, by rw [e]; omega, by rw [e]; omega, ?_⟩
  show (mdS O g (2 * (s % 7)) (2 * (s % 7))).2.length ≤ 12
  omega
theorem best_loop {L : List (List Int)} (hc : chk L = 0) (hl : loopR L = true) : bestN L = 0 ∧ bestE L = 12 ∧ bestL L = .v (.slice none 0 0) := by
  have hE : bestE L = 12 := by unfold bestE; simp [hc, hl]
  have hO : bestO L = none := by unfold bestO; rw [hE]; simp
  exact ⟨by unfold bestN; rw [hO], hE, by unfold bestL; rw [hO]⟩
theorem best_few {L : List (List Int)} (hc : chk L = 0) (hl : loopR L = false) : ∃ l k, fewT L = some (l, k) ∧ bestN L = k ∧ bestE L = 0 ∧ (bestL L = .il (ints l) l.length false ∨ (bestL L = .v (.slice none 0 0) ∧ l = [])) := by
  have hE : bestE L = 0 := by unfold bestE; simp [hc, hl]
  cases h : fewT L with
  | none => exact absurd (tryF_none h L.length (Nat.zero_le _) (by omega)) (fewF_last L)
  | some q =>
    obtain ⟨l, k⟩ := q
    by_cases hP : 0 < L.length
    · have hO : bestO L = some (l, k) := by unfold bestO; rw [if_pos ⟨hE, hP⟩, h]
      exact ⟨l, k, rfl, by unfold bestN; rw [hO], hE, .inl (by unfold bestL; rw [hO])⟩
    · obtain ⟨rfl, rfl⟩ := few_nil h (by omega)
      have hO : bestO L = none := by unfold bestO; rw [if_neg (fun h => hP h.2)]
      exact ⟨[], 0, rfl, by unfold bestN; rw [hO], hE, .inr ⟨by unfold bestL; rw [hO], rfl⟩⟩
set_option maxHeartbeats 8000000 in
theorem coloured_runs {s : Int} {O : List Int} {g : Int} (h : gSk s O g 6 = true) :
    Runs Tryd.prog 8 0 [.agg (skA s O g)] (hpF []) (vB true) 0 (hpF []) := by
  have hf49 := f49_at h
  have hOl : O.length = 16 := by
    simp only [gSk, Bool.and_eq_true, decide_eq_true_eq] at h
    exact h.1.1.1.2
  have hJ0 := mdL_J8 s.toNat O g.toNat
  have e6 : (6 : Int).toNat = 6 := rfl
  rw [e6] at hf49
  generalize mdL s.toNat O g.toNat 6 = L0 at *
  have hKl : (skA s O g).length = 18 := by simp [skA, u8s, hOl]
  have hKr : ∀ f, renL f (skA s O g) = skA s O g := fun f => by simp [skA, renL_app]
  have hKc : cloL (skA s O g) = true := by simp [skA]
  have hKt : (skA s O g).take 18 = skA s O g := List.take_of_length_le (by omega)
  generalize skA s O g = K at *
  have hm0 : mdV L0 = .agg [.il (lls L0) L0.length false] ∨ (mdV L0 = .agg [.v (.slice none 0 0)] ∧ L0 = []) := by
    unfold mdV
    by_cases h0 : L0.length = 0
    · exact .inr ⟨by rw [if_pos h0], List.length_eq_zero_iff.1 h0⟩
    · exact .inl (by rw [if_neg h0])
  refine P8.rz (ss := ss8) ⟨s16_ok, s24_ok, s26_ok, s28_ok, s30_ok, s49_ok, s50_ok, s51_ok, s52_ok, trivial⟩ (by simp) fun Q hQ => ?_
  have hret : ∀ h nx, Q .ret ⟨[(2, vB true)], h, nx⟩ := fun h nx => hQ _ _ (.p (.inl rfl) (by simp) rfl)
  delta p8
  have rest : ∀ s0, ChgT 0 s0 ⟨[(3, .ptr 0 0)], [(0, .cells [.il (lls L0) L0.length false])], 1⟩ → XZ (rZ (spc ss8)) 0 (.seq (.block 0 (.loop p8_l0)) (.seq (.reg p8_r5 [3, 5]) (.seq (.reg p8_r6 [3, 5, 6, 7]) (.seq (.reg p8_r7 [3, 5, 6, 7, 8, 9]) (.seq (.seq (.reg p8_r8 [3, 5, 6, 7, 8, 9, 68]) (.cond (Operand.tmp 68) (.seq (.reg p8_r9 [2]) .ret) .skip)) (.seq (.reg p8_r10 [3, 5, 6, 7, 8, 9, 10]) (.seq (.seq (.reg p8_r11 [3, 5, 6, 7, 8, 9, 10, 11]) (.block 2 (.loop p8_l6))) (.seq (.reg p8_r42 [2]) .ret)))))))) s0 Q := by
    intro s0 hs0
    refine XZ_seqG ?_
    refine l0_8 hJ0 hs0 fun L hJ hL => ?_
    have hc := hJ.chk
    have ht := hJ.ht
    have hs : smM L = true := by simp only [smM, Bool.and_eq_true, decide_eq_true_eq]; omega
    have hgd : gdM L = true := by simp only [gdM, hs, Bool.true_and, decide_eq_true_eq]; exact hc
    have hlo := loop_eq hc
    have hnl := nearF_len hc
    simp only [inBE, thenE, if_true]
    generalize hN : nearF (tabF L) = N at *
    cases hlp : loopR L with
    | true =>
      obtain ⟨b1, b2, b3⟩ := best_loop hc hlp
      rw [hlp] at hlo
      refine XZ_step ?_ (fun N Q_ hN => ?_) ?_
      rotate_left
      · delta p8_r5; simp (disch := omega) [oLt, oLe, oLtN, oLeN, nLt, nLe, nLtN, nLeN]
        exact hN
      refine XZ_step ?_ (fun N Q_ hN => ?_) ?_
      rotate_left
      · delta p8_r6; simp (disch := omega) [oLt, oLe, oLtN, oLeN, nLt, nLe, nLtN, nLeN, hs, b1, b2]
        exact hN
      refine XZ_step ?_ (fun N Q_ hN => ?_) ?_
      rotate_left
      · delta p8_r7; simp (disch := omega) [oLt, oLe, oLtN, oLeN, nLt, nLe, nLtN, nLeN, hs, b2, b3]
        exact hN
      refine XZ_seqG (XZ_seqG ?_)
      delta p8_r8
      simp (disch := omega) [oLt, oLe, oLtN, oLeN, nLt, nLe, nLtN, nLeN, hgd, hlo]
      delta p8_r9
      refine zOps_cut 8 ?_ (fun K_ hK => ?_) ?_
      rotate_left
      · simp only [List.take_succ_cons, List.take_zero]
        simp (disch := omega) [oLt, oLe, oLtN, oLeN, nLt, nLe, nLtN, nLeN]
        exact hK
      simp only [List.drop_succ_cons, List.drop_zero]
      refine zOps_cut 8 ?_ (fun K_ hK => ?_) ?_
      rotate_left
      · simp only [List.take_succ_cons, List.take_zero]
        simp (disch := omega) [oLt, oLe, oLtN, oLeN, nLt, nLe, nLtN, nLeN]
        exact hK
      simp only [List.drop_succ_cons, List.drop_zero]
      simp (disch := omega) [oLt, oLe, oLtN, oLeN, nLt, nLe, nLtN, nLeN]
      exact hret _ _
    | false =>
      obtain ⟨l, k, hT, b1, b2, b3⟩ := best_few hc hlp
      rw [hlp] at hlo
      have hG : G8 L l k := ⟨hc, hL, ht, hlp, hT⟩
      rcases b3 with b3 | ⟨b3, rfl⟩
      · skip
        refine XZ_step ?_ (fun N Q_ hN => ?_) ?_
        rotate_left
        · delta p8_r5; simp (disch := omega) [oLt, oLe, oLtN, oLeN, nLt, nLe, nLtN, nLeN]
          exact hN
        refine XZ_step ?_ (fun N Q_ hN => ?_) ?_
        rotate_left
        · delta p8_r6; simp (disch := omega) [oLt, oLe, oLtN, oLeN, nLt, nLe, nLtN, nLeN, hs, b1, b2]
          exact hN
        refine XZ_step ?_ (fun N Q_ hN => ?_) ?_
        rotate_left
        · delta p8_r7; simp (disch := omega) [oLt, oLe, oLtN, oLeN, nLt, nLe, nLtN, nLeN, hs, b2, b3]
          exact hN
        refine XZ_step ?_ (fun N Q_ hN => ?_) ?_
        rotate_left
        · delta p8_r8; simp (disch := omega) [oLt, oLe, oLtN, oLeN, nLt, nLe, nLtN, nLeN, hgd, hlo]
          exact hN
        refine XZ_step ?_ (fun N Q_ hN => ?_) ?_
        rotate_left
        · delta p8_r10; simp (disch := omega) [oLt, oLe, oLtN, oLeN, nLt, nLe, nLtN, nLeN, hgd, hN, hnl]
          exact hN
        delta p8_r11
        simp (disch := omega) [oLt, oLe, oLtN, oLeN, nLt, nLe, nLtN, nLeN]
        exact l6_8 hG rfl hN (.tot [3] (by simp [hN])) hret
      · skip
        refine XZ_step ?_ (fun N Q_ hN => ?_) ?_
        rotate_left
        · delta p8_r5; simp (disch := omega) [oLt, oLe, oLtN, oLeN, nLt, nLe, nLtN, nLeN]
          exact hN
        refine XZ_step ?_ (fun N Q_ hN => ?_) ?_
        rotate_left
        · delta p8_r6; simp (disch := omega) [oLt, oLe, oLtN, oLeN, nLt, nLe, nLtN, nLeN, hs, b1, b2]
          exact hN
        refine XZ_step ?_ (fun N Q_ hN => ?_) ?_
        rotate_left
        · delta p8_r7; simp (disch := omega) [oLt, oLe, oLtN, oLeN, nLt, nLe, nLtN, nLeN, hs, b2, b3]
          exact hN
        refine XZ_step ?_ (fun N Q_ hN => ?_) ?_
        rotate_left
        · delta p8_r8; simp (disch := omega) [oLt, oLe, oLtN, oLeN, nLt, nLe, nLtN, nLeN, hgd, hlo]
          exact hN
        refine XZ_step ?_ (fun N Q_ hN => ?_) ?_
        rotate_left
        · delta p8_r10; simp (disch := omega) [oLt, oLe, oLtN, oLeN, nLt, nLe, nLtN, nLeN, hgd, hN, hnl]
          exact hN
        delta p8_r11
        simp (disch := omega) [oLt, oLe, oLtN, oLeN, nLt, nLe, nLtN, nLeN]
        exact l6_8 (l := []) hG rfl hN (.trans (b := ⟨[(3, .ptr 0 0), (5, vI L.length), (6, vI k), (7, vI 0), (8, .v (.slice none 0 0)), (9, vI 0), (10, .il (uws N) N.length false), (11, vI (0 : Nat))], [(0, .cells [.il (lls L) L.length false])], 1⟩) (show ChgT 0 _ ⟨[(3, .ptr 0 0), (5, vI L.length), (6, vI k), (7, vI 0), (8, .v (.slice none 0 0)), (9, vI 0), (10, .il (uws N) N.length false), (11, vI (0 : Nat))], [(0, .cells [.il (lls L) L.length false])], 1⟩ from .tot [3] (by simp [hN])) (.weak (s' := ⟨[(3, .ptr 0 0), (5, vI L.length), (6, vI k), (7, vI 0), (8, .il [] 0 false), (9, vI 0), (10, .il (uws N) N.length false), (11, vI (0 : Nat))], [(0, .cells [.il (lls L) L.length false])], 1⟩) ⟨rfl, .refl, rfl, .refl, rfl, .refl, rfl, .refl, rfl, .nil, rfl, .refl, rfl, .refl, rfl, .refl, trivial⟩ ⟨rfl, WkB.refl, trivial⟩ rfl .refl)) hret
  refine XZ_step ?_ (fun N Q_ hN => ?_) ?_
  rotate_left
  · delta p8_r0; simp (disch := omega) [oLt, oLe, oLtN, oLeN, nLt, nLe, nLtN, nLeN, hKt]
    exact hN
  rcases hm0 with hm0 | ⟨hm0, rfl⟩
  · rw [hm0] at hf49
    refine XZ_step ?_ (fun N Q_ hN => ?_) ?_
    rotate_left
    · delta p8_r1; simp (disch := omega) [oLt, oLe, oLtN, oLeN, nLt, nLe, nLtN, nLeN, hf49, hKl, hKt, hKc]
      exact hN
    exact rest _ (.tot [3] (by simp))
  · rw [hm0] at hf49
    refine XZ_step ?_ (fun N Q_ hN => ?_) ?_
    rotate_left
    · delta p8_r1; simp (disch := omega) [oLt, oLe, oLtN, oLeN, nLt, nLe, nLtN, nLeN, hf49, hKl, hKt, hKc]
      exact hN
    exact rest _ (.trans (b := ⟨[(3, .ptr 0 0)], [(0, .cells [.v (.slice none 0 0)])], 1⟩) (.tot [3] (by simp)) (.weak (s' := ⟨[(3, .ptr 0 0)], [(0, .cells [.il (lls []) 0 false])], 1⟩) ⟨rfl, .refl, trivial⟩ ⟨rfl, ⟨rfl, fun i u v hu hv => by
      cases i with
      | zero => cases hu; cases hv; exact .nil
      | succ i => simp at hu⟩, trivial⟩ rfl .refl))
end Go.Sx.Ch
