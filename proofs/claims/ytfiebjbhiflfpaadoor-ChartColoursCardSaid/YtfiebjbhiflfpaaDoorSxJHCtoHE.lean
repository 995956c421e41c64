/- What functions of the chart layer's document return: fewest, Fewest, Colour, Proper. No conditions. -/
import Derived.Test.YtfiebjbhiflfpaaDoorSxJHAtoHB
import Derived.Test.YtfiebjbhiflfpaaDoorSxJCPtoCR
import Derived.Test.YtfiebjbhiflfpaaDoorSxDF
set_option linter.unusedVariables false
set_option linter.unusedSimpArgs false
set_option maxRecDepth 4000
namespace Go.Sx.Ch
open Go Go.Sx Go.Proofs

def fewL (L : List (List Int)) : List Int := match fewT L with
  | some q => q.1
  | none => []
def fewN (L : List (List Int)) : Nat := match fewT L with
  | some q => q.2
  | none => 0
set_option maxHeartbeats 4000000
def s78 : Sp := spT 78 [.mp] fun (L : List (List Int)) => res (smM L && inM L && decide (L.length ≤ 16)) (.tup [.il (ints (fewL L)) (fewL L).length false, vI (fewN L)])
@[simp] theorem s78_g : s78.g = 78 := rfl
@[simp] theorem s78_f : s78.f = (spT 78 [.mp] fun (L : List (List Int)) => res (smM L && inM L && decide (L.length ≤ 16)) (.tup [.il (ints (fewL L)) (fewL L).length false, vI (fewN L)])).f := rfl
theorem s78_ok : s78.ok Tryd.prog := by
  apply spT_ok
  simp only [OkT, Ty.all, List.nil_append, List.cons_append]
  intro (L : List (List Int)) u
  apply okT_res; intro hg
  simp only [Bool.and_eq_true, decide_eq_true_eq] at hg
  obtain ⟨⟨hs, hin⟩, h16⟩ := hg
  refine P78.rz (ss := [s102n L.length]) ⟨s102n_ok _, trivial⟩ (by simp) fun Q hQ => ?_
  delta p78 p78_r0 p78_r1
  simp (disch := omega) [oLt, oLe, oLtN, oLeN, nLt, nLe, nLtN, nLeN]
  refine XZ_for (fun m : Nat => ⟨[(1, .ptr 0 0), (4, vI m)], [(0, .cells [.il (lls L) L.length u])], 1⟩) (fun m => L.length + 1 - m) (fun m => m ≤ L.length ∧ tryF (fewF L) (L.length + 1 - m) m = fewT L) 0 ⟨Nat.zero_le _, rfl⟩ (.tot [1] (by simp)) ?_
  rintro m ⟨hm2, hinv⟩ N Q' hN hE2
  have hg : g102 L.length L [] m = true := by
    simp only [g102, Bool.and_eq_true, decide_eq_true_eq, within_iff, List.length_nil]
    exact ⟨⟨⟨⟨hs, hin⟩, h16⟩, by omega⟩, by omega, by omega⟩
  have hst : L.length + 1 - m = (L.length - m) + 1 := by omega
  rw [hst] at hinv
  simp only [tryF] at hinv
  cases hcm : colR (JR L) m L.length [] with
  | some l =>
    have hfm : fewF L m = some (l, m) := by unfold fewF; rw [hcm]; rfl
    rw [hfm] at hinv
    have hr1 : fewL L = l := by unfold fewL; rw [← hinv]
    have hr2 : fewN L = m := by unfold fewN; rw [← hinv]
    rw [hr1, hr2] at hQ
    delta p78_l0 p78_r2 p78_r3 p78_r4 p78_r5
    simp (disch := omega) [oLt, oLe, oLtN, oLeN, nLt, nLe, nLtN, nLeN, hg, hcm, colW]
    exact hE2 _ _ _ .refl (hQ _ _ (.p (.inl rfl) (by simp) (by simp)))
  | none =>
    have hfm : fewF L m = none := by unfold fewF; rw [hcm]; rfl
    rw [hfm] at hinv
    have hlt : m < L.length := by
      rcases Nat.lt_or_ge m L.length with h | h
      · exact h
      · have : m = L.length := by omega
        subst this
        exact absurd hfm (fewF_last L)
    delta p78_l0 p78_r2 p78_r3 p78_r4 p78_r5
    simp (disch := omega) [oLt, oLe, oLtN, oLeN, nLt, nLe, nLtN, nLeN, hg, hcm, colW]
    exact hN _ (m + 1) (by omega) ⟨by omega, by rw [← hinv, show L.length + 1 - (m + 1) = L.length - m by omega]⟩ (.tot [1] (by simp))
theorem chk_in {L : List (List Int)} (hc : chk L = 0) : inM L = true := List.all_eq_true.2 fun l hl => List.all_eq_true.2 fun e he => by
  have := (chk_cov hc).rng e (List.mem_flatten.2 ⟨l, hl, he⟩)
  have := (chk_cov hc).le
  rw [within_iff]; omega
def s27 : Sp := spT 27 [.mp] fun (L : List (List Int)) => res (smM L) (.tup [vI (if bestE L = 0 then fewN L else 0 : Nat), vI (bestE L)])
@[simp] theorem s27_g : s27.g = 27 := rfl
@[simp] theorem s27_f : s27.f = (spT 27 [.mp] fun (L : List (List Int)) => res (smM L) (.tup [vI (if bestE L = 0 then fewN L else 0 : Nat), vI (bestE L)])).f := rfl
theorem s27_ok : s27.ok Tryd.prog := by
  apply spT_ok
  simp only [OkT, Ty.all, List.nil_append, List.cons_append]
  intro (L : List (List Int)) u
  apply okT_res; intro hs
  refine P27.rz (ss := [s45, s77, s78]) ⟨s45_ok, s77_ok, s78_ok, trivial⟩ (by simp) fun Q hQ => ?_
  delta p27 p27_r0 p27_r1 p27_r2 p27_r3 p27_r4 p27_r5 p27_r6 p27_r7
  by_cases hc : chk L = 0
  · obtain ⟨h34, h16, hev, hl, -⟩ := tab_pts hc
    have hin := chk_in hc
    cases hlp : loopR L with
    | true =>
      have hE : bestE L = 12 := by unfold bestE; simp [hc, hlp]
      rw [hE, if_neg (by decide)] at hQ
      simp (disch := omega) [oLt, oLe, oLtN, oLeN, nLt, nLe, nLtN, nLeN, hs, hc, hin, hlp]
      exact hQ _ _ (.p (.inl rfl) (by simp) rfl)
    | false =>
      have hE : bestE L = 0 := by unfold bestE; simp [hc, hlp]
      rw [hE, if_pos rfl] at hQ
      generalize hF : fewL L = F at *
      generalize hNn : fewN L = n at *
      simp (disch := omega) [oLt, oLe, oLtN, oLeN, nLt, nLe, nLtN, nLeN, hs, hc, hin, hlp, hl, hF, hNn]
      exact hQ _ _ (.p (.inl rfl) (by simp) rfl)
  · have hE : bestE L = chk L := by unfold bestE; simp [hc]
    rw [hE, if_neg hc] at hQ
    generalize hce : chk L = c at *
    simp (disch := omega) [oLt, oLe, oLtN, oLeN, nLt, nLe, nLtN, nLeN, hs, hc, hce]
    exact hQ _ _ (.p (.inl rfl) (by simp) rfl)
def colRf (L : List (List Int)) : AV := if bestE L = 0 then .il (ints (fewL L)) (fewL L).length false else .v (.slice none 0 0)
def s29 : Sp := spT 29 [.mp] fun (L : List (List Int)) => res (smM L) (.tup [colRf L, vI (bestE L)])
@[simp] theorem s29_g : s29.g = 29 := rfl
@[simp] theorem s29_f : s29.f = (spT 29 [.mp] fun (L : List (List Int)) => res (smM L) (.tup [colRf L, vI (bestE L)])).f := rfl
theorem s29_ok : s29.ok Tryd.prog := by
  apply spT_ok
  simp only [OkT, Ty.all, List.nil_append, List.cons_append]
  intro (L : List (List Int)) u
  apply okT_res; intro hs
  refine P29.rz (ss := [s45, s77, s78]) ⟨s45_ok, s77_ok, s78_ok, trivial⟩ (by simp) fun Q hQ => ?_
  delta p29 p29_r0 p29_r1 p29_r2 p29_r3 p29_r4 p29_r5 p29_r6 p29_r7
  by_cases hc : chk L = 0
  · obtain ⟨h34, h16, hev, hl, -⟩ := tab_pts hc
    have hin := chk_in hc
    cases hlp : loopR L with
    | true =>
      have hE : bestE L = 12 := by unfold bestE; simp [hc, hlp]
      have hr : colRf L = .v (.slice none 0 0) := by unfold colRf; rw [hE, if_neg (by decide)]
      rw [hE, hr] at hQ
      simp (disch := omega) [oLt, oLe, oLtN, oLeN, nLt, nLe, nLtN, nLeN, hs, hc, hin, hlp]
      exact hQ _ _ (.p (.inl rfl) (by simp) rfl)
    | false =>
      have hE : bestE L = 0 := by unfold bestE; simp [hc, hlp]
      have hr : colRf L = .il (ints (fewL L)) (fewL L).length false := by unfold colRf; rw [hE, if_pos rfl]
      rw [hE, hr] at hQ
      generalize hF : fewL L = F at *
      generalize hNn : fewN L = n at *
      simp (disch := omega) [oLt, oLe, oLtN, oLeN, nLt, nLe, nLtN, nLeN, hs, hc, hin, hlp, hl, hF, hNn]
      exact hQ _ _ (.p (.inl rfl) (by simp) (by simp))
  · have hE : bestE L = chk L := by unfold bestE; simp [hc]
    have hr : colRf L = .v (.slice none 0 0) := by unfold colRf; rw [hE, if_neg hc]
    rw [hE, hr] at hQ
    generalize hce : chk L = c at *
    simp (disch := omega) [oLt, oLe, oLtN, oLeN, nLt, nLe, nLtN, nLeN, hs, hc, hce]
    exact hQ _ _ (.p (.inl rfl) (by simp) rfl)
end Go.Sx.Ch
set_option maxRecDepth 4000
namespace Go.Sx.Ch
open Go Go.Sx Go.Proofs

set_option maxHeartbeats 4000000
def stP (L : List (List Int)) (u : Bool) (cs : List Int) (v : Bool) (e : Int) (i : Nat) : ST :=
  ⟨[(1, .il (ints cs) cs.length v), (2, .ptr 0 0), (6, vI e), (7, vI i)], [(0, .cells [.il (lls L) L.length u])], 1⟩
theorem l25_ok {L : List (List Int)} {u v : Bool} {cs : List Int} {e0 : Int} {s0 : ST} {Q : Exit → ST → Prop} (hsm : cs.length ≤ 1000000)
    (h0 : (e0 = 0 ∧ propE L cs = if 0 ≤ negR cs 0 then 1 else 0) ∨ (e0 ≠ 0 ∧ propE L cs = e0))
    (hs0 : ChgT 0 s0 (stP L u cs v e0 0)) (hq : Q (.exit 0) ⟨[(1, .il (ints cs) cs.length v), (2, .ptr 0 0), (6, vI (propE L cs))], [(0, .cells [.il (lls L) L.length u])], 1⟩) :
    XZ (rZ (spc [s45, s66, s75])) 0 (.loop p25_l0) s0 Q := by
  refine XZ_for (fun q : Nat × Int => stP L u cs v q.2 q.1) (fun q => if q.2 = 0 then cs.length - q.1 + 1 else 0)
    (fun q => (q.2 = 0 ∧ q.1 ≤ cs.length ∧ negR (cs.drop q.1) q.1 = negR cs 0 ∧ propE L cs = if 0 ≤ negR cs 0 then 1 else 0) ∨ (q.2 ≠ 0 ∧ propE L cs = q.2)) (0, e0) ?_ hs0 ?_
  · rcases h0 with ⟨h1, h2⟩ | h
    · exact .inl ⟨h1, Nat.zero_le _, by simp, h2⟩
    · exact .inr h
  rintro ⟨i, e⟩ hinv N Q' hN hE
  simp only at hinv hN ⊢
  unfold stP at *
  rcases hinv with ⟨rfl, hi, hng, hp⟩ | ⟨hne, hp⟩
  · rcases Nat.lt_or_ge i cs.length with h | h
    · have hic : (i : Int) < cs.length := by omega
      obtain ⟨x, r, e1, e2, e3, e4, e5⟩ := drop_split h
      rw [e1, negR] at hng
      by_cases hx : x < 0
      · rw [if_pos hx] at hng
        rw [← hng, if_pos (by omega)] at hp
        delta p25_l0 p25_r5 p25_r6 p25_r7 p25_r8
        simp (disch := omega) [oLt, oLe, oLtN, oLeN, nLt, nLe, nLtN, nLeN, hic, h, e2, e3, hx]
        exact hN _ (i + 1, 1) (by simp) (.inr ⟨by simp, hp⟩) (.tot [2] (by simp))
      · rw [if_neg hx] at hng
        delta p25_l0 p25_r5 p25_r6 p25_r7 p25_r8
        simp (disch := omega) [oLt, oLe, oLtN, oLeN, nLt, nLe, nLtN, nLeN, hic, h, e2, e3, hx]
        exact hN _ (i + 1, 0) (by simp; omega) (.inl ⟨rfl, h, by rw [e4, ← hng]; congr 1, hp⟩) (.tot [2] (by simp))
    · obtain rfl : i = cs.length := by omega
      have hic : ¬ (cs.length : Int) < cs.length := by omega
      rw [List.drop_eq_nil_of_le (Nat.le_refl _), negR] at hng
      rw [← hng, if_neg (by omega)] at hp
      rw [hp] at hq
      delta p25_l0 p25_r5 p25_r6 p25_r7 p25_r8
      simp (disch := omega) [oLt, oLe, oLtN, oLeN, nLt, nLe, nLtN, nLeN, hic]
      exact hE _ _ _ (.tot [2] (by simp)) hq
  · rw [hp] at hq
    by_cases hic : (i : Int) < cs.length
    · delta p25_l0 p25_r5 p25_r6 p25_r7 p25_r8
      simp (disch := omega) [oLt, oLe, oLtN, oLeN, nLt, nLe, nLtN, nLeN, hic, hne]
      exact hE _ _ _ (.tot [2] (by simp)) hq
    · delta p25_l0 p25_r5 p25_r6 p25_r7 p25_r8
      simp (disch := omega) [oLt, oLe, oLtN, oLeN, nLt, nLe, nLtN, nLeN, hic, hne]
      exact hE _ _ _ (.tot [2] (by simp)) hq
def s25 : Sp := spT 25 [.mp, .l] fun (L : List (List Int)) (cs : List Int) => res (smM L && small cs) (propV L cs)
@[simp] theorem s25_g : s25.g = 25 := rfl
@[simp] theorem s25_f : s25.f = (spT 25 [.mp, .l] fun (L : List (List Int)) (cs : List Int) => res (smM L && small cs) (propV L cs)).f := rfl
theorem s25_ok : s25.ok Tryd.prog := by
  apply spT_ok
  simp only [OkT, Ty.all, List.nil_append, List.cons_append]
  intro (L : List (List Int)) u (cs : List Int) v
  apply okT_res; intro hg
  refine P25.rz (ss := [s45, s66, s75]) ⟨s45_ok, s66_ok, s75_ok, trivial⟩ (by simp) fun Q hQ => ?_
  delta p25 p25_r0 p25_r1 p25_r2 p25_r3 p25_r4
  simp only [Bool.and_eq_true, small, decide_eq_true_eq] at hg
  obtain ⟨hs, hsm⟩ := hg
  have hlen : L.length ≤ 10000 := by simp only [smM, Bool.and_eq_true, decide_eq_true_eq] at hs; exact hs.1
  have rest :
      XZ (rZ (spc [s45, s66, s75])) 0 (.seq (.seq (.reg p25_r9 [1, 2, 6, 37]) (.cond (Operand.tmp 37) (.seq (.reg p25_r10 [4, 5]) .ret) .skip)) (.seq (.seq (.reg p25_r11 [1, 2, 8]) (.block 2 (.loop p25_l1))) (.seq (.reg p25_r16 [4, 5]) .ret))) ⟨[(1, .il (ints cs) cs.length v), (2, .ptr 0 0), (6, vI (propE L cs))], [(0, .cells [.il (lls L) L.length u])], 1⟩ Q := by
    by_cases hpe : propE L cs = 0
    · rw [hpe]
      have hc : chk L = 0 := by
        unfold propE at hpe
        split at hpe
        · rename_i h; exact absurd hpe h
        · rename_i h; exact Classical.not_not.1 h
      have hn : cs.length = L.length := by
        unfold propE at hpe
        rw [if_neg (fun h => h hc)] at hpe
        split at hpe
        · cases hpe
        · rename_i h; exact Classical.not_not.1 h
      have hr : propV L cs = .tup [vB ((List.range (total L / 2)).all (okAt L cs)), vI 0] := by unfold propV propB; rw [hpe]; simp
      rw [hr] at hQ
      obtain ⟨-, h16, hev, hl, -, -, hp⟩ := tab_pts hc
      have hat : ∀ k : Nat, k < total L / 2 → ∃ a b : Nat, a < cs.length ∧ b < cs.length ∧ ptL L (2 * (k : Int)) = (a : Int) ∧ ptL L (2 * (k : Int) + 1) = (b : Int) ∧ okAt L cs k = decide (¬ cs.getD a 0 = cs.getD b 0) := fun k hk => by
        obtain ⟨a, a1, a2, -, a3⟩ := hp (2 * k) (by omega)
        obtain ⟨b, b1, b2, -, b3⟩ := hp (2 * k + 1) (by omega)
        refine ⟨a, b, by omega, by omega, by simpa using a3, by simpa using b3, by unfold okAt; rw [a3, b3]; simp⟩
      generalize hne : total L = n at *
      delta p25_r9 p25_r10 p25_r11
      simp (disch := omega) [oLt, oLe, oLtN, oLeN, nLt, nLe, nLtN, nLeN]
      refine XZ_for (fun k : Nat => ⟨[(1, .il (ints cs) cs.length v), (2, .ptr 0 0), (8, vI k)], [(0, .cells [.il (lls L) L.length u])], 1⟩) (fun k => n / 2 - k) (fun k => k ≤ n / 2 ∧ ∀ j, j < k → okAt L cs j = true) 0 ⟨by simp, fun j hj => by omega⟩ (.tot [2] (by simp)) ?_
      rintro k ⟨hk, hinv⟩ N Q' hN hE
      have hquo2 : ((n : Int) / 2) = ((n / 2 : Nat) : Int) := by omega
      rcases Nat.lt_or_ge k (n / 2) with h | h
      · have hkc : (k : Int) < ((n / 2 : Nat) : Int) := by omega
        have hkc2 : (k : Int) < (n : Int) / 2 := by omega
        obtain ⟨a, b, ha, hb, q1, q2, q3⟩ := hat k h
        obtain ⟨x, hx⟩ : ∃ x, cs[a]? = some x := ⟨cs[a], by rw [List.getElem?_eq_getElem]⟩
        have hx' := (List.getElem?_eq_some_iff.1 hx).2
        obtain ⟨y, hy⟩ : ∃ y, cs[b]? = some y := ⟨cs[b], by rw [List.getElem?_eq_getElem]⟩
        have hy' := (List.getElem?_eq_some_iff.1 hy).2
        rw [List.getD_eq_getElem?_getD, List.getD_eq_getElem?_getD, hx, hy, Option.getD_some, Option.getD_some] at q3
        have hac : (a : Int) < cs.length := by omega
        have hbc : (b : Int) < cs.length := by omega
        by_cases hxy : x = y
        · have hno : ((List.range (n / 2)).all (okAt L cs)) = false := by
            rw [List.all_eq_false]
            exact ⟨k, List.mem_range.2 h, by rw [q3]; simp [hxy]⟩
          delta p25_l1 p25_r12 p25_r13 p25_r14 p25_r15
          simp (disch := omega) [oLt, oLe, oLtN, oLeN, nLt, nLe, nLtN, nLeN, hs, hne, hkc, hkc2, q1, q2, ha, hb, hac, hbc, hx, hx', hy, hy', hxy]
          exact hE _ _ _ .refl (hQ _ _ (.p (.inl rfl) (by simp [hno]) rfl))
        · delta p25_l1 p25_r12 p25_r13 p25_r14 p25_r15
          simp (disch := omega) [oLt, oLe, oLtN, oLeN, nLt, nLe, nLtN, nLeN, hs, hne, hkc, hkc2, q1, q2, ha, hb, hac, hbc, hx, hx', hy, hy', hxy]
          exact hN _ (k + 1) (by omega) ⟨h, fun j hj => by
            by_cases ej : j < k
            · exact hinv j ej
            · have : j = k := by omega
              rw [this, q3]; simp [hxy]⟩ (.tot [2] (by simp))
      · obtain rfl : k = n / 2 := by omega
        have hkc : ¬ ((n / 2 : Nat) : Int) < (n : Int) / 2 := by omega
        have hyes : ((List.range (n / 2)).all (okAt L cs)) = true := by
          rw [List.all_eq_true]
          exact fun j hj => hinv j (List.mem_range.1 hj)
        rw [hyes] at hQ
        delta p25_l1 p25_r12 p25_r13 p25_r14 p25_r15
        simp (disch := omega) [oLt, oLe, oLtN, oLeN, nLt, nLe, nLtN, nLeN, hs, hne, hkc]
        refine hE _ _ _ .refl ?_
        delta p25_r16
        simp (disch := omega) [oLt, oLe, oLtN, oLeN, nLt, nLe, nLtN, nLeN]
        exact hQ _ _ (.p (.inl rfl) (by simp) rfl)
    · have hr : propV L cs = .tup [vB false, vI (propE L cs)] := by unfold propV propB; rw [decide_eq_false hpe]; simp
      rw [hr] at hQ
      generalize propE L cs = e at *
      delta p25_r9 p25_r10 p25_r11
      simp (disch := omega) [oLt, oLe, oLtN, oLeN, nLt, nLe, nLtN, nLeN, hpe]
      exact hQ _ _ (.p (.inl rfl) (by simp) rfl)
  by_cases hc : chk L = 0
  · by_cases hn : cs.length = L.length
    · have hp : propE L cs = if 0 ≤ negR cs 0 then 1 else 0 := by unfold propE; simp [hc, hn]
      have hnc : (cs.length : Int) = L.length := by omega
      simp (disch := omega) [oLt, oLe, oLtN, oLeN, nLt, nLe, nLtN, nLeN, hs, hc, hn, hnc]
      rw [← hn]
      refine l25_ok (u := u) (v := v) hsm (.inl ⟨rfl, hp⟩) (.tot [2] (by simp [stP, hn])) ?_
      simp only [inBE, thenE, if_true]
      exact rest
    · have hp : propE L cs = 5 := by unfold propE; simp [hc, hn]
      have hnc : ¬ (cs.length : Int) = L.length := by omega
      simp (disch := omega) [oLt, oLe, oLtN, oLeN, nLt, nLe, nLtN, nLeN, hs, hc, hn, hnc]
      refine l25_ok (L := L) (u := u) (v := v) hsm (.inr ⟨show (5 : Int) ≠ 0 by decide, hp⟩) (.tot [2] (by simp [stP])) ?_
      simp only [inBE, thenE, if_true]
      exact rest
  · have hp : propE L cs = chk L := by unfold propE; simp [hc]
    simp (disch := omega) [oLt, oLe, oLtN, oLeN, nLt, nLe, nLtN, nLeN, hs, hc]
    refine l25_ok (L := L) (u := u) (v := v) hsm (.inr ⟨hc, hp⟩) (.tot [2] (by simp [stP])) ?_
    simp only [inBE, thenE, if_true]
    exact rest
end Go.Sx.Ch
set_option maxRecDepth 4000
namespace Go.Sx.Ch
open Go Go.Sx Go.Proofs

theorem fewT_some (L : List (List Int)) : ∃ q, fewT L = some q ∧ q.1.length = L.length := by
  cases h : fewT L with
  | none => exact absurd (tryF_none h L.length (Nat.zero_le _) (by omega)) (fewF_last L)
  | some q =>
    obtain ⟨k, -, -, h3, -⟩ := tryF_some h
    unfold fewF at h3
    obtain ⟨l, h4, rfl⟩ := Option.map_eq_some_iff.1 h3
    exact ⟨_, rfl, (colR_first.1 l h4).len⟩
theorem few_zero {L : List (List Int)} (h : L.length = 0) : fewL L = [] ∧ fewN L = 0 := by
  have : L = [] := List.length_eq_zero_iff.1 h
  subst this
  exact ⟨rfl, rfl⟩
theorem fewL_len (L : List (List Int)) : (fewL L).length = L.length := by
  obtain ⟨q, h1, h2⟩ := fewT_some L
  unfold fewL; rw [h1]; exact h2
/-- What both sides return, side by side. -/
theorem both (L : List (List Int)) : bestN L = (if bestE L = 0 then fewN L else 0) ∧
    ((bestL L = .il (ints (fewL L)) (fewL L).length false ∧ colRf L = .il (ints (fewL L)) (fewL L).length false) ∨ (bestL L = .v (.slice none 0 0) ∧ colRf L = .il [] 0 false) ∨ (bestL L = .v (.slice none 0 0) ∧ colRf L = .v (.slice none 0 0))) := by
  by_cases he : bestE L = 0
  · by_cases hP : 0 < L.length
    · have hO : bestO L = fewT L := by unfold bestO; rw [if_pos ⟨he, hP⟩]
      obtain ⟨q, h1, h2⟩ := fewT_some L
      have e1 : fewN L = q.2 := by unfold fewN; rw [h1]
      have e2 : fewL L = q.1 := by unfold fewL; rw [h1]
      refine ⟨by unfold bestN; rw [hO, h1, if_pos he, e1], .inl ⟨by unfold bestL; rw [hO, h1, e2], by unfold colRf; rw [if_pos he]⟩⟩
    · have hO : bestO L = none := by unfold bestO; rw [if_neg (by omega)]
      obtain ⟨h1, h2⟩ := few_zero (show L.length = 0 by omega)
      refine ⟨by unfold bestN; rw [hO, if_pos he, h2], .inr (.inl ⟨by unfold bestL; rw [hO], by unfold colRf; rw [if_pos he, h1]; rfl⟩)⟩
  · have hO : bestO L = none := by unfold bestO; rw [if_neg (fun h => he h.1)]
    exact ⟨by unfold bestN; rw [hO, if_neg he], .inr (.inr ⟨by unfold bestL; rw [hO], by unfold colRf; rw [if_neg he]⟩)⟩
set_option maxHeartbeats 4000000
theorem colours_runs (L : List (List Int)) (u : Bool) (cs : List Int) (v : Bool) :
    Runs Tryd.prog 4 0 [.agg [.il (lls L) L.length u], .il (ints cs) cs.length v] (hpF []) (vB true) 0 (hpF []) := by
  refine P4.rz (ss := [s15, s16, s24, s25, s26, s27, s28, s29, s30]) ⟨s15_ok, s16_ok, s24_ok, s25_ok, s26_ok, s27_ok, s28_ok, s29_ok, s30_ok, trivial⟩ (by simp) fun Q hQ => ?_
  delta p4
  by_cases hl : largeF L = true ∨ 60 < cs.length
  · skip
    refine XZ_step ?_ (fun N Q_ hN => ?_) ?_
    rotate_left
    · delta p4_r0; simp (disch := omega) [oLt, oLe, oLtN, oLeN, nLt, nLe, nLtN, nLeN]
      exact hN
    delta p4_r1 p4_r2
    by_cases hl1 : largeF L = true
    · simp (disch := omega) [oLt, oLe, oLtN, oLeN, nLt, nLe, nLtN, nLeN, hl1]
      exact hQ _ _ (.p (.inl rfl) (by simp) rfl)
    · have hl2 : largeF L = false := by simpa using hl1
      have h60 : (60 : Int) < cs.length := by rcases hl with h | h
                                              · exact absurd h hl1
                                              · omega
      simp (disch := omega) [oLt, oLe, oLtN, oLeN, nLt, nLe, nLtN, nLeN, hl2, h60]
      exact hQ _ _ (.p (.inl rfl) (by simp) rfl)
  · have hl0 : largeF L = false := by
      cases h : largeF L with
      | true => exact absurd (.inl h) hl
      | false => rfl
    have hs := large_sm hl0
    have h60 : ¬ (60 : Int) < cs.length := by
      have : ¬ 60 < cs.length := fun h => hl (.inr h)
      omega
    have hsm : small cs = true := by simp only [small, decide_eq_true_eq]; omega
    obtain ⟨hN0, hL0⟩ := both L
    have hP : propV L cs = .tup [vB (propB L cs), vI (propE L cs)] := rfl
    have hfl := fewL_len L
    have hsf : small (fewL L) = true := by
      simp only [small, decide_eq_true_eq, hfl]
      simp only [smM, Bool.and_eq_true, decide_eq_true_eq] at hs; omega
    have hsn : small ([] : List Int) = true := rfl
    have q27 : (if bestE L = 0 then fewN L else 0) = bestN L := hN0.symm
    generalize hpb : propB L cs = pb at *
    generalize hpe : propE L cs = pe at *
    generalize hbe : bestE L = be at *
    generalize hbn : bestN L = bn at *
    generalize hF : fewL L = F at *
    refine XZ_step ?_ (fun N Q_ hN => ?_) ?_
    rotate_left
    · delta p4_r0; simp (disch := omega) [oLt, oLe, oLtN, oLeN, nLt, nLe, nLtN, nLeN]
      exact hN
    refine XZ_step ?_ (fun N Q_ hN => ?_) ?_
    rotate_left
    · delta p4_r1 p4_r2; simp (disch := omega) [oLt, oLe, oLtN, oLeN, nLt, nLe, nLtN, nLeN, hl0, h60]
      exact hN
    refine XZ_step ?_ (fun N Q_ hN => ?_) ?_
    rotate_left
    · delta p4_r3; simp (disch := omega) [oLt, oLe, oLtN, oLeN, nLt, nLe, nLtN, nLeN]
      exact hN
    refine XZ_step ?_ (fun N Q_ hN => ?_) ?_
    rotate_left
    · delta p4_r4; simp (disch := omega) [oLt, oLe, oLtN, oLeN, nLt, nLe, nLtN, nLeN, hs, hsm, hP]
      exact hN
    refine XZ_step ?_ (fun N Q_ hN => ?_) ?_
    rotate_left
    · delta p4_r5; simp (disch := omega) [oLt, oLe, oLtN, oLeN, nLt, nLe, nLtN, nLeN, hs, hsm, hP]
      exact hN
    refine XZ_step ?_ (fun N Q_ hN => ?_) ?_
    rotate_left
    · delta p4_r6; simp (disch := omega) [oLt, oLe, oLtN, oLeN, nLt, nLe, nLtN, nLeN, hs, hbe, hbn]
      exact hN
    refine XZ_step ?_ (fun N Q_ hN => ?_) ?_
    rotate_left
    · delta p4_r7; simp (disch := omega) [oLt, oLe, oLtN, oLeN, nLt, nLe, nLtN, nLeN, hs, hbe, q27]
      exact hN
    rcases hL0 with ⟨h1, h2⟩ | ⟨h1, h2⟩ | ⟨h1, h2⟩
    · skip
      refine XZ_step ?_ (fun N Q_ hN => ?_) ?_
      rotate_left
      · delta p4_r8; simp (disch := omega) [oLt, oLe, oLtN, oLeN, nLt, nLe, nLtN, nLeN, hs, hbe, h1]
        exact hN
      refine XZ_step ?_ (fun N Q_ hN => ?_) ?_
      rotate_left
      · delta p4_r9; simp (disch := omega) [oLt, oLe, oLtN, oLeN, nLt, nLe, nLtN, nLeN, hs, hbe, h2]
        exact hN
      refine XZ_regG ?_
      delta p4_r10
      refine zOps_cut 8 ?_ (fun K_ hK => ?_) ?_
      rotate_left
      · simp only [List.take_succ_cons, List.take_zero]
        simp (disch := omega) [oLt, oLe, oLtN, oLeN, nLt, nLe, nLtN, nLeN]
        exact hK
      simp only [List.drop_succ_cons, List.drop_zero]
      refine zOps_cut 10 ?_ (fun K_ hK => ?_) ?_
      rotate_left
      · simp only [List.take_succ_cons, List.take_zero]
        simp (disch := omega) [oLt, oLe, oLtN, oLeN, nLt, nLe, nLtN, nLeN]
        exact hK
      simp only [List.drop_succ_cons, List.drop_zero]
      refine zOps_cut 10 ?_ (fun K_ hK => ?_) ?_
      rotate_left
      · simp only [List.take_succ_cons, List.take_zero]
        simp (disch := omega) [oLt, oLe, oLtN, oLeN, nLt, nLe, nLtN, nLeN, hsf, hsn]
        exact hK
      simp only [List.drop_succ_cons, List.drop_zero]
      simp (disch := omega) [oLt, oLe, oLtN, oLeN, nLt, nLe, nLtN, nLeN]
      exact hQ _ _ (.p (.inl rfl) (by simp) rfl)
    · skip
      refine XZ_step ?_ (fun N Q_ hN => ?_) ?_
      rotate_left
      · delta p4_r8; simp (disch := omega) [oLt, oLe, oLtN, oLeN, nLt, nLe, nLtN, nLeN, hs, hbe, h1]
        exact hN
      refine XZ_step ?_ (fun N Q_ hN => ?_) ?_
      rotate_left
      · delta p4_r9; simp (disch := omega) [oLt, oLe, oLtN, oLeN, nLt, nLe, nLtN, nLeN, hs, hbe, h2]
        exact hN
      refine XZ_regG ?_
      delta p4_r10
      refine zOps_cut 8 ?_ (fun K_ hK => ?_) ?_
      rotate_left
      · simp only [List.take_succ_cons, List.take_zero]
        simp (disch := omega) [oLt, oLe, oLtN, oLeN, nLt, nLe, nLtN, nLeN]
        exact hK
      simp only [List.drop_succ_cons, List.drop_zero]
      refine zOps_cut 10 ?_ (fun K_ hK => ?_) ?_
      rotate_left
      · simp only [List.take_succ_cons, List.take_zero]
        simp (disch := omega) [oLt, oLe, oLtN, oLeN, nLt, nLe, nLtN, nLeN]
        exact hK
      simp only [List.drop_succ_cons, List.drop_zero]
      refine zOps_cut 10 ?_ (fun K_ hK => ?_) ?_
      rotate_left
      · simp only [List.take_succ_cons, List.take_zero]
        simp (disch := omega) [oLt, oLe, oLtN, oLeN, nLt, nLe, nLtN, nLeN, hsf, hsn]
        exact hK
      simp only [List.drop_succ_cons, List.drop_zero]
      simp (disch := omega) [oLt, oLe, oLtN, oLeN, nLt, nLe, nLtN, nLeN]
      exact hQ _ _ (.p (.inl rfl) (by simp) rfl)
    · skip
      refine XZ_step ?_ (fun N Q_ hN => ?_) ?_
      rotate_left
      · delta p4_r8; simp (disch := omega) [oLt, oLe, oLtN, oLeN, nLt, nLe, nLtN, nLeN, hs, hbe, h1]
        exact hN
      refine XZ_step ?_ (fun N Q_ hN => ?_) ?_
      rotate_left
      · delta p4_r9; simp (disch := omega) [oLt, oLe, oLtN, oLeN, nLt, nLe, nLtN, nLeN, hs, hbe, h2]
        exact hN
      refine XZ_regG ?_
      delta p4_r10
      refine zOps_cut 8 ?_ (fun K_ hK => ?_) ?_
      rotate_left
      · simp only [List.take_succ_cons, List.take_zero]
        simp (disch := omega) [oLt, oLe, oLtN, oLeN, nLt, nLe, nLtN, nLeN]
        exact hK
      simp only [List.drop_succ_cons, List.drop_zero]
      refine zOps_cut 10 ?_ (fun K_ hK => ?_) ?_
      rotate_left
      · simp only [List.take_succ_cons, List.take_zero]
        simp (disch := omega) [oLt, oLe, oLtN, oLeN, nLt, nLe, nLtN, nLeN]
        exact hK
      simp only [List.drop_succ_cons, List.drop_zero]
      refine zOps_cut 10 ?_ (fun K_ hK => ?_) ?_
      rotate_left
      · simp only [List.take_succ_cons, List.take_zero]
        simp (disch := omega) [oLt, oLe, oLtN, oLeN, nLt, nLe, nLtN, nLeN, hsf, hsn]
        exact hK
      simp only [List.drop_succ_cons, List.drop_zero]
      simp (disch := omega) [oLt, oLe, oLtN, oLeN, nLt, nLe, nLtN, nLeN]
      exact hQ _ _ (.p (.inl rfl) (by simp) rfl)
end Go.Sx.Ch
