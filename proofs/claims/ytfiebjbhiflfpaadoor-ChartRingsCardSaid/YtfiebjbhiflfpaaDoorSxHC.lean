/- What functions of the chart layer's document return: fewest, Fewest, Colour, Proper. No conditions. -/
import Derived.Test.YtfiebjbhiflfpaaDoorSxJHAtoHB
import Derived.Test.YtfiebjbhiflfpaaDoorSxJCPtoCR
set_option linter.unusedVariables false
set_option linter.unusedSimpArgs false
set_option maxRecDepth 4000
namespace Go.Sx.Ch
open Go Go.Sx Go.Proofs

def fewL (L : List (List Int)) : List Int := match fewT L with
  | some q => q.1
  | none => []
def fewN (L : List (List Int)) : Nat := match fewT L with
  | some q => q.2
  | none => 0
set_option maxHeartbeats 4000000
def s78 : Sp := spT 78 [.mp] fun (L : List (List Int)) => res (smM L && inM L && decide (L.length ≤ 16)) (.tup [.il (ints (fewL L)) (fewL L).length false, vI (fewN L)])
@[simp] theorem s78_g : s78.g = 78 := rfl
@[simp] theorem s78_f : s78.f = (spT 78 [.mp] fun (L : List (List Int)) => res (smM L && inM L && decide (L.length ≤ 16)) (.tup [.il (ints (fewL L)) (fewL L).length false, vI (fewN L)])).f := rfl
theorem s78_ok : s78.ok Tryd.prog := by
  apply spT_ok
  simp only [OkT, Ty.all, List.nil_append, List.cons_append]
  intro (L : List (List Int)) u
  apply okT_res; intro hg
  simp only [Bool.and_eq_true, decide_eq_true_eq] at hg
  obtain ⟨⟨hs, hin⟩, h16⟩ := hg
  refine P78.rz (ss := [s102n L.length]) ⟨s102n_ok _, trivial⟩ (by simp) fun Q hQ => ?_
  delta p78 p78_r0 p78_r1
  simp (disch := omega) [oLt, oLe, oLtN, oLeN, nLt, nLe, nLtN, nLeN]
  refine XZ_for (fun m : Nat => ⟨[(1, .ptr 0 0), (4, vI m)], [(0, .cells [.il (lls L) L.length u])], 1⟩) (fun m => L.length + 1 - m) (fun m => m ≤ L.length ∧ tryF (fewF L) (L.length + 1 - m) m = fewT L) 0 ⟨Nat.zero_le _, rfl⟩ (.tot [1] (by simp)) ?_
  rintro m ⟨hm2, hinv⟩ N Q' hN hE2
  have hg : g102 L.length L [] m = true := by
    simp only [g102, Bool.and_eq_true, decide_eq_true_eq, within_iff, List.length_nil]
    exact ⟨⟨⟨⟨hs, hin⟩, h16⟩, by omega⟩, by omega, by omega⟩
  have hst : L.length + 1 - m = (L.length - m) + 1 := by omega
  rw [hst] at hinv
  simp only [tryF] at hinv
  cases hcm : colR (JR L) m L.length [] with
  | some l =>
    have hfm : fewF L m = some (l, m) := by unfold fewF; rw [hcm]; rfl
    rw [hfm] at hinv
    have hr1 : fewL L = l := by unfold fewL; rw [← hinv]
    have hr2 : fewN L = m := by unfold fewN; rw [← hinv]
    rw [hr1, hr2] at hQ
    delta p78_l0 p78_r2 p78_r3 p78_r4 p78_r5
    simp (disch := omega) [oLt, oLe, oLtN, oLeN, nLt, nLe, nLtN, nLeN, hg, hcm, colW]
    exact hE2 _ _ _ .refl (hQ _ _ (.p (.inl rfl) (by simp) (by simp)))
  | none =>
    have hfm : fewF L m = none := by unfold fewF; rw [hcm]; rfl
    rw [hfm] at hinv
    have hlt : m < L.length := by
      rcases Nat.lt_or_ge m L.length with h | h
      · exact h
      · have : m = L.length := by omega
        subst this
        exact absurd hfm (fewF_last L)
    delta p78_l0 p78_r2 p78_r3 p78_r4 p78_r5
    simp (disch := omega) [oLt, oLe, oLtN, oLeN, nLt, nLe, nLtN, nLeN, hg, hcm, colW]
    exact hN _ (m + 1) (by omega) ⟨by omega, by rw [← hinv, show L.length + 1 - (m + 1) = L.length - m by omega]⟩ (.tot [1] (by simp))
theorem chk_in {L : List (List Int)} (hc : chk L = 0) : inM L = true := List.all_eq_true.2 fun l hl => List.all_eq_true.2 fun e he => by
  have := (chk_cov hc).rng e (List.mem_flatten.2 ⟨l, hl, he⟩)
  have := (chk_cov hc).le
  rw [within_iff]; omega
def s27 : Sp := spT 27 [.mp] fun (L : List (List Int)) => res (smM L) (.tup [vI (if bestE L = 0 then fewN L else 0 : Nat), vI (bestE L)])
@[simp] theorem s27_g : s27.g = 27 := rfl
@[simp] theorem s27_f : s27.f = (spT 27 [.mp] fun (L : List (List Int)) => res (smM L) (.tup [vI (if bestE L = 0 then fewN L else 0 : Nat), vI (bestE L)])).f := rfl
theorem s27_ok : s27.ok Tryd.prog := by
  apply spT_ok
  simp only [OkT, Ty.all, List.nil_append, List.cons_append]
  intro (L : List (List Int)) u
  apply okT_res; intro hs
  refine P27.rz (ss := [s45, s77, s78]) ⟨s45_ok, s77_ok, s78_ok, trivial⟩ (by simp) fun Q hQ => ?_
  delta p27 p27_r0 p27_r1 p27_r2 p27_r3 p27_r4 p27_r5 p27_r6 p27_r7
  by_cases hc : chk L = 0
  · obtain ⟨h34, h16, hev, hl, -⟩ := tab_pts hc
    have hin := chk_in hc
    cases hlp : loopR L with
    | true =>
      have hE : bestE L = 12 := by unfold bestE; simp [hc, hlp]
      rw [hE, if_neg (by decide)] at hQ
      simp (disch := omega) [oLt, oLe, oLtN, oLeN, nLt, nLe, nLtN, nLeN, hs, hc, hin, hlp]
      exact hQ _ _ (.p (.inl rfl) (by simp) rfl)
    | false =>
      have hE : bestE L = 0 := by unfold bestE; simp [hc, hlp]
      rw [hE, if_pos rfl] at hQ
      generalize hF : fewL L = F at *
      generalize hNn : fewN L = n at *
      simp (disch := omega) [oLt, oLe, oLtN, oLeN, nLt, nLe, nLtN, nLeN, hs, hc, hin, hlp, hl, hF, hNn]
      exact hQ _ _ (.p (.inl rfl) (by simp) rfl)
  · have hE : bestE L = chk L := by unfold bestE; simp [hc]
    rw [hE, if_neg hc] at hQ
    generalize hce : chk L = c at *
    simp (disch := omega) [oLt, oLe, oLtN, oLeN, nLt, nLe, nLtN, nLeN, hs, hc, hce]
    exact hQ _ _ (.p (.inl rfl) (by simp) rfl)
def colRf (L : List (List Int)) : AV := if bestE L = 0 then .il (ints (fewL L)) (fewL L).length false else .v (.slice none 0 0)
def s29 : Sp := spT 29 [.mp] fun (L : List (List Int)) => res (smM L) (.tup [colRf L, vI (bestE L)])
@[simp] theorem s29_g : s29.g = 29 := rfl
@[simp] theorem s29_f : s29.f = (spT 29 [.mp] fun (L : List (List Int)) => res (smM L) (.tup [colRf L, vI (bestE L)])).f := rfl
theorem s29_ok : s29.ok Tryd.prog := by
  apply spT_ok
  simp only [OkT, Ty.all, List.nil_append, List.cons_append]
  intro (L : List (List Int)) u
  apply okT_res; intro hs
  refine P29.rz (ss := [s45, s77, s78]) ⟨s45_ok, s77_ok, s78_ok, trivial⟩ (by simp) fun Q hQ => ?_
  delta p29 p29_r0 p29_r1 p29_r2 p29_r3 p29_r4 p29_r5 p29_r6 p29_r7
  by_cases hc : chk L = 0
  · obtain ⟨h34, h16, hev, hl, -⟩ := tab_pts hc
    have hin := chk_in hc
    cases hlp : loopR L with
    | true =>
      have hE : bestE L = 12 := by unfold bestE; simp [hc, hlp]
      have hr : colRf L = .v (.slice none 0 0) := by unfold colRf; rw [hE, if_neg (by decide)]
      rw [hE, hr] at hQ
      simp (disch := omega) [oLt, oLe, oLtN, oLeN, nLt, nLe, nLtN, nLeN, hs, hc, hin, hlp]
      exact hQ _ _ (.p (.inl rfl) (by simp) rfl)
    | false =>
      have hE : bestE L = 0 := by unfold bestE; simp [hc, hlp]
      have hr : colRf L = .il (ints (fewL L)) (fewL L).length false := by unfold colRf; rw [hE, if_pos rfl]
      rw [hE, hr] at hQ
      generalize hF : fewL L = F at *
      generalize hNn : fewN L = n at *
      simp (disch := omega) [oLt, oLe, oLtN, oLeN, nLt, nLe, nLtN, nLeN, hs, hc, hin, hlp, hl, hF, hNn]
      exact hQ _ _ (.p (.inl rfl) (by simp) (by simp))
  · have hE : bestE L = chk L := by unfold bestE; simp [hc]
    have hr : colRf L = .v (.slice none 0 0) := by unfold colRf; rw [hE, if_neg hc]
    rw [hE, hr] at hQ
    generalize hce : chk L = c at *
    simp (disch := omega) [oLt, oLe, oLtN, oLeN, nLt, nLe, nLtN, nLeN, hs, hc, hce]
    exact hQ _ _ (.p (.inl rfl) (by simp) rfl)
end Go.Sx.Ch
