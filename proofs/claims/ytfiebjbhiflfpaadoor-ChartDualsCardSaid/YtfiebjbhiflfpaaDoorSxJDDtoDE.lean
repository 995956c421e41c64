/- What functions of the chart layer's document return: Without: a list without a line (printed by mk22.py). No conditions. -/
import Derived.Test.YtfiebjbhiflfpaaDoorSxJDBtoDC
import Derived.Test.YtfiebjbhiflfpaaDoorSxCT
import Derived.Test.YtfiebjbhiflfpaaDoorSxJCXtoDA
set_option linter.unusedVariables false
set_option linter.unusedSimpArgs false
set_option maxRecDepth 4000
namespace Go.Sx.Ch
open Go Go.Sx Go.Proofs

def st22 (L : List (List Int)) (u : Bool) (line : Int) (i : Nat) (out : List (List Int)) : ST :=
  ⟨[(1, vI line), (2, .ptr 0 0), (4, .ptr 1 0), (7, fA 2 out), (8, vI i)], (0, .cells [.il (lls L) L.length u]) :: (1, .cells [.v (.slice none 0 0)]) :: fH 2 out, 2 + fN out⟩
def in22 (L : List (List Int)) (u : Bool) (line : Int) (i : Nat) (out : List (List Int)) (k : Nat) (acc : List Int) : ST :=
  ⟨[(1, vI line), (2, .ptr 0 0), (4, .ptr 1 0), (7, fA 2 out), (8, vI i), (9, gA (2 + fN out) acc), (10, vI k)], (0, .cells [.il (lls L) L.length u]) :: (1, .cells [.v (.slice none 0 0)]) :: (fH 2 out ++ gH (2 + fN out) acc), 2 + fN out + gN acc⟩
set_option maxHeartbeats 1000000
theorem in22_ok {ss : List Sp} {L : List (List Int)} {u : Bool} {line : Int} {i : Nat} {out : List (List Int)} {l : List Int} {s0 : ST} {Q : Exit → ST → Prop} (hiL : i < L.length) (g2 : L[i]? = some l) (hlen : l.length ≤ 10000) (hline : 0 ≤ line ∧ line ≤ 8) (hl : ∀ e ∈ l, 0 ≤ e ∧ e < 16)
    (hs0 : ChgT 0 s0 (in22 L u line i out 0 [])) (hQ : Q (.exit 2) (in22 L u line i out l.length (flt line l))) : XZ (rZ (spc ss)) 0 (.loop p22_l0) s0 Q := by
  have g3 := (List.getElem?_eq_some_iff.1 g2).2
  have hiC : (i : Int) < L.length := by omega
  refine XZ_for (fun k : Nat => in22 L u line i out k (flt line (l.take k))) (fun k => l.length - k) (fun k => k ≤ l.length) 0 (by simp) (by simpa [flt] using hs0) ?_
  intro k hk N Q' hN hE
  rcases Nat.lt_or_ge k l.length with h | h
  · have hkc : (k : Int) < l.length := by omega
    obtain ⟨e, r, -, e2, e3, -, e5⟩ := drop_split h
    obtain ⟨b0, b1⟩ := hl e e5
    have hnext : flt line (l.take (k + 1)) = if e < 2 * line then flt line (l.take k) ++ [e] else if 2 * line + 1 < e then flt line (l.take k) ++ [e - 2] else flt line (l.take k) := by rw [List.take_succ_eq_append_getElem h, e3]; exact flt_snoc line (l.take k) e
    have hal : (flt line (l.take k)).length ≤ 10000 := Nat.le_trans (flt_len _ _) (by simp; omega)
    have fin : ∀ s', ChgT 0 s' (in22 L u line i out ((k + 1 : Nat)) (if e < 2 * line then flt line (l.take k) ++ [e] else if 2 * line + 1 < e then flt line (l.take k) ++ [e - 2] else flt line (l.take k))) → N s' := fun s' hh => hN s' (k + 1) (by omega) h (by rw [hnext]; exact hh)
    clear hN hnext
    generalize flt line (l.take k) = acc at *
    by_cases hlo : e < 2 * line
    · have hlo2 : e / 2 < line := by omega
      rw [if_pos hlo] at fin
      rcases out with _ | ⟨o, orr⟩
      · rcases acc with _ | ⟨a, ar⟩
        · simp only [in22, fA, fH, fN, gA, gH, gN, List.nil_append] at fin ⊢
          delta p22_l0 p22_r11 p22_r12 p22_r13 p22_r14 p22_r15 p22_r16 p22_r17
          simp (disch := omega) [oLt, oLe, oLtN, oLeN, nLt, nLe, nLtN, nLeN, hiL, hiC, g2, g3, hkc, h, e2, e3, hlo2]
          exact fin _ (.tot [2, 4, 9] (by simp))
        · simp only [List.length_cons] at hal
          simp only [in22, fA, fH, fN, gA, gH, gN, List.cons_append] at fin ⊢
          delta p22_l0 p22_r11 p22_r12 p22_r13 p22_r14 p22_r15 p22_r16 p22_r17
          simp (disch := omega) [oLt, oLe, oLtN, oLeN, nLt, nLe, nLtN, nLeN, hiL, hiC, g2, g3, hkc, h, e2, e3, hlo2]
          exact fin _ (.tot [2, 4, 9] (by simp))
      · rcases acc with _ | ⟨a, ar⟩
        · simp only [in22, fA, fH, fN, gA, gH, gN, List.nil_append] at fin ⊢
          delta p22_l0 p22_r11 p22_r12 p22_r13 p22_r14 p22_r15 p22_r16 p22_r17
          simp (disch := omega) [oLt, oLe, oLtN, oLeN, nLt, nLe, nLtN, nLeN, hiL, hiC, g2, g3, hkc, h, e2, e3, hlo2]
          exact fin _ (.tot [2, 4, 7, 9] (by simp))
        · simp only [List.length_cons] at hal
          simp only [in22, fA, fH, fN, gA, gH, gN, List.cons_append] at fin ⊢
          delta p22_l0 p22_r11 p22_r12 p22_r13 p22_r14 p22_r15 p22_r16 p22_r17
          simp (disch := omega) [oLt, oLe, oLtN, oLeN, nLt, nLe, nLtN, nLeN, hiL, hiC, g2, g3, hkc, h, e2, e3, hlo2]
          exact fin _ (.tot [2, 4, 7, 9] (by simp))
    · have hlo2 : ¬ e / 2 < line := by omega
      rw [if_neg hlo] at fin
      by_cases hhi : 2 * line + 1 < e
      · have hhi2 : line < e / 2 := by omega
        rw [if_pos hhi] at fin
        rcases out with _ | ⟨o, orr⟩
        · rcases acc with _ | ⟨a, ar⟩
          · simp only [in22, fA, fH, fN, gA, gH, gN, List.nil_append] at fin ⊢
            delta p22_l0 p22_r11 p22_r12 p22_r13 p22_r14 p22_r15 p22_r16 p22_r17
            simp (disch := omega) [oLt, oLe, oLtN, oLeN, nLt, nLe, nLtN, nLeN, hiL, hiC, g2, g3, hkc, h, e2, e3, hlo2, hhi2]
            exact fin _ (.tot [2, 4, 9] (by simp))
          · simp only [List.length_cons] at hal
            simp only [in22, fA, fH, fN, gA, gH, gN, List.cons_append] at fin ⊢
            delta p22_l0 p22_r11 p22_r12 p22_r13 p22_r14 p22_r15 p22_r16 p22_r17
            simp (disch := omega) [oLt, oLe, oLtN, oLeN, nLt, nLe, nLtN, nLeN, hiL, hiC, g2, g3, hkc, h, e2, e3, hlo2, hhi2]
            exact fin _ (.tot [2, 4, 9] (by simp))
        · rcases acc with _ | ⟨a, ar⟩
          · simp only [in22, fA, fH, fN, gA, gH, gN, List.nil_append] at fin ⊢
            delta p22_l0 p22_r11 p22_r12 p22_r13 p22_r14 p22_r15 p22_r16 p22_r17
            simp (disch := omega) [oLt, oLe, oLtN, oLeN, nLt, nLe, nLtN, nLeN, hiL, hiC, g2, g3, hkc, h, e2, e3, hlo2, hhi2]
            exact fin _ (.tot [2, 4, 7, 9] (by simp))
          · simp only [List.length_cons] at hal
            simp only [in22, fA, fH, fN, gA, gH, gN, List.cons_append] at fin ⊢
            delta p22_l0 p22_r11 p22_r12 p22_r13 p22_r14 p22_r15 p22_r16 p22_r17
            simp (disch := omega) [oLt, oLe, oLtN, oLeN, nLt, nLe, nLtN, nLeN, hiL, hiC, g2, g3, hkc, h, e2, e3, hlo2, hhi2]
            exact fin _ (.tot [2, 4, 7, 9] (by simp))
      · have hhi2 : ¬ line < e / 2 := by omega
        rw [if_neg hhi] at fin
        rcases out with _ | ⟨o, orr⟩
        · rcases acc with _ | ⟨a, ar⟩
          · simp only [in22, fA, fH, fN, gA, gH, gN] at fin ⊢
            delta p22_l0 p22_r11 p22_r12 p22_r13 p22_r14 p22_r15 p22_r16 p22_r17
            simp (disch := omega) [oLt, oLe, oLtN, oLeN, nLt, nLe, nLtN, nLeN, hiL, hiC, g2, g3, hkc, h, e2, e3, hlo2, hhi2]
            exact fin _ (.tot [2, 4] (by simp))
          · simp only [in22, fA, fH, fN, gA, gH, gN] at fin ⊢
            delta p22_l0 p22_r11 p22_r12 p22_r13 p22_r14 p22_r15 p22_r16 p22_r17
            simp (disch := omega) [oLt, oLe, oLtN, oLeN, nLt, nLe, nLtN, nLeN, hiL, hiC, g2, g3, hkc, h, e2, e3, hlo2, hhi2]
            exact fin _ (.tot [2, 4, 9] (by simp))
        · rcases acc with _ | ⟨a, ar⟩
          · simp only [in22, fA, fH, fN, gA, gH, gN] at fin ⊢
            delta p22_l0 p22_r11 p22_r12 p22_r13 p22_r14 p22_r15 p22_r16 p22_r17
            simp (disch := omega) [oLt, oLe, oLtN, oLeN, nLt, nLe, nLtN, nLeN, hiL, hiC, g2, g3, hkc, h, e2, e3, hlo2, hhi2]
            exact fin _ (.tot [2, 4, 7] (by simp))
          · simp only [in22, fA, fH, fN, gA, gH, gN] at fin ⊢
            delta p22_l0 p22_r11 p22_r12 p22_r13 p22_r14 p22_r15 p22_r16 p22_r17
            simp (disch := omega) [oLt, oLe, oLtN, oLeN, nLt, nLe, nLtN, nLeN, hiL, hiC, g2, g3, hkc, h, e2, e3, hlo2, hhi2]
            exact fin _ (.tot [2, 4, 7, 9] (by simp))
  · obtain rfl : k = l.length := by omega
    have hkc : ¬ (l.length : Int) < l.length := by omega
    rw [List.take_length]
    clear hN
    generalize flt line l = acc at *
    rcases out with _ | ⟨o, orr⟩
    · rcases acc with _ | ⟨a, ar⟩
      · simp only [in22, fA, fH, fN, gA, gH, gN] at hQ ⊢
        delta p22_l0 p22_r11 p22_r12 p22_r13 p22_r14 p22_r15 p22_r16 p22_r17
        simp (disch := omega) [oLt, oLe, oLtN, oLeN, nLt, nLe, nLtN, nLeN, hiL, hiC, g2, g3, hkc]
        exact hE _ _ _ (.tot [2, 4] (by simp)) hQ
      · simp only [in22, fA, fH, fN, gA, gH, gN] at hQ ⊢
        delta p22_l0 p22_r11 p22_r12 p22_r13 p22_r14 p22_r15 p22_r16 p22_r17
        simp (disch := omega) [oLt, oLe, oLtN, oLeN, nLt, nLe, nLtN, nLeN, hiL, hiC, g2, g3, hkc]
        exact hE _ _ _ (.tot [2, 4, 9] (by simp)) hQ
    · rcases acc with _ | ⟨a, ar⟩
      · simp only [in22, fA, fH, fN, gA, gH, gN] at hQ ⊢
        delta p22_l0 p22_r11 p22_r12 p22_r13 p22_r14 p22_r15 p22_r16 p22_r17
        simp (disch := omega) [oLt, oLe, oLtN, oLeN, nLt, nLe, nLtN, nLeN, hiL, hiC, g2, g3, hkc]
        exact hE _ _ _ (.tot [2, 4, 7] (by simp)) hQ
      · simp only [in22, fA, fH, fN, gA, gH, gN] at hQ ⊢
        delta p22_l0 p22_r11 p22_r12 p22_r13 p22_r14 p22_r15 p22_r16 p22_r17
        simp (disch := omega) [oLt, oLe, oLtN, oLeN, nLt, nLe, nLtN, nLeN, hiL, hiC, g2, g3, hkc]
        exact hE _ _ _ (.tot [2, 4, 7, 9] (by simp)) hQ
end Go.Sx.Ch
set_option maxRecDepth 4000
namespace Go.Sx.Ch
open Go Go.Sx Go.Proofs

def witR (n : Int) (L : List (List Int)) : AV := .tup [if witE n L = 0 then mpA (tidyF (witL n L) (total L - 2)) else nilA, vI (witE n L)]
def g22 (n : Int) (L : List (List Int)) : Bool := smM L && (decide (¬ witE n L = 0) || g64 (witL n L) ((total L : Int) - 2))
def st22w (L : List (List Int)) (u : Bool) (line : Int) (i : Nat) (out : List (List Int)) : ST :=
  ⟨[(1, vI line), (2, .ptr 0 0), (4, .ptr 1 0), (7, .ref 2 0 (out.length + 1) 1 none), (8, vI i)], [(0, .cells [.il (lls L) L.length u]), (1, .cells [.v (.slice none 0 0)]), (2, .cells (lls out ++ [.v (.slice none 0 0)]))], 3⟩
theorem st22w_weak {L u line i out} : ChgT 0 (st22w L u line i out) (st22 L u line i (out ++ [[]])) := by
  have e : st22 L u line i (out ++ [[]]) = ⟨[(1, vI line), (2, .ptr 0 0), (4, .ptr 1 0), (7, .ref 2 0 (out.length + 1) 1 none), (8, vI i)], [(0, .cells [.il (lls L) L.length u]), (1, .cells [.v (.slice none 0 0)]), (2, .cells (lls (out ++ [[]])))], 3⟩ := by
    rcases out with _ | ⟨o, orr⟩
    · rfl
    · simp [st22, fA, fH, fN]
  rw [e]
  exact .weak (s' := ⟨[(1, vI line), (2, .ptr 0 0), (4, .ptr 1 0), (7, .ref 2 0 (out.length + 1) 1 none), (8, vI i)], [(0, .cells [.il (lls L) L.length u]), (1, .cells [.v (.slice none 0 0)]), (2, .cells (lls (out ++ [[]])))], 3⟩) (show envWk _ _ from ⟨rfl, .refl, rfl, .refl, rfl, .refl, rfl, .refl, rfl, .refl, trivial⟩) (show heapWk _ _ from ⟨rfl, .refl, rfl, .refl, rfl, wk_last out, trivial⟩) rfl .refl
set_option maxHeartbeats 1000000
def s22 : Sp := spT 22 [.mp, .i] fun (L : List (List Int)) (n : Int) => res (g22 n L) (witR n L)
@[simp] theorem s22_g : s22.g = 22 := rfl
@[simp] theorem s22_f : s22.f = (spT 22 [.mp, .i] fun (L : List (List Int)) (n : Int) => res (g22 n L) (witR n L)).f := rfl
theorem s22_ok : s22.ok Tryd.prog := by
  apply spT_ok
  simp only [OkT, Ty.all, List.nil_append, List.cons_append]
  intro (L : List (List Int)) u (n : Int)
  apply okT_res; intro hg
  refine P22.rz (ss := [s45, s64, s66, s72]) ⟨s45_ok, s64_ok, s66_ok, s72_ok, trivial⟩ (by simp) fun Q hQ => ?_
  delta p22
  simp only [g22, Bool.and_eq_true, Bool.or_eq_true, decide_eq_true_eq] at hg
  obtain ⟨hs, hg⟩ := hg
  delta p22_r0 p22_r1 p22_r2 p22_r3 p22_r4 p22_r5 p22_r6 p22_r7
  by_cases hc : chk L = 0
  case neg =>
    have hE' : witE n L = chk L := by unfold witE; rw [if_neg hc]
    have hr : witR n L = .tup [.agg [.v (.slice none 0 0)], vI (chk L)] := by unfold witR; rw [hE', if_neg hc]; rfl
    obtain ⟨c, hcc⟩ : ∃ c, chk L = c := ⟨_, rfl⟩
    rw [hr, hcc] at hQ
    rw [hcc] at hc
    simp (disch := omega) [oLt, oLe, oLtN, oLeN, nLt, nLe, nLtN, nLeN, hs, hcc, hc]
    exact hQ _ _ (.p (.inl rfl) (by simp [Eff.exec]) (by simp))
  case pos =>
    obtain ⟨h16, hsc, hev⟩ := chk_zero hc
    have hdiv : ((total L : Nat) : Int) / 2 = ((total L / 2 : Nat) : Int) := by omega
    by_cases hin : inLine n L = true
    case neg =>
      have hE' : witE n L = 2 := by unfold witE; rw [if_pos hc, if_neg hin]
      have hr : witR n L = .tup [.agg [.v (.slice none 0 0)], vI 2] := by unfold witR; rw [hE']; rfl
      rw [hr] at hQ
      have hw : within 0 n (((total L : Nat) : Int) / 2 - 1) = false := by
        cases hw : within 0 n (((total L : Nat) : Int) / 2 - 1) with
        | false => rfl
        | true =>
          have := within_iff.1 hw
          exact absurd (by simp only [inLine, Bool.and_eq_true, decide_eq_true_eq]; omega) hin
      simp (disch := omega) [oLt, oLe, oLtN, oLeN, nLt, nLe, nLtN, nLeN, hs, hc, hw]
      exact hQ _ _ (.p (.inl rfl) (by simp [Eff.exec]) (by simp))
    case pos =>
      have hE' : witE n L = 0 := by unfold witE; rw [if_pos hc, if_pos hin]
      have hr : witR n L = .tup [.agg [.il (lls (tidyF (witL n L) (total L - 2))) (tidyF (witL n L) (total L - 2)).length false], vI 0] := by unfold witR; rw [hE']; rfl
      rw [hr] at hQ
      have h64 := hg.resolve_left (fun h => h hE')
      simp only [inLine, Bool.and_eq_true, decide_eq_true_eq] at hin
      obtain ⟨hlo, hhi⟩ := hin
      have hw : within 0 n (((total L : Nat) : Int) / 2 - 1) = true := within_iff.2 ⟨by omega, by omega⟩
      have hlen : L.length ≤ 10000 := by simp only [smM, Bool.and_eq_true, decide_eq_true_eq] at hs; exact hs.1
      have hn8 : 0 ≤ n ∧ n ≤ 8 := by omega
      have ht : (((total L : Nat) : Int) - 2).toNat = total L - 2 := by omega
      simp (disch := omega) [oLt, oLe, oLtN, oLeN, nLt, nLe, nLtN, nLeN, hs, hc, hw]
      refine XZ_for (fun i : Nat => st22 L u n i (witL n (L.take i))) (fun i => L.length - i) (fun i => i ≤ L.length) 0 (by simp) (.tot [2, 4] (by simp [st22, witL, fA, fH, fN])) ?_
      intro i hi N Q' hN hE
      rcases Nat.lt_or_ge i L.length with h | h
      · have hic : (i : Int) < L.length := by omega
        obtain ⟨l, r, -, e2, e3, -, e5⟩ := drop_split h
        have hll : l.length ≤ 10000 := Nat.le_trans (total_mem0 e5) (by omega)
        have hbe : ∀ e ∈ l, 0 ≤ e ∧ e < 16 := fun e he => by have := (scanM_in hsc l e5).2 e he; omega
        have hnext : witL n (L.take (i + 1)) = witL n (L.take i) ++ [flt n l] := by rw [List.take_succ_eq_append_getElem h, e3]; simp [witL]
        have hol : (witL n (L.take i)).length ≤ 10000 := by simp [witL]; omega
        have fin : ∀ s', ChgT 0 s' (st22 L u n ((i + 1 : Nat)) (witL n (L.take i) ++ [flt n l])) → N s' := fun s' hh => hN s' (i + 1) (by omega) h (by rw [hnext]; exact hh)
        have key := @in22_ok [s45, s64, s66, s72] L u n i (witL n (L.take i)) l
        have hfl := flt_len n l
        clear hN hnext
        generalize witL n (L.take i) = out at *
        generalize flt n l = F at *
        rcases out with _ | ⟨o, orr⟩
        · rcases F with _ | ⟨f0, fr⟩
          · simp only [st22, fA, fH, fN]
            delta p22_l1 p22_r8 p22_r9 p22_r10
            simp (disch := omega) [oLt, oLe, oLtN, oLeN, nLt, nLe, nLtN, nLeN, hic, h, e2, e3]
            refine key h e2 hll hn8 hbe (.tot [2, 4] (by simp [in22, fA, fH, fN, gA, gH, gN])) ?_
            simp only [inBE, thenE, if_true, in22, fA, fH, fN, gA, gH, gN]
            delta p22_r18 p22_r19
            simp (disch := omega) [oLt, oLe, oLtN, oLeN, nLt, nLe, nLtN, nLeN]
            exact fin _ (.trans (.tot [2, 4, 7] (by simp [st22w, lls])) st22w_weak)
          · simp only [List.length_cons] at hfl
            simp only [st22, fA, fH, fN, List.nil_append] at fin ⊢
            delta p22_l1 p22_r8 p22_r9 p22_r10
            simp (disch := omega) [oLt, oLe, oLtN, oLeN, nLt, nLe, nLtN, nLeN, hic, h, e2, e3]
            refine key h e2 hll hn8 hbe (.tot [2, 4] (by simp [in22, fA, fH, fN, gA, gH, gN])) ?_
            simp only [inBE, thenE, if_true, in22, fA, fH, fN, gA, gH, gN]
            delta p22_r18 p22_r19
            simp (disch := omega) [oLt, oLe, oLtN, oLeN, nLt, nLe, nLtN, nLeN]
            exact fin _ (.frz 2 (by simp; rfl) (by simp) (.tot [2, 4, 7] (by simp)))
        · simp only [List.length_cons] at hol
          rcases F with _ | ⟨f0, fr⟩
          · simp only [st22, fA, fH, fN]
            delta p22_l1 p22_r8 p22_r9 p22_r10
            simp (disch := omega) [oLt, oLe, oLtN, oLeN, nLt, nLe, nLtN, nLeN, hic, h, e2, e3]
            refine key h e2 hll hn8 hbe (.tot [2, 4, 7] (by simp [in22, fA, fH, fN, gA, gH, gN])) ?_
            simp only [inBE, thenE, if_true, in22, fA, fH, fN, gA, gH, gN]
            delta p22_r18 p22_r19
            simp (disch := omega) [oLt, oLe, oLtN, oLeN, nLt, nLe, nLtN, nLeN]
            exact fin _ (.trans (.tot [2, 4, 7] (by simp [st22w])) st22w_weak)
          · simp only [List.length_cons] at hfl
            simp only [st22, fA, fH, fN, List.cons_append] at fin ⊢
            delta p22_l1 p22_r8 p22_r9 p22_r10
            simp (disch := omega) [oLt, oLe, oLtN, oLeN, nLt, nLe, nLtN, nLeN, hic, h, e2, e3]
            refine key h e2 hll hn8 hbe (.tot [2, 4, 7] (by simp [in22, fA, fH, fN, gA, gH, gN])) ?_
            simp only [inBE, thenE, if_true, in22, fA, fH, fN, gA, gH, gN]
            delta p22_r18 p22_r19
            simp (disch := omega) [oLt, oLe, oLtN, oLeN, nLt, nLe, nLtN, nLeN]
            exact fin _ (.frz 3 (by simp; rfl) (by simp) (.tot [2, 4, 7] (by simp)))
      · obtain rfl : i = L.length := by omega
        have hic : ¬ (L.length : Int) < L.length := by omega
        rw [List.take_length]
        have hgen : ∀ R, tidyF (witL n L) (total L - 2) = R → True := fun _ _ => trivial
        obtain ⟨R, hR⟩ : ∃ R, tidyF (witL n L) (total L - 2) = R := ⟨_, rfl⟩
        rw [hR] at hQ
        obtain ⟨W, hW⟩ : ∃ W, witL n L = W := ⟨_, rfl⟩
        rw [hW] at h64 hR ⊢
        rcases W with _ | ⟨o, orr⟩
        · simp only [st22, fA, fH, fN]
          delta p22_l1 p22_r8 p22_r9 p22_r10
          simp (disch := omega) [oLt, oLe, oLtN, oLeN, nLt, nLe, nLtN, nLeN, hic]
          refine hE _ _ _ .refl ?_
          delta p22_r20
          simp (disch := omega) [oLt, oLe, oLtN, oLeN, nLt, nLe, nLtN, nLeN, hs, h64, ht, hR]
          exact hQ _ _ (.p (.inl rfl) (by simp [Eff.exec]) (by simp))
        · have hu : unlls (.il (ints o) o.length false :: lls orr) = some (o :: orr) := unlls_lls (o :: orr)
          simp only [st22, fA, fH, fN]
          delta p22_l1 p22_r8 p22_r9 p22_r10
          simp (disch := omega) [oLt, oLe, oLtN, oLeN, nLt, nLe, nLtN, nLeN, hic]
          refine hE _ _ _ (.frz 2 (by simp; rfl) (by simp) .refl) ?_
          simp only [inBE, thenE, if_true]
          delta p22_r20
          simp (disch := omega) [oLt, oLe, oLtN, oLeN, nLt, nLe, nLtN, nLeN, frzS, hu, hs, h64, ht, hR]
          exact hQ _ _ (.p (.inl rfl) (by simp [Eff.exec]) (by simp))
end Go.Sx.Ch
