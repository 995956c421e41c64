/- What functions of the chart layer return: Without: a list without a line. No conditions. -/
import Derived.Test.YtfiebjbhiflfpaaDoorSxJCNtoCO
set_option linter.unusedVariables false
set_option linter.unusedSimpArgs false
set_option maxRecDepth 4000
namespace Go.Sx.Ch
open Go Go.Sx Go.Proofs

/-- A list without a line. -/
def flt (n : Int) (l : List Int) : List Int := l.filterMap fun e => if e < 2 * n then some e else if 2 * n + 1 < e then some (e - 2) else none
theorem flt_snoc (n : Int) (l : List Int) (e : Int) : flt n (l ++ [e]) = if e < 2 * n then flt n l ++ [e] else if 2 * n + 1 < e then flt n l ++ [e - 2] else flt n l := by
  simp only [flt, List.filterMap_append, List.filterMap_cons, List.filterMap_nil]
  split
  · rename_i h
    split at h
    · cases h
    · split at h
      · cases h
      · rename_i h1 h2; rw [if_neg h1, if_neg h2]; simp
  · rename_i x h
    split at h
    · rename_i h1; cases h; rw [if_pos h1]
    · split at h
      · rename_i h1 h2; cases h; rw [if_neg h1, if_pos h2]
      · cases h
theorem flt_len (n : Int) (l : List Int) : (flt n l).length ≤ l.length := List.length_filterMap_le _ _
theorem wk_last (G : List (List Int)) : WkB (.cells (lls G ++ [.v (.slice none 0 0)])) (.cells (lls (G ++ [[]]))) := by
  refine ⟨by simp, fun i x y hx hy => ?_⟩
  have e : lls (G ++ [[]]) = lls G ++ [.il [] 0 false] := by simp [lls, ints, eL]
  rw [e, List.getElem?_append] at hy
  rw [List.getElem?_append] at hx
  split at hx
  · rename_i h; rw [if_pos h, hx] at hy; cases hy; exact .refl
  · rename_i h
    rw [if_neg h] at hy
    cases hi : i - (lls G).length with
    | zero => rw [hi] at hx hy; simp at hx hy; subst hx hy; exact .nil
    | succ j => rw [hi] at hx; simp at hx
def st21 (L : List (List Int)) (u : Bool) (line : Int) (i : Nat) (out : List (List Int)) : ST :=
  ⟨[(1, vI line), (4, .ptr 0 0), (8, fA 1 out), (37, .il (lls L) L.length u), (38, vI L.length), (39, vI i)], (0, .cells [.v (.slice none 0 0)]) :: fH 1 out, 1 + fN out⟩
def in21 (L : List (List Int)) (u : Bool) (line : Int) (i : Nat) (out : List (List Int)) (l : List Int) (k : Nat) (acc : List Int) : ST :=
  ⟨[(1, vI line), (4, .ptr 0 0), (8, fA 1 out), (11, gA (1 + fN out) acc), (37, .il (lls L) L.length u), (38, vI L.length), (39, vI i), (43, .il (ints l) l.length false), (44, vI l.length), (45, vI k)], (0, .cells [.v (.slice none 0 0)]) :: (fH 1 out ++ gH (1 + fN out) acc), 1 + fN out + gN acc⟩
set_option maxHeartbeats 1000000
theorem in21_ok {ss : List Sp} {L : List (List Int)} {u : Bool} {line : Int} {i : Nat} {out : List (List Int)} {l : List Int} {s0 : ST} {Q : Exit → ST → Prop} (hlen : l.length ≤ 10000) (hline : 0 ≤ line ∧ line ≤ 8) (hl : ∀ e ∈ l, 0 ≤ e ∧ e < 16)
    (hs0 : ChgT 0 s0 (in21 L u line i out l 0 [])) (hQ : Q (.exit 3) (in21 L u line i out l l.length (flt line l))) : XZ (rZ (spc ss)) 0 (.loop p21_l0) s0 Q := by
  refine XZ_for (fun k : Nat => in21 L u line i out l k (flt line (l.take k))) (fun k => l.length - k) (fun k => k ≤ l.length) 0 (by simp) (by simpa [flt] using hs0) ?_
  intro k hk N Q' hN hE
  rcases Nat.lt_or_ge k l.length with h | h
  · have hkc : (k : Int) < l.length := by omega
    obtain ⟨e, r, -, e2, e3, -, e5⟩ := drop_split h
    obtain ⟨b0, b1⟩ := hl e e5
    have hnext : flt line (l.take (k + 1)) = if e < 2 * line then flt line (l.take k) ++ [e] else if 2 * line + 1 < e then flt line (l.take k) ++ [e - 2] else flt line (l.take k) := by rw [List.take_succ_eq_append_getElem h, e3]; exact flt_snoc line (l.take k) e
    have hal : (flt line (l.take k)).length ≤ 10000 := Nat.le_trans (flt_len _ _) (by simp; omega)
    have fin : ∀ s', ChgT 0 s' (in21 L u line i out l ((k + 1 : Nat)) (if e < 2 * line then flt line (l.take k) ++ [e] else if 2 * line + 1 < e then flt line (l.take k) ++ [e - 2] else flt line (l.take k))) → N s' := fun s' hh => hN s' (k + 1) (by omega) h (by rw [hnext]; exact hh)
    clear hN hnext
    generalize flt line (l.take k) = acc at *
    by_cases hlo : e < 2 * line
    · rw [if_pos hlo] at fin
      rcases out with _ | ⟨o, orr⟩
      · rcases acc with _ | ⟨a, ar⟩
        · simp only [in21, fA, fH, fN, gA, gH, gN, List.nil_append] at fin ⊢
          delta p21_l0 p21_r12 p21_r13 p21_r14 p21_r15 p21_r16 p21_r17 p21_r18
          simp (disch := omega) [oLt, oLe, oLtN, oLeN, nLt, nLe, nLtN, nLeN, hkc, h, e2, e3, hlo]
          exact fin _ (.tot [4, 11] (by simp))
        · simp only [List.length_cons] at hal
          simp only [in21, fA, fH, fN, gA, gH, gN, List.cons_append] at fin ⊢
          delta p21_l0 p21_r12 p21_r13 p21_r14 p21_r15 p21_r16 p21_r17 p21_r18
          simp (disch := omega) [oLt, oLe, oLtN, oLeN, nLt, nLe, nLtN, nLeN, hkc, h, e2, e3, hlo]
          exact fin _ (.tot [4, 11] (by simp))
      · rcases acc with _ | ⟨a, ar⟩
        · simp only [in21, fA, fH, fN, gA, gH, gN, List.nil_append] at fin ⊢
          delta p21_l0 p21_r12 p21_r13 p21_r14 p21_r15 p21_r16 p21_r17 p21_r18
          simp (disch := omega) [oLt, oLe, oLtN, oLeN, nLt, nLe, nLtN, nLeN, hkc, h, e2, e3, hlo]
          exact fin _ (.tot [4, 8, 11] (by simp))
        · simp only [List.length_cons] at hal
          simp only [in21, fA, fH, fN, gA, gH, gN, List.cons_append] at fin ⊢
          delta p21_l0 p21_r12 p21_r13 p21_r14 p21_r15 p21_r16 p21_r17 p21_r18
          simp (disch := omega) [oLt, oLe, oLtN, oLeN, nLt, nLe, nLtN, nLeN, hkc, h, e2, e3, hlo]
          exact fin _ (.tot [4, 8, 11] (by simp))
    · rw [if_neg hlo] at fin
      by_cases hhi : 2 * line + 1 < e
      · rw [if_pos hhi] at fin
        rcases out with _ | ⟨o, orr⟩
        · rcases acc with _ | ⟨a, ar⟩
          · simp only [in21, fA, fH, fN, gA, gH, gN, List.nil_append] at fin ⊢
            delta p21_l0 p21_r12 p21_r13 p21_r14 p21_r15 p21_r16 p21_r17 p21_r18
            simp (disch := omega) [oLt, oLe, oLtN, oLeN, nLt, nLe, nLtN, nLeN, hkc, h, e2, e3, hlo, hhi]
            exact fin _ (.tot [4, 11] (by simp))
          · simp only [List.length_cons] at hal
            simp only [in21, fA, fH, fN, gA, gH, gN, List.cons_append] at fin ⊢
            delta p21_l0 p21_r12 p21_r13 p21_r14 p21_r15 p21_r16 p21_r17 p21_r18
            simp (disch := omega) [oLt, oLe, oLtN, oLeN, nLt, nLe, nLtN, nLeN, hkc, h, e2, e3, hlo, hhi]
            exact fin _ (.tot [4, 11] (by simp))
        · rcases acc with _ | ⟨a, ar⟩
          · simp only [in21, fA, fH, fN, gA, gH, gN, List.nil_append] at fin ⊢
            delta p21_l0 p21_r12 p21_r13 p21_r14 p21_r15 p21_r16 p21_r17 p21_r18
            simp (disch := omega) [oLt, oLe, oLtN, oLeN, nLt, nLe, nLtN, nLeN, hkc, h, e2, e3, hlo, hhi]
            exact fin _ (.tot [4, 8, 11] (by simp))
          · simp only [List.length_cons] at hal
            simp only [in21, fA, fH, fN, gA, gH, gN, List.cons_append] at fin ⊢
            delta p21_l0 p21_r12 p21_r13 p21_r14 p21_r15 p21_r16 p21_r17 p21_r18
            simp (disch := omega) [oLt, oLe, oLtN, oLeN, nLt, nLe, nLtN, nLeN, hkc, h, e2, e3, hlo, hhi]
            exact fin _ (.tot [4, 8, 11] (by simp))
      · rw [if_neg hhi] at fin
        rcases out with _ | ⟨o, orr⟩
        · rcases acc with _ | ⟨a, ar⟩
          · simp only [in21, fA, fH, fN, gA, gH, gN] at fin ⊢
            delta p21_l0 p21_r12 p21_r13 p21_r14 p21_r15 p21_r16 p21_r17 p21_r18
            simp (disch := omega) [oLt, oLe, oLtN, oLeN, nLt, nLe, nLtN, nLeN, hkc, h, e2, e3, hlo, hhi]
            exact fin _ (.tot [4] (by simp))
          · simp only [in21, fA, fH, fN, gA, gH, gN] at fin ⊢
            delta p21_l0 p21_r12 p21_r13 p21_r14 p21_r15 p21_r16 p21_r17 p21_r18
            simp (disch := omega) [oLt, oLe, oLtN, oLeN, nLt, nLe, nLtN, nLeN, hkc, h, e2, e3, hlo, hhi]
            exact fin _ (.tot [4, 11] (by simp))
        · rcases acc with _ | ⟨a, ar⟩
          · simp only [in21, fA, fH, fN, gA, gH, gN] at fin ⊢
            delta p21_l0 p21_r12 p21_r13 p21_r14 p21_r15 p21_r16 p21_r17 p21_r18
            simp (disch := omega) [oLt, oLe, oLtN, oLeN, nLt, nLe, nLtN, nLeN, hkc, h, e2, e3, hlo, hhi]
            exact fin _ (.tot [4, 8] (by simp))
          · simp only [in21, fA, fH, fN, gA, gH, gN] at fin ⊢
            delta p21_l0 p21_r12 p21_r13 p21_r14 p21_r15 p21_r16 p21_r17 p21_r18
            simp (disch := omega) [oLt, oLe, oLtN, oLeN, nLt, nLe, nLtN, nLeN, hkc, h, e2, e3, hlo, hhi]
            exact fin _ (.tot [4, 8, 11] (by simp))
  · obtain rfl : k = l.length := by omega
    have hkc : ¬ (l.length : Int) < l.length := by omega
    rw [List.take_length]
    clear hN
    generalize flt line l = acc at *
    rcases out with _ | ⟨o, orr⟩
    · rcases acc with _ | ⟨a, ar⟩
      · simp only [in21, fA, fH, fN, gA, gH, gN] at hQ ⊢
        delta p21_l0 p21_r12 p21_r13 p21_r14 p21_r15 p21_r16 p21_r17 p21_r18
        simp (disch := omega) [oLt, oLe, oLtN, oLeN, nLt, nLe, nLtN, nLeN, hkc]
        exact hE _ _ _ (.tot [4] (by simp)) hQ
      · simp only [in21, fA, fH, fN, gA, gH, gN] at hQ ⊢
        delta p21_l0 p21_r12 p21_r13 p21_r14 p21_r15 p21_r16 p21_r17 p21_r18
        simp (disch := omega) [oLt, oLe, oLtN, oLeN, nLt, nLe, nLtN, nLeN, hkc]
        exact hE _ _ _ (.tot [4, 11] (by simp)) hQ
    · rcases acc with _ | ⟨a, ar⟩
      · simp only [in21, fA, fH, fN, gA, gH, gN] at hQ ⊢
        delta p21_l0 p21_r12 p21_r13 p21_r14 p21_r15 p21_r16 p21_r17 p21_r18
        simp (disch := omega) [oLt, oLe, oLtN, oLeN, nLt, nLe, nLtN, nLeN, hkc]
        exact hE _ _ _ (.tot [4, 8] (by simp)) hQ
      · simp only [in21, fA, fH, fN, gA, gH, gN] at hQ ⊢
        delta p21_l0 p21_r12 p21_r13 p21_r14 p21_r15 p21_r16 p21_r17 p21_r18
        simp (disch := omega) [oLt, oLe, oLtN, oLeN, nLt, nLe, nLtN, nLeN, hkc]
        exact hE _ _ _ (.tot [4, 8, 11] (by simp)) hQ
end Go.Sx.Ch
set_option maxRecDepth 4000
namespace Go.Sx.Ch
open Go Go.Sx Go.Proofs

theorem total_mem0 : ∀ {L : List (List Int)} {l : List Int}, l ∈ L → l.length ≤ total L
  | x :: L, l, h => by
    simp only [total, List.map_cons, List.sum_cons]
    rcases List.mem_cons.1 h with rfl | h
    · omega
    · have := total_mem0 h
      simp only [total] at this; omega
def witL (n : Int) (L : List (List Int)) : List (List Int) := L.map (flt n)
def inLine (n : Int) (L : List (List Int)) : Bool := decide (0 ≤ n) && decide (n < ((total L / 2 : Nat) : Int))
def witC (n : Int) (L : List (List Int)) : List (List Int) := cyc (afterC (tabF (witL n L))) (total (witL n L))
def witE (n : Int) (L : List (List Int)) : Int := if chk L = 0 then (if inLine n L then 0 else 2) else chk L
def witV (n : Int) (L : List (List Int)) : AV := .tup [if witE n L = 0 then .agg [.il (lls (witC n L)) (witC n L).length false] else nilA, vI (witE n L)]
def g21 (n : Int) (L : List (List Int)) : Bool := smM L && (decide (¬ witE n L = 0) || (g70 (witL n L) && okS (afterC (tabF (witL n L))) (total (witL n L))))
def st21w (L : List (List Int)) (u : Bool) (line : Int) (i : Nat) (out : List (List Int)) : ST :=
  ⟨[(1, vI line), (4, .ptr 0 0), (8, .ref 1 0 (out.length + 1) 1 none), (37, .il (lls L) L.length u), (38, vI L.length), (39, vI i)], [(0, .cells [.v (.slice none 0 0)]), (1, .cells (lls out ++ [.v (.slice none 0 0)]))], 2⟩
theorem st21w_weak {L u line i out} : ChgT 0 (st21w L u line i out) (st21 L u line i (out ++ [[]])) := by
  have e : st21 L u line i (out ++ [[]]) = ⟨[(1, vI line), (4, .ptr 0 0), (8, .ref 1 0 (out.length + 1) 1 none), (37, .il (lls L) L.length u), (38, vI L.length), (39, vI i)], [(0, .cells [.v (.slice none 0 0)]), (1, .cells (lls (out ++ [[]])))], 2⟩ := by
    rcases out with _ | ⟨o, orr⟩
    · rfl
    · simp [st21, fA, fH, fN]
  rw [e]
  exact .weak (s' := ⟨[(1, vI line), (4, .ptr 0 0), (8, .ref 1 0 (out.length + 1) 1 none), (37, .il (lls L) L.length u), (38, vI L.length), (39, vI i)], [(0, .cells [.v (.slice none 0 0)]), (1, .cells (lls (out ++ [[]])))], 2⟩) (show envWk _ _ from ⟨rfl, .refl, rfl, .refl, rfl, .refl, rfl, .refl, rfl, .refl, rfl, .refl, trivial⟩) (show heapWk _ _ from ⟨rfl, .refl, rfl, wk_last out, trivial⟩) rfl .refl
set_option maxHeartbeats 1000000
def s21 : Sp := spT 21 [.mp, .i] fun (L : List (List Int)) (n : Int) => res (g21 n L) (witV n L)
@[simp] theorem s21_g : s21.g = 21 := rfl
@[simp] theorem s21_f : s21.f = (spT 21 [.mp, .i] fun (L : List (List Int)) (n : Int) => res (g21 n L) (witV n L)).f := rfl
theorem s21_ok : s21.ok Tryd.prog := by
  apply spT_ok
  simp only [OkT, Ty.all, List.nil_append, List.cons_append]
  intro (L : List (List Int)) u (n : Int)
  apply okT_res; intro hg
  refine P21.rz (ss := [s67, s68, s70, s71]) ⟨s67_ok, s68_ok, s70_ok, s71_ok, trivial⟩ (by simp) fun Q hQ => ?_
  delta p21
  simp only [g21, Bool.and_eq_true, Bool.or_eq_true, decide_eq_true_eq] at hg
  obtain ⟨hs, hg⟩ := hg
  by_cases hc : chk L = 0
  case neg =>
    have hE' : witE n L = chk L := by unfold witE; rw [if_neg hc]
    have hv : openV L = .tup [.agg (ints Z34), vI (chk L)] := by unfold openV; rw [if_neg hc]
    have hr : witV n L = .tup [.agg [.v (.slice none 0 0)], vI (chk L)] := by unfold witV; rw [hE', if_neg hc]; rfl
    obtain ⟨c, hcc⟩ : ∃ c, chk L = c := ⟨_, rfl⟩
    rw [hr, hcc] at hQ
    rw [hcc] at hc hv
    delta p21_r0 p21_r1 p21_r2 p21_r3
    simp (disch := omega) [oLt, oLe, oLtN, oLeN, nLt, nLe, nLtN, nLeN, hs, hv, zl, zz, z34_len, hc]
    exact hQ _ _ (.p (.inl rfl) (by simp [Eff.exec]) (by simp))
  case pos =>
    obtain ⟨h34, he⟩ := tab_ends hc hs
    obtain ⟨h16, hsc, hev⟩ := chk_zero hc
    have ht : (tabF L).take 34 = tabF L := List.take_of_length_le (by omega)
    have hv : openV L = .tup [.agg (ints (tabF L)), vI 0] := by unfold openV; rw [hc]; rfl
    have hsp : splice (ints Z34) 0 (ints (tabF L)) = ints (tabF L) := splice_all (by simp [h34, z34_len])
    have h0 : (tabF L)[0]? = some ((total L : Nat) : Int) := by
      rw [List.getElem?_eq_getElem (by omega)]
      have : endsC (tabF L) = (tabF L)[0] := by simp [endsC, List.getD_eq_getElem?_getD, h34]
      rw [← this, he]
    have h0' := (List.getElem?_eq_some_iff.1 h0).2
    have hdiv : ((total L : Nat) : Int) / 2 = ((total L / 2 : Nat) : Int) := by omega
    generalize hCe : tabF L = C at *
    by_cases hin : inLine n L = true
    case neg =>
      have hE' : witE n L = 2 := by unfold witE; rw [if_pos hc, if_neg hin]
      have hr : witV n L = .tup [.agg [.v (.slice none 0 0)], vI 2] := by unfold witV; rw [hE']; rfl
      rw [hr] at hQ
      simp only [inLine, Bool.and_eq_true, decide_eq_true_eq] at hin
      delta p21_r0 p21_r1 p21_r2 p21_r4 p21_r5
      by_cases hlo : n < 0
      · simp (disch := omega) [oLt, oLe, oLtN, oLeN, nLt, nLe, nLtN, nLeN, hs, hv, zl, hsp, h34, z34_len, ht, h0, h0', hlo]
        exact hQ _ _ (.p (.inl rfl) (by simp [Eff.exec]) (by simp))
      · have hhi : ((total L : Nat) : Int) / 2 ≤ n := by omega
        simp (disch := omega) [oLt, oLe, oLtN, oLeN, nLt, nLe, nLtN, nLeN, hs, hv, zl, hsp, h34, z34_len, ht, h0, h0', hlo, hhi]
        exact hQ _ _ (.p (.inl rfl) (by simp [Eff.exec]) (by simp))
    case pos =>
      have hE' : witE n L = 0 := by unfold witE; rw [if_pos hc, if_pos hin]
      have hr : witV n L = .tup [.agg [.il (lls (witC n L)) (witC n L).length false], vI 0] := by unfold witV; rw [hE']; rfl
      rw [hr] at hQ
      obtain ⟨h70, hok⟩ := hg.resolve_left (fun h => h hE')
      simp only [inLine, Bool.and_eq_true, decide_eq_true_eq] at hin
      obtain ⟨hlo, hhi⟩ := hin
      have hlo' : ¬ n < 0 := by omega
      have hhi' : ¬ ((total L : Nat) : Int) / 2 ≤ n := by omega
      delta p21_r0 p21_r1 p21_r2 p21_r4 p21_r6 p21_r7
      simp (disch := omega) [oLt, oLe, oLtN, oLeN, nLt, nLe, nLtN, nLeN, hs, hv, zl, hsp, h34, z34_len, ht, h0, h0', hlo', hhi']
      have hlen : L.length ≤ 10000 := by simp only [smM, Bool.and_eq_true, decide_eq_true_eq] at hs; exact hs.1
      have hn8 : 0 ≤ n ∧ n ≤ 8 := by omega
      refine XZ_for (fun i : Nat => st21 L u n i (witL n (L.take i))) (fun i => L.length - i) (fun i => i ≤ L.length) 0 (by simp) (.tot [4] (by simp [st21, witL, fA, fH, fN])) ?_
      intro i hi N Q' hN hE
      rcases Nat.lt_or_ge i L.length with h | h
      · have hic : (i : Int) < L.length := by omega
        obtain ⟨l, r, -, e2, e3, -, e5⟩ := drop_split h
        have hll : l.length ≤ 10000 := Nat.le_trans (total_mem0 e5) (by omega)
        have hbe : ∀ e ∈ l, 0 ≤ e ∧ e < 16 := fun e he => by have := (scanM_in hsc l e5).2 e he; omega
        have hnext : witL n (L.take (i + 1)) = witL n (L.take i) ++ [flt n l] := by rw [List.take_succ_eq_append_getElem h, e3]; simp [witL]
        have hol : (witL n (L.take i)).length ≤ 10000 := by simp [witL]; omega
        have fin : ∀ s', ChgT 0 s' (st21 L u n ((i + 1 : Nat)) (witL n (L.take i) ++ [flt n l])) → N s' := fun s' hh => hN s' (i + 1) (by omega) h (by rw [hnext]; exact hh)
        have key := @in21_ok [s67, s68, s70, s71] L u n i (witL n (L.take i)) l
        have hfl := flt_len n l
        clear hN hnext
        generalize witL n (L.take i) = out at *
        generalize flt n l = F at *
        rcases out with _ | ⟨o, orr⟩
        · rcases F with _ | ⟨f0, fr⟩
          · simp only [st21, fA, fH, fN]
            delta p21_l1 p21_r8 p21_r9 p21_r10 p21_r11
            simp (disch := omega) [oLt, oLe, oLtN, oLeN, nLt, nLe, nLtN, nLeN, hic, h, e2, e3]
            refine key hll hn8 hbe (.tot [4] (by simp [in21, fA, fH, fN, gA, gH, gN])) ?_
            simp only [inBE, thenE, if_true, in21, fA, fH, fN, gA, gH, gN]
            delta p21_r19 p21_r20
            simp (disch := omega) [oLt, oLe, oLtN, oLeN, nLt, nLe, nLtN, nLeN]
            exact fin _ (.trans (.tot [4, 8] (by simp [st21w, lls])) st21w_weak)
          · simp only [List.length_cons] at hfl
            simp only [st21, fA, fH, fN, List.nil_append] at fin ⊢
            delta p21_l1 p21_r8 p21_r9 p21_r10 p21_r11
            simp (disch := omega) [oLt, oLe, oLtN, oLeN, nLt, nLe, nLtN, nLeN, hic, h, e2, e3]
            refine key hll hn8 hbe (.tot [4] (by simp [in21, fA, fH, fN, gA, gH, gN])) ?_
            simp only [inBE, thenE, if_true, in21, fA, fH, fN, gA, gH, gN]
            delta p21_r19 p21_r20
            simp (disch := omega) [oLt, oLe, oLtN, oLeN, nLt, nLe, nLtN, nLeN]
            exact fin _ (.frz 1 (by simp; rfl) (by simp) (.tot [4, 8] (by simp)))
        · simp only [List.length_cons] at hol
          rcases F with _ | ⟨f0, fr⟩
          · simp only [st21, fA, fH, fN]
            delta p21_l1 p21_r8 p21_r9 p21_r10 p21_r11
            simp (disch := omega) [oLt, oLe, oLtN, oLeN, nLt, nLe, nLtN, nLeN, hic, h, e2, e3]
            refine key hll hn8 hbe (.tot [4, 8] (by simp [in21, fA, fH, fN, gA, gH, gN])) ?_
            simp only [inBE, thenE, if_true, in21, fA, fH, fN, gA, gH, gN]
            delta p21_r19 p21_r20
            simp (disch := omega) [oLt, oLe, oLtN, oLeN, nLt, nLe, nLtN, nLeN]
            exact fin _ (.trans (.tot [4, 8] (by simp [st21w])) st21w_weak)
          · simp only [List.length_cons] at hfl
            simp only [st21, fA, fH, fN, List.cons_append] at fin ⊢
            delta p21_l1 p21_r8 p21_r9 p21_r10 p21_r11
            simp (disch := omega) [oLt, oLe, oLtN, oLeN, nLt, nLe, nLtN, nLeN, hic, h, e2, e3]
            refine key hll hn8 hbe (.tot [4, 8] (by simp [in21, fA, fH, fN, gA, gH, gN])) ?_
            simp only [inBE, thenE, if_true, in21, fA, fH, fN, gA, gH, gN]
            delta p21_r19 p21_r20
            simp (disch := omega) [oLt, oLe, oLtN, oLeN, nLt, nLe, nLtN, nLeN]
            exact fin _ (.frz 2 (by simp; rfl) (by simp) (.tot [4, 8] (by simp)))
      · obtain rfl : i = L.length := by omega
        have hic : ¬ (L.length : Int) < L.length := by omega
        rw [List.take_length]
        have hW16 : (witL n L).all in16 = true := by simp only [g70, Bool.and_eq_true] at h70; exact h70.1.1
        obtain ⟨w34, w0, -, -⟩ := tabF_facts hW16
        have wt : (tabF (witL n L)).take 34 = tabF (witL n L) := List.take_of_length_le (by omega)
        have wsp : splice (ints Z34) 0 (ints (tabF (witL n L))) = ints (tabF (witL n L)) := splice_all (by simp [w34, z34_len])
        have hT : t34 (tabF (witL n L)) = true := by simp [t34, w34]
        have hen : endsC (tabF (witL n L)) = ((total (witL n L) : Nat) : Int) := w0
        have hcy : cycF (tabF (witL n L)) (.fn (.func 71) [.agg (ints (tabF (witL n L)))] []) = res true (.il (lls (witC n L)) (witC n L).length false) := by
          unfold cycF witC; simp only [stepOf_71, hT, if_true, hen, Int.toNat_natCast, hok, Bool.and_true, Bool.true_and]
          rw [decide_eq_true (by omega)]
        generalize witC n L = R at *
        obtain ⟨W, hW⟩ : ∃ W, witL n L = W := ⟨_, rfl⟩
        rw [hW] at h70 w34 wt wsp hcy ⊢
        clear hok hen hT w0 hW16
        obtain ⟨D, hD⟩ : ∃ D, tabF W = D := ⟨_, rfl⟩
        rw [hD] at w34 wt wsp hcy
        rcases W with _ | ⟨o, orr⟩
        · simp only [st21, fA, fH, fN]
          delta p21_l1 p21_r8 p21_r9 p21_r10 p21_r11
          simp (disch := omega) [oLt, oLe, oLtN, oLeN, nLt, nLe, nLtN, nLeN, hic]
          refine hE _ _ _ .refl ?_
          delta p21_r21 p21_r22
          simp (disch := omega) [oLt, oLe, oLtN, oLeN, nLt, nLe, nLtN, nLeN, h70, hD, zl, wsp, w34, wt, z34_len, effMkfn, hcy]
          exact hQ _ _ (.p (.inl rfl) (by simp [Eff.exec]) (by simp))
        · have hu : unlls (.il (ints o) o.length false :: lls orr) = some (o :: orr) := unlls_lls (o :: orr)
          simp only [st21, fA, fH, fN]
          delta p21_l1 p21_r8 p21_r9 p21_r10 p21_r11
          simp (disch := omega) [oLt, oLe, oLtN, oLeN, nLt, nLe, nLtN, nLeN, hic]
          refine hE _ _ _ (.frz 1 (by simp; rfl) (by simp) .refl) ?_
          simp only [inBE, thenE, if_true]
          delta p21_r21 p21_r22
          simp (disch := omega) [oLt, oLe, oLtN, oLeN, nLt, nLe, nLtN, nLeN, frzS, hu, h70, hD, zl, wsp, w34, wt, z34_len, effMkfn, hcy]
          exact hQ _ _ (.p (.inl rfl) (by simp [Eff.exec]) (by simp))
end Go.Sx.Ch
