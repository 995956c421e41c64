/- What functions of the chart layer's document return: Dual. No conditions. -/
import Derived.Test.YtfiebjbhiflfpaaDoorSxCV
import Derived.Test.YtfiebjbhiflfpaaDoorSxJCNtoCO
set_option linter.unusedVariables false
set_option linter.unusedSimpArgs false
set_option maxRecDepth 4000
namespace Go.Sx.Ch
open Go Go.Sx Go.Proofs

def mpA (l : List (List Int)) : AV := .agg [.il (lls l) l.length false]
def dualR (L : List (List Int)) : AV := .tup [if chk L = 0 then mpA (tidyF (faceR L) (total L)) else nilA, vI (chk L)]
def g18 (L : List (List Int)) : Bool := smM L && (decide (¬ chk L = 0) || (g65 L && g64 (faceR L) (total L)))
set_option maxHeartbeats 1000000
def s18 : Sp := spT 18 [.mp] fun (L : List (List Int)) => res (g18 L) (dualR L)
@[simp] theorem s18_g : s18.g = 18 := rfl
@[simp] theorem s18_f : s18.f = (spT 18 [.mp] fun (L : List (List Int)) => res (g18 L) (dualR L)).f := rfl
theorem s18_ok : s18.ok Tryd.prog := by
  apply spT_ok
  simp only [OkT, Ty.all, List.nil_append, List.cons_append]
  intro (L : List (List Int)) u
  apply okT_res; intro hg
  refine P18.rz (ss := [s45, s64, s65, s66]) ⟨s45_ok, s64_ok, s65_ok, s66_ok, trivial⟩ (by simp) fun Q hQ => ?_
  delta p18 p18_r0 p18_r1 p18_r2 p18_r3 p18_r4
  simp only [g18, Bool.and_eq_true, Bool.or_eq_true, decide_eq_true_eq] at hg
  obtain ⟨hs, hg⟩ := hg
  by_cases hc : chk L = 0
  · obtain ⟨h65, h64⟩ := hg.resolve_left (fun h => h hc)
    have hr : dualR L = .tup [.agg [.il (lls (tidyF (faceR L) (total L))) (tidyF (faceR L) (total L)).length false], vI 0] := by unfold dualR; rw [hc, if_pos rfl]; rfl
    have ht : ((total L : Nat) : Int).toNat = total L := Int.toNat_natCast _
    rw [hr] at hQ
    simp (disch := omega) [oLt, oLe, oLtN, oLeN, nLt, nLe, nLtN, nLeN, hs, hc, h65, h64, ht]
    exact hQ _ _ (.p (.inl rfl) (by simp [Eff.exec]) (by simp))
  · have hr : dualR L = .tup [.agg [.v (.slice none 0 0)], vI (chk L)] := by unfold dualR; rw [if_neg hc]; rfl
    obtain ⟨c, hcc⟩ : ∃ c, chk L = c := ⟨_, rfl⟩
    rw [hr, hcc] at hQ
    rw [hcc] at hc
    simp (disch := omega) [oLt, oLe, oLtN, oLeN, nLt, nLe, nLtN, nLeN, hs, hcc, hc]
    exact hQ _ _ (.p (.inl rfl) (by simp [Eff.exec]) (by simp))
end Go.Sx.Ch
set_option maxRecDepth 4000
namespace Go.Sx.Ch
open Go Go.Sx Go.Proofs

def revL (L : List (List Int)) : List (List Int) := L.map List.reverse
def backR (L : List (List Int)) : AV := .tup [if chk L = 0 then mpA (tidyF (revL L) (total L)) else nilA, vI (chk L)]
def g20 (L : List (List Int)) : Bool := smM L && (decide (¬ chk L = 0) || g64 (revL L) (total L))
def st20 (L : List (List Int)) (u : Bool) (i : Nat) (out : List (List Int)) : ST :=
  ⟨[(1, .ptr 0 0), (2, .ptr 1 0), (5, fA 2 out), (6, vI i)], (0, .cells [.il (lls L) L.length u]) :: (1, .cells [.v (.slice none 0 0)]) :: fH 2 out, 2 + fN out⟩
def in20 (L : List (List Int)) (u : Bool) (i : Nat) (out : List (List Int)) (acc : List Int) (x : Int) : ST :=
  ⟨[(1, .ptr 0 0), (2, .ptr 1 0), (5, fA 2 out), (6, vI i), (7, gA (2 + fN out) acc), (8, vI x)], (0, .cells [.il (lls L) L.length u]) :: (1, .cells [.v (.slice none 0 0)]) :: (fH 2 out ++ gH (2 + fN out) acc), 2 + fN out + gN acc⟩
set_option maxHeartbeats 1000000
theorem in20_ok {L : List (List Int)} {u : Bool} {i : Nat} {out : List (List Int)} {l : List Int} {s0 : ST} {Q : Exit → ST → Prop} (hi : i < L.length) (hl : L[i]? = some l) (hlen : l.length ≤ 10000)
    (hs0 : ChgT 0 s0 (in20 L u i out [] ((l.length : Int) - 1))) (hQ : Q (.exit 2) (in20 L u i out l.reverse (-1))) : XZ (rZ (spc [s45, s64, s66])) 0 (.loop p20_l0) s0 Q := by
  have hl' := (List.getElem?_eq_some_iff.1 hl).2
  have hic : (i : Int) < L.length := by omega
  refine XZ_for (fun j : Nat => in20 L u i out (l.reverse.take j) ((l.length : Int) - 1 - j)) (fun j => l.length - j) (fun j => j ≤ l.length) 0 (by simp) (by simpa using hs0) ?_
  intro j hj N Q' hN hE
  rcases Nat.lt_or_ge j l.length with h | h
  · obtain ⟨k, hk⟩ : ∃ k : Nat, l.length = k + 1 + j := ⟨l.length - 1 - j, by omega⟩
    have hkl : k < l.length := by omega
    have hkc : (l.length : Int) - 1 - j = k := by omega
    obtain ⟨x, hx⟩ : ∃ x, l[k]? = some x := ⟨l[k], by rw [List.getElem?_eq_getElem hkl]⟩
    have hx' := (List.getElem?_eq_some_iff.1 hx).2
    have hrev : l.reverse.take (j + 1) = l.reverse.take j ++ [x] := by
      rw [List.take_succ_eq_append_getElem (by simpa using h)]
      congr 2
      rw [List.getElem_reverse]
      have : l.length - 1 - j = k := by omega
      simp only [this, hx']
    have fin : ∀ s', ChgT 0 s' (in20 L u i out (l.reverse.take j ++ [x]) ((k : Int) - 1)) → N s' := fun s' hh => hN s' (j + 1) (by omega) h (by rw [hrev, show (l.length : Int) - 1 - ((j + 1 : Nat) : Int) = (k : Int) - 1 by omega]; exact hh)
    have hal : (l.reverse.take j).length ≤ 10000 := by simp; omega
    have hk0 : (0 : Int) ≤ k := by omega
    have hkll : (k : Int) < l.length := by omega
    rw [hkc]
    clear hN hrev
    generalize l.reverse.take j = acc at *
    rcases out with _ | ⟨o, orr⟩
    · rcases acc with _ | ⟨a, ar⟩
      · simp only [in20, fA, fH, fN, gA, gH, gN, List.nil_append] at fin ⊢
        delta p20_l0 p20_r9 p20_r10 p20_r11
        simp (disch := omega) [oLt, oLe, oLtN, oLeN, nLt, nLe, nLtN, nLeN, hic, hi, hl, hl', hx, hx', hkl, hkll, hk0]
        exact fin _ (.tot [1, 2, 7] (by simp))
      · simp only [List.length_cons] at hal
        simp only [in20, fA, fH, fN, gA, gH, gN, List.cons_append] at fin ⊢
        delta p20_l0 p20_r9 p20_r10 p20_r11
        simp (disch := omega) [oLt, oLe, oLtN, oLeN, nLt, nLe, nLtN, nLeN, hic, hi, hl, hl', hx, hx', hkl, hkll, hk0]
        exact fin _ (.tot [1, 2, 7] (by simp))
    · rcases acc with _ | ⟨a, ar⟩
      · simp only [in20, fA, fH, fN, gA, gH, gN, List.nil_append] at fin ⊢
        delta p20_l0 p20_r9 p20_r10 p20_r11
        simp (disch := omega) [oLt, oLe, oLtN, oLeN, nLt, nLe, nLtN, nLeN, hic, hi, hl, hl', hx, hx', hkl, hkll, hk0]
        exact fin _ (.tot [1, 2, 5, 7] (by simp))
      · simp only [List.length_cons] at hal
        simp only [in20, fA, fH, fN, gA, gH, gN, List.cons_append] at fin ⊢
        delta p20_l0 p20_r9 p20_r10 p20_r11
        simp (disch := omega) [oLt, oLe, oLtN, oLeN, nLt, nLe, nLtN, nLeN, hic, hi, hl, hl', hx, hx', hkl, hkll, hk0]
        exact fin _ (.tot [1, 2, 5, 7] (by simp))
  · obtain rfl : j = l.length := by omega
    have e : (l.length : Int) - 1 - l.length = -1 := by omega
    have hrt : l.reverse.take l.length = l.reverse := List.take_of_length_le (by simp)
    rw [e, hrt]
    clear hrt hN
    generalize l.reverse = acc at *
    rcases out with _ | ⟨o, orr⟩
    · rcases acc with _ | ⟨a, ar⟩
      · simp only [in20, fA, fH, fN, gA, gH, gN] at hQ ⊢
        delta p20_l0 p20_r9 p20_r10 p20_r11
        simp (disch := omega) [oLt, oLe, oLtN, oLeN, nLt, nLe, nLtN, nLeN]
        exact hE _ _ _ (.tot [1, 2] (by simp)) hQ
      · simp only [in20, fA, fH, fN, gA, gH, gN] at hQ ⊢
        delta p20_l0 p20_r9 p20_r10 p20_r11
        simp (disch := omega) [oLt, oLe, oLtN, oLeN, nLt, nLe, nLtN, nLeN]
        exact hE _ _ _ (.tot [1, 2, 7] (by simp)) hQ
    · rcases acc with _ | ⟨a, ar⟩
      · simp only [in20, fA, fH, fN, gA, gH, gN] at hQ ⊢
        delta p20_l0 p20_r9 p20_r10 p20_r11
        simp (disch := omega) [oLt, oLe, oLtN, oLeN, nLt, nLe, nLtN, nLeN]
        exact hE _ _ _ (.tot [1, 2, 5] (by simp)) hQ
      · simp only [in20, fA, fH, fN, gA, gH, gN] at hQ ⊢
        delta p20_l0 p20_r9 p20_r10 p20_r11
        simp (disch := omega) [oLt, oLe, oLtN, oLeN, nLt, nLe, nLtN, nLeN]
        exact hE _ _ _ (.tot [1, 2, 5, 7] (by simp)) hQ
end Go.Sx.Ch
set_option maxRecDepth 4000
namespace Go.Sx.Ch
open Go Go.Sx Go.Proofs

set_option maxHeartbeats 1000000
def s20 : Sp := spT 20 [.mp] fun (L : List (List Int)) => res (g20 L) (backR L)
@[simp] theorem s20_g : s20.g = 20 := rfl
@[simp] theorem s20_f : s20.f = (spT 20 [.mp] fun (L : List (List Int)) => res (g20 L) (backR L)).f := rfl
theorem s20_ok : s20.ok Tryd.prog := by
  apply spT_ok
  simp only [OkT, Ty.all, List.nil_append, List.cons_append]
  intro (L : List (List Int)) u
  apply okT_res; intro hg
  refine P20.rz (ss := [s45, s64, s66]) ⟨s45_ok, s64_ok, s66_ok, trivial⟩ (by simp) fun Q hQ => ?_
  delta p20 p20_r0 p20_r1 p20_r2 p20_r3 p20_r4 p20_r5
  simp only [g20, Bool.and_eq_true, Bool.or_eq_true, decide_eq_true_eq] at hg
  obtain ⟨hs, hg⟩ := hg
  by_cases hc : chk L = 0
  · have h64 := hg.resolve_left (fun h => h hc)
    obtain ⟨h16, hsc, -⟩ := chk_zero hc
    have hlen : L.length ≤ 10000 := by simp only [smM, Bool.and_eq_true, decide_eq_true_eq] at hs; exact hs.1
    have htot : total L ≤ 10000 := by omega
    have hr : backR L = .tup [.agg [.il (lls (tidyF (revL L) (total L))) (tidyF (revL L) (total L)).length false], vI 0] := by unfold backR; rw [hc, if_pos rfl]; rfl
    have ht : ((total L : Nat) : Int).toNat = total L := Int.toNat_natCast _
    rw [hr] at hQ
    simp (disch := omega) [oLt, oLe, oLtN, oLeN, nLt, nLe, nLtN, nLeN, hs, hc]
    refine XZ_for (fun i : Nat => st20 L u i (revL (L.take i))) (fun i => L.length - i) (fun i => i ≤ L.length) 0 (by simp) (.tot [1, 2] (by simp [st20, revL, fA, fH, fN])) ?_
    intro i hi N Q' hN hE
    rcases Nat.lt_or_ge i L.length with h | h
    · have hic : (i : Int) < L.length := by omega
      obtain ⟨l, r, -, e2, e3, -, e5⟩ := drop_split h
      have hl0 := (scanM_in hsc l e5).1
      have hll : l.length ≤ 10000 := Nat.le_trans (total_mem e5) htot
      have hnext : revL (L.take (i + 1)) = revL (L.take i) ++ [l.reverse] := by rw [List.take_succ_eq_append_getElem h, e3]; simp [revL]
      have hol : (revL (L.take i)).length ≤ 10000 := by simp [revL]; omega
      have fin : ∀ s', ChgT 0 s' (st20 L u ((i + 1 : Nat)) (revL (L.take i) ++ [l.reverse])) → N s' := fun s' hh => hN s' (i + 1) (by omega) h (by rw [hnext]; exact hh)
      have key := @in20_ok L u i (revL (L.take i)) l
      clear hN hnext
      generalize revL (L.take i) = out at *
      have hrl : l.reverse.length = l.length := List.length_reverse
      obtain ⟨f0, fr, hf⟩ : ∃ f0 fr, l.reverse = f0 :: fr := List.exists_cons_of_ne_nil (by intro e; rw [e] at hrl; simp at hrl; omega)
      rw [hf] at fin key hrl
      simp only [List.length_cons] at hrl
      rcases out with _ | ⟨o, orr⟩
      · simp only [st20, fA, fH, fN] at fin ⊢
        delta p20_l1 p20_r6 p20_r7 p20_r8
        simp (disch := omega) [oLt, oLe, oLtN, oLeN, nLt, nLe, nLtN, nLeN, hic, h, e2, e3]
        refine key h e2 hll (.tot [1, 2] (by simp [in20, fA, fH, fN, gA, gH, gN])) ?_
        simp only [inBE, thenE, if_true, in20, fA, fH, fN, gA, gH, gN]
        delta p20_r12 p20_r13
        simp (disch := omega) [oLt, oLe, oLtN, oLeN, nLt, nLe, nLtN, nLeN]
        exact fin _ (.frz 2 (by simp; rfl) (by simp) (.tot [1, 2, 5] (by simp)))
      · simp only [List.length_cons] at hol
        simp only [st20, fA, fH, fN] at fin ⊢
        delta p20_l1 p20_r6 p20_r7 p20_r8
        simp (disch := omega) [oLt, oLe, oLtN, oLeN, nLt, nLe, nLtN, nLeN, hic, h, e2, e3]
        refine key h e2 hll (.tot [1, 2, 5] (by simp [in20, fA, fH, fN, gA, gH, gN])) ?_
        simp only [inBE, thenE, if_true, in20, fA, fH, fN, gA, gH, gN]
        delta p20_r12 p20_r13
        simp (disch := omega) [oLt, oLe, oLtN, oLeN, nLt, nLe, nLtN, nLeN]
        exact fin _ (.frz 3 (by simp; rfl) (by simp) (.tot [1, 2, 5] (by simp)))
    · obtain rfl : i = L.length := by omega
      have hic : ¬ (L.length : Int) < L.length := by omega
      rw [List.take_length]
      have hgen : ∀ G, revL L = G → g64 G (total L) = true ∧ tidyF (revL L) (total L) = tidyF G (total L) := fun G e => by rw [← e]; exact ⟨h64, rfl⟩
      generalize hG : revL L = G at *
      rcases G with _ | ⟨o, orr⟩
      · simp only [st20, fA, fH, fN]
        delta p20_l1 p20_r6 p20_r7 p20_r8
        simp (disch := omega) [oLt, oLe, oLtN, oLeN, nLt, nLe, nLtN, nLeN, hic]
        refine hE _ _ _ .refl ?_
        delta p20_r14
        simp (disch := omega) [oLt, oLe, oLtN, oLeN, nLt, nLe, nLtN, nLeN, hs, h64, ht]
        exact hQ _ _ (.p (.inl rfl) (by simp [Eff.exec]) (by simp))
      · simp only [st20, fA, fH, fN]
        delta p20_l1 p20_r6 p20_r7 p20_r8
        simp (disch := omega) [oLt, oLe, oLtN, oLeN, nLt, nLe, nLtN, nLeN, hic]
        refine hE _ _ _ (.frz 2 (by simp; rfl) (by simp) .refl) ?_
        simp only [inBE, thenE, if_true]
        have hu : unlls (.il (ints o) o.length false :: lls orr) = some (o :: orr) := unlls_lls (o :: orr)
        delta p20_r14
        simp (disch := omega) [oLt, oLe, oLtN, oLeN, nLt, nLe, nLtN, nLeN, frzS, hs, h64, ht, hu]
        exact hQ _ _ (.p (.inl rfl) (by simp [Eff.exec]) (by simp))
  · have hr : backR L = .tup [.agg [.v (.slice none 0 0)], vI (chk L)] := by unfold backR; rw [if_neg hc]; rfl
    obtain ⟨c, hcc⟩ : ∃ c, chk L = c := ⟨_, rfl⟩
    rw [hr, hcc] at hQ
    rw [hcc] at hc
    simp (disch := omega) [oLt, oLe, oLtN, oLeN, nLt, nLe, nLtN, nLeN, hs, hcc, hc]
    exact hQ _ _ (.p (.inl rfl) (by simp [Eff.exec]) (by simp))
end Go.Sx.Ch
