/- What functions of the chart layer's document return: tidy. No conditions. -/
import Derived.Test.YtfiebjbhiflfpaaDoorSxCS
set_option linter.unusedVariables false
set_option linter.unusedSimpArgs false
set_option maxRecDepth 4000
namespace Go.Sx.Ch
open Go Go.Sx Go.Proofs

theorem bstN_le (l : List Int) : bstN l l.length ≤ l.length := by
  cases h : l.length with
  | zero => simp [bstN]
  | succ m => have := bstN_lt l m; omega
theorem leastF_len (l : List Int) : (leastF l).length = l.length := by
  have := bstN_le l
  simp [leastF]; omega
/-- One list, where it begins with e when it is told from its smallest number on. -/
def tidI (e : Nat) (acc : List (List Int)) (l : List Int) : List (List Int) := if ¬ l.length = 0 ∧ (leastF l).getD 0 0 = e then acc ++ [leastF l] else acc
def tidE (G : List (List Int)) (acc : List (List Int)) (e : Nat) : List (List Int) := G.foldl (tidI e) acc
def tidyF (G : List (List Int)) (n : Nat) : List (List Int) := (List.range n).foldl (tidE G) []
theorem tidE_len (e : Nat) : ∀ (G acc : List (List Int)), (G.foldl (tidI e) acc).length ≤ acc.length + G.length
  | [], acc => by simp
  | l :: G, acc => by
    simp only [List.foldl_cons]
    have h1 := tidE_len e G (tidI e acc l)
    have h2 : (tidI e acc l).length ≤ acc.length + 1 := by unfold tidI; split <;> simp
    simp only [List.length_cons]; omega
theorem tidyF_succ (G : List (List Int)) (n : Nat) : tidyF G (n + 1) = tidE G (tidyF G n) n := by simp [tidyF, List.range_succ, List.foldl_append]
theorem tidyF_len (G : List (List Int)) (n : Nat) : (tidyF G n).length ≤ n * G.length := by
  induction n with
  | zero => simp [tidyF]
  | succ n ih =>
    rw [tidyF_succ]
    have := tidE_len n G (tidyF G n)
    unfold tidE
    rw [Nat.succ_mul]; omega
def g64 (G : List (List Int)) (n : Int) : Bool := smM G && within 0 n 1000
/-- The states of the walk. -/
def st64 (G : List (List Int)) (n : Int) (e : Nat) (out : List (List Int)) : ST :=
  ⟨[(0, .il (lls G) G.length false), (1, vI n), (4, .ptr 0 0), (5, .ptr 1 0), (6, vI e)], (0, .cells [.v (.slice none 0 0)]) :: (1, .cells [fA 2 out]) :: fH 2 out, 2 + fN out⟩
def in64 (G : List (List Int)) (n : Int) (e i : Nat) (out : List (List Int)) : ST :=
  ⟨[(0, .il (lls G) G.length false), (1, vI n), (4, .ptr 0 0), (5, .ptr 1 0), (6, vI e), (7, vI i)], (0, .cells [.v (.slice none 0 0)]) :: (1, .cells [fA 2 out]) :: fH 2 out, 2 + fN out⟩
set_option maxHeartbeats 1000000
def s64 : Sp := spT 64 [.ll, .i] fun (G : List (List Int)) (n : Int) => res (g64 G n) (.agg [.il (lls (tidyF G n.toNat)) (tidyF G n.toNat).length false])
@[simp] theorem s64_g : s64.g = 64 := rfl
@[simp] theorem s64_f : s64.f = (spT 64 [.ll, .i] fun (G : List (List Int)) (n : Int) => res (g64 G n) (.agg [.il (lls (tidyF G n.toNat)) (tidyF G n.toNat).length false])).f := rfl
theorem s64_ok : s64.ok Tryd.prog := by
  apply spT_ok
  simp only [OkT, Ty.all, List.nil_append, List.cons_append]
  intro (G : List (List Int)) u (n : Int)
  apply okT_res; intro hg
  refine P64.rz (ss := [s96]) ⟨s96_ok, trivial⟩ (by simp) fun Q hQ => ?_
  simp only [g64, Bool.and_eq_true, within_iff] at hg
  obtain ⟨hs, hn0, hn1⟩ := hg
  obtain ⟨n, rfl⟩ := Int.eq_ofNat_of_zero_le hn0
  have hlen : G.length ≤ 10000 := by simp only [smM, Bool.and_eq_true, decide_eq_true_eq] at hs; exact hs.1
  rw [Int.toNat_natCast] at hQ
  delta p64 p64_r0 p64_r1 p64_r2
  simp (disch := omega) [oLt, oLe, oLtN, oLeN, nLt, nLe, nLtN, nLeN]
  refine XZ_for (fun e : Nat => ⟨[(0, .il (lls G) G.length u), (1, vI n), (4, .ptr 0 0), (5, .ptr 1 0), (6, vI e)], (0, .cells [.v (.slice none 0 0)]) :: (1, .cells [fA 2 (tidyF G e)]) :: fH 2 (tidyF G e), 2 + fN (tidyF G e)⟩) (fun e => n - e) (fun e => e ≤ n) 0 (by simp) (.tot [4, 5] (by simp [tidyF, fA, fH, fN])) ?_
  intro e he N Q' hN hE
  have hol : (tidyF G e).length ≤ 10000000 := by
    have := tidyF_len G e
    have h2 : e * G.length ≤ 1000 * 10000 := Nat.mul_le_mul (by omega) hlen
    omega
  rcases Nat.lt_or_ge e n with h | h
  · have hec : (e : Int) < n := by omega
    have hnext := tidyF_succ G e
    have fin : ∀ s', ChgT 0 s' ⟨[(0, .il (lls G) G.length u), (1, vI n), (4, .ptr 0 0), (5, .ptr 1 0), (6, vI ((e + 1 : Nat) : Int))], (0, .cells [.v (.slice none 0 0)]) :: (1, .cells [fA 2 (tidE G (tidyF G e) e)]) :: fH 2 (tidE G (tidyF G e) e), 2 + fN (tidE G (tidyF G e) e)⟩ → N s' := fun s' hh => hN s' (e + 1) (by omega) h (by rw [hnext]; exact hh)
    clear hN hnext
    generalize tidyF G e = out0 at *
    have inner : ∀ (s0 : ST) (Q2 : Exit → ST → Prop), ChgT 0 s0 ⟨[(0, .il (lls G) G.length u), (1, vI n), (4, .ptr 0 0), (5, .ptr 1 0), (6, vI e), (7, vI ((0 : Nat) : Int))], (0, .cells [.v (.slice none 0 0)]) :: (1, .cells [fA 2 out0]) :: fH 2 out0, 2 + fN out0⟩ →
        Q2 (.exit 2) ⟨[(0, .il (lls G) G.length u), (1, vI n), (4, .ptr 0 0), (5, .ptr 1 0), (6, vI e)], (0, .cells [.v (.slice none 0 0)]) :: (1, .cells [fA 2 (tidE G out0 e)]) :: fH 2 (tidE G out0 e), 2 + fN (tidE G out0 e)⟩ → XZ (rZ (spc [s96])) 0 (.loop p64_l0) s0 Q2 := by
      intro s0 Q2 hs0 hq
      refine XZ_for (fun i : Nat => ⟨[(0, .il (lls G) G.length u), (1, vI n), (4, .ptr 0 0), (5, .ptr 1 0), (6, vI e), (7, vI i)], (0, .cells [.v (.slice none 0 0)]) :: (1, .cells [fA 2 (tidE (G.take i) out0 e)]) :: fH 2 (tidE (G.take i) out0 e), 2 + fN (tidE (G.take i) out0 e)⟩) (fun i => G.length - i) (fun i => i ≤ G.length) 0 (by simp) (by simpa [tidE] using hs0) ?_
      intro i hi N2 Q3 hN2 hE2
      rcases Nat.lt_or_ge i G.length with h1 | h1
      · have hic : (i : Int) < G.length := by omega
        obtain ⟨l, r, -, e2, e3, -, e5⟩ := drop_split h1
        have hnext : tidE (G.take (i + 1)) out0 e = tidI e (tidE (G.take i) out0 e) l := by
          rw [List.take_succ_eq_append_getElem h1, e3]; simp [tidE, List.foldl_append]
        have hbl : (tidE (G.take i) out0 e).length ≤ 20000000 := by
          have := tidE_len e (G.take i) out0
          simp only [List.length_take] at this
          unfold tidE; omega
        have hsl := smM_small hs e5
        have fin2 : ∀ s', ChgT 0 s' ⟨[(0, .il (lls G) G.length u), (1, vI n), (4, .ptr 0 0), (5, .ptr 1 0), (6, vI e), (7, vI ((i + 1 : Nat) : Int))], (0, .cells [.v (.slice none 0 0)]) :: (1, .cells [fA 2 (tidI e (tidE (G.take i) out0 e) l)]) :: fH 2 (tidI e (tidE (G.take i) out0 e) l), 2 + fN (tidI e (tidE (G.take i) out0 e) l)⟩ → N2 s' := fun s' hh => hN2 s' (i + 1) (by omega) h1 (by rw [hnext]; exact hh)
        clear hN2 hnext
        generalize tidE (G.take i) out0 e = out at *
        unfold tidI at fin2
        by_cases hl0 : l = []
        · subst hl0
          rw [if_neg (by simp)] at fin2
          rcases out with _ | ⟨o, orr⟩
          · simp only [fA, fH, fN] at fin2 ⊢
            delta p64_l0 p64_r5 p64_r6 p64_r7 p64_r8
            simp (disch := omega) [oLt, oLe, oLtN, oLeN, nLt, nLe, nLtN, nLeN, hic, h1, e2, e3]
            exact fin2 _ (.tot [4, 5] (by simp))
          · simp only [fA, fH, fN] at fin2 ⊢
            delta p64_l0 p64_r5 p64_r6 p64_r7 p64_r8
            simp (disch := omega) [oLt, oLe, oLtN, oLeN, nLt, nLe, nLtN, nLeN, hic, h1, e2, e3]
            exact fin2 _ (.to [0, 1, 2] (by simp))
        · have hlp : 0 < l.length := List.length_pos_iff.2 hl0
          have hlc : (0 : Int) < l.length := by omega
          have hln : ¬ l.length = 0 := by omega
          have hfl := leastF_len l
          obtain ⟨f, hf⟩ : ∃ f, leastF l = f := ⟨_, rfl⟩
          rw [hf] at hfl fin2
          obtain ⟨w, hw⟩ : ∃ w, f[0]? = some w := ⟨f[0], by rw [List.getElem?_eq_getElem]⟩
          have hw' := (List.getElem?_eq_some_iff.1 hw).2
          have hwd : f.getD 0 0 = w := by rw [List.getD_eq_getElem?_getD, hw]; rfl
          rw [hwd] at fin2
          have hfp : 0 < f.length := by omega
          have hfc : (0 : Int) < f.length := by omega
          by_cases hwe : w = e
          · rw [if_pos ⟨hln, hwe⟩] at fin2
            rcases out with _ | ⟨o, orr⟩
            · simp only [fA, fH, fN, List.nil_append] at fin2 ⊢
              delta p64_l0 p64_r5 p64_r6 p64_r7 p64_r8
              simp (disch := omega) [oLt, oLe, oLtN, oLeN, nLt, nLe, nLtN, nLeN, hic, h1, e2, e3, hl0, hlc, hlp, hsl, hf, hw, hw', hwe, hfp]
              exact fin2 _ (.to [0, 1, 29] (by simp))
            · simp only [List.length_cons] at hbl
              simp only [fA, fH, fN, List.cons_append] at fin2 ⊢
              delta p64_l0 p64_r5 p64_r6 p64_r7 p64_r8
              simp (disch := omega) [oLt, oLe, oLtN, oLeN, nLt, nLe, nLtN, nLeN, hic, h1, e2, e3, hl0, hlc, hlp, hsl, hf, hw, hw', hwe, hfp]
              exact fin2 _ (.to [0, 1, 30] (by simp))
          · rw [if_neg (fun hh => hwe hh.2)] at fin2
            rcases out with _ | ⟨o, orr⟩
            · simp only [fA, fH, fN] at fin2 ⊢
              delta p64_l0 p64_r5 p64_r6 p64_r7 p64_r8
              simp (disch := omega) [oLt, oLe, oLtN, oLeN, nLt, nLe, nLtN, nLeN, hic, h1, e2, e3, hl0, hlc, hlp, hsl, hf, hw, hw', hwe, hfp]
              exact fin2 _ (.tot [4, 5] (by simp))
            · simp only [fA, fH, fN] at fin2 ⊢
              delta p64_l0 p64_r5 p64_r6 p64_r7 p64_r8
              simp (disch := omega) [oLt, oLe, oLtN, oLeN, nLt, nLe, nLtN, nLeN, hic, h1, e2, e3, hl0, hlc, hlp, hsl, hf, hw, hw', hwe, hfp]
              exact fin2 _ (.to [0, 1, 2] (by simp))
      · obtain rfl : i = G.length := by omega
        have hic : ¬ (G.length : Int) < G.length := by omega
        rw [List.take_length]
        generalize tidE G out0 e = out at *
        rcases out with _ | ⟨o, orr⟩
        · simp only [fA, fH, fN] at hq ⊢
          delta p64_l0 p64_r5 p64_r6 p64_r7 p64_r8
          simp (disch := omega) [oLt, oLe, oLtN, oLeN, nLt, nLe, nLtN, nLeN, hic]
          exact hE2 _ _ _ (.tot [4, 5] (by simp)) hq
        · simp only [fA, fH, fN] at hq ⊢
          delta p64_l0 p64_r5 p64_r6 p64_r7 p64_r8
          simp (disch := omega) [oLt, oLe, oLtN, oLeN, nLt, nLe, nLtN, nLeN, hic]
          exact hE2 _ _ _ (.to [0, 1, 2] (by simp)) hq
    have last : ∀ s0 : ST, ChgT 0 s0 ⟨[(0, .il (lls G) G.length u), (1, vI n), (4, .ptr 0 0), (5, .ptr 1 0), (6, vI e), (7, vI ((0 : Nat) : Int))], (0, .cells [.v (.slice none 0 0)]) :: (1, .cells [fA 2 out0]) :: fH 2 out0, 2 + fN out0⟩ →
        XZ (rZ (spc [s96])) 0 (.loop p64_l0) s0 (inBE 2 (inBE 1 (thenE (fun s' => XZ (rZ (spc [s96])) 0 (.reg p64_r9 [0, 1, 4, 5, 6]) s' (thenE N Q')) (thenE N Q')))) := by
      intro s0 hs0
      refine inner _ _ hs0 ?_
      clear inner
      simp only [inBE, thenE, if_true]
      generalize tidE G out0 e = out1 at *
      rcases out1 with _ | ⟨o1, or1⟩
      · simp only [fA, fH, fN] at fin ⊢
        delta p64_r9
        simp (disch := omega) [oLt, oLe, oLtN, oLeN, nLt, nLe, nLtN, nLeN]
        exact fin _ (.tot [4, 5] (by simp))
      · simp only [fA, fH, fN] at fin ⊢
        delta p64_r9
        simp (disch := omega) [oLt, oLe, oLtN, oLeN, nLt, nLe, nLtN, nLeN]
        exact fin _ (.to [0, 1, 2] (by simp))
    clear inner
    rcases out0 with _ | ⟨o, orr⟩
    · simp only [fA, fH, fN] at last ⊢
      delta p64_l1 p64_r3 p64_r4
      simp (disch := omega) [oLt, oLe, oLtN, oLeN, nLt, nLe, nLtN, nLeN, hec]
      exact last _ (.tot [4, 5] (by simp))
    · simp only [fA, fH, fN] at last ⊢
      delta p64_l1 p64_r3 p64_r4
      simp (disch := omega) [oLt, oLe, oLtN, oLeN, nLt, nLe, nLtN, nLeN, hec]
      exact last _ (.to [0, 1, 2] (by simp))
  · obtain rfl : e = n := by omega
    have hec : ¬ (e : Int) < e := by omega
    generalize tidyF G e = out at *
    rcases out with _ | ⟨o, orr⟩
    · simp only [fA, fH, fN]
      delta p64_l1 p64_r3 p64_r4
      simp (disch := omega) [oLt, oLe, oLtN, oLeN, nLt, nLe, nLtN, nLeN, hec]
      refine hE _ _ _ .refl ?_
      delta p64_r10
      simp (disch := omega) [oLt, oLe, oLtN, oLeN, nLt, nLe, nLtN, nLeN]
      refine hQ _ _ (.chg (.weak (s' := ⟨[(4, .ptr 0 0)], [(0, .cells [.il [] 0 false]), (1, .cells [.v (.slice none 0 0)])], 7⟩) ⟨rfl, .refl, trivial⟩ ⟨rfl, ⟨rfl, fun i x y hx hy => ?_⟩, rfl, .refl, trivial⟩ rfl .refl) (.p (.inl rfl) (by simp [Eff.exec]) (by simp)))
      cases i with
      | zero => simp at hx hy; subst hx hy; exact .nil
      | succ i => simp at hx
    · simp only [fA, fH, fN]
      delta p64_l1 p64_r3 p64_r4
      simp (disch := omega) [oLt, oLe, oLtN, oLeN, nLt, nLe, nLtN, nLeN, hec]
      refine hE _ _ _ (.frz 2 (by simp; rfl) (by simp) .refl) ?_
      simp only [inBE, thenE, if_true]
      delta p64_r10
      simp (disch := omega) [oLt, oLe, oLtN, oLeN, nLt, nLe, nLtN, nLeN, frzS]
      exact hQ _ _ (.p (.inl rfl) (by simp [Eff.exec]) (by simp))
end Go.Sx.Ch
