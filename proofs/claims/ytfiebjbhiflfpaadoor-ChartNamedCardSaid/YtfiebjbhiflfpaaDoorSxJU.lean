/- ChartNamed: the map told otherwise is made. No conditions. -/
import Derived.Test.YtfiebjbhiflfpaaDoorSxJS
import Derived.Test.YtfiebjbhiflfpaaDoorSxJT
import Derived.Test.YtfiebjbhiflfpaaDoorSxJI
import Derived.Test.YtfiebjbhiflfpaaDoorSxJJFtoJG
import Derived.Test.YtfiebjbhiflfpaaDoorSxJCEwtoDF
import Derived.Test.YtfiebjbhiflfpaaDoorSxJSttoSd
set_option linter.unusedVariables false
set_option linter.unusedSimpArgs false
set_option maxRecDepth 4000
namespace Go.Sx.Ch
open Go Go.Sx Go.Proofs

theorem XZ_block10 {R : Rsv} {k0 id : Nat} {a : PCode} {s : ST} {Q : Exit → ST → Prop} (h : XZ R k0 a s (inBE id Q)) : XZ R k0 (.block id a) s Q := h
noncomputable abbrev ss10 : List Sp := [s16, s23, s26, s33, s42, s49, s50, s51, s55]
/-- The states of the loop. -/
def en10 (t n i : Nat) : List (Nat × AV) := [(1, .v (.int .u8 t)), (5, .ptr 0 0), (6, .ptr 1 0), (7, vI n), (28, vI n), (29, vI i)]
def st10 (L X : List (List Int)) (t n : Nat) : Nat → ST
  | 0 => ⟨en10 t n 0, [(0, .cells [.il (lls L) n false]), (1, .cells [.v (.slice none 0 0)])], 2⟩
  | i + 1 => ⟨en10 t n (i + 1), [(0, .cells [.il (lls L) n false]), (1, .cells [.ref 2 0 (i + 1) 1 none]), (2, .cells (lls (X.take (i + 1))))], 3⟩
set_option maxHeartbeats 4000000
theorem l0_10 {L X : List (List Int)} {t n : Nat} {s0 : ST} {Q : Exit → ST → Prop} (hn : L.length = n) (h16 : n ≤ 16) (ht : t ≤ 255) (hne : ∀ l ∈ L, l.length ≠ 0) (hl16 : ∀ l ∈ L, l.length ≤ 16) (hX : X.length = n)
    (hg : ∀ i, i < n → X[i]? = some (rt t (L.getD ((i + t) % n) [])))
    (hs0 : ChgT 0 s0 (st10 L X t n 0)) (hq : Q (.exit 0) (st10 L X t n n)) : XZ (rZ (spc ss10)) 0 (.loop p10_l0) s0 Q := by
  refine XZ_for (fun i : Nat => st10 L X t n i) (fun i => n - i) (fun i => i ≤ n) 0 (Nat.zero_le _) hs0 ?_
  intro i hi N Q' hN hE
  rcases Nat.lt_or_ge i n with h | h
  · have hic : (i : Int) < n := by omega
    have hgi := hg i h
    have hm : (i + t) % n < n := Nat.mod_lt _ (by omega)
    have hL : L[(i + t) % n]? = some (L.getD ((i + t) % n) []) := by rw [List.getD_eq_getElem?_getD, List.getElem?_eq_getElem (by omega)]; rfl
    have hlm := List.mem_of_getElem? hL
    have hmod : ((i : Int) + t) % (n : Int) = (((i + t) % n : Nat) : Int) := by simp
    have hnc : ¬ (n : Int) = 0 := by omega
    have hmc : (((i + t) % n : Nat) : Int) < n := by omega
    generalize (i + t) % n = m at *
    generalize hl : L.getD m [] = l at *
    have hl0 := hne l hlm
    have hlb := hl16 l hlm
    have hlc : ¬ (l.length : Int) = 0 := by omega
    have hln : ¬ l = [] := fun e => hl0 (by rw [e]; rfl)
    have hk : t % l.length < l.length := Nat.mod_lt _ (by omega)
    have hkm : (t : Int) % (l.length : Int) = ((t % l.length : Nat) : Int) := by simp
    unfold rt rot at hgi
    have fin := fun s' hh => hN s' (i + 1) (by omega) h hh
    have htk : X.take (i + 1) = X.take i ++ [l.drop (t % l.length) ++ l.take (t % l.length)] := by
      rw [List.take_add_one, hgi]; rfl
    simp only [st10, htk] at fin
    generalize t % l.length = k at *
    have hkc : (k : Int) ≤ l.length := by omega
    have hkc' : k ≤ l.length := by omega
    have hgL : (lls L)[m]? = some (.il (ints l) l.length false) := by simp [hL, eL]
    have hmL : m < (lls L).length := by simp; omega
    have hd0 : l.drop k ≠ [] := fun e => by
      have := congrArg List.length e
      simp at this; omega
    have hsd : small (l.drop k) = true := by simp only [small, decide_eq_true_eq, List.length_drop]; omega
    have hf50 := f50_at (u := false) hd0 hsd
    rw [List.length_drop] at hf50
    have hdl : (l.drop k).length = l.length - k := by simp
    have htl : (l.take k).length = k := by simp; omega
    have hwt : wrapF IntKind.i64 (t : Int) = t := wrapF_i64 (by omega) (by omega)
    have hLr : ∀ f, renL f (lls L) = lls L := fun f => by simp
    have hLf : ∀ id cs, frL id cs (lls L) = lls L := fun id cs => by simp
    have hnn : ¬ n = 0 := by omega
    have hmin : min k l.length = k := by omega
    have htt : ∀ j, (X.take j).take j = X.take j := fun j => by simp [List.take_take]
    clear hN hE hq hs0 hg
    have hdt : (l.drop k).take (l.length - k) = l.drop k := List.take_of_length_le (by simp)
    have hgL' := (List.getElem?_eq_some_iff.1 hgL).2
    rcases i with _ | i
    · simp only [en10] at fin
      simp only [st10, en10]
      have hmodX : (t : Int) % (n : Int) = (m : Int) := by simpa using hmod
      delta p10_l0
      refine XZ_step ?_ (fun N Q_ hN => ?_) ?_
      rotate_left
      · delta p10_r5; simp (disch := omega) [oLt, oLe, oLtN, oLeN, nLt, nLe, nLtN, nLeN, hic]
        exact hN
      refine XZ_step ?_ (fun N Q_ hN => ?_) ?_
      rotate_left
      · simp (disch := omega) [oLt, oLe, oLtN, oLeN, nLt, nLe, nLtN, nLeN]
        exact hN
      refine XZ_seqG (XZ_block10 ?_)
      refine XZ_step ?_ (fun N Q_ hN => ?_) ?_
      rotate_left
      · delta p10_r6; simp (disch := omega) [oLt, oLe, oLtN, oLeN, nLt, nLe, nLtN, nLeN]
        exact hN
      refine XZ_step ?_ (fun N Q_ hN => ?_) ?_
      rotate_left
      · refine XZ_drawG ?_
        delta p10_r7
        refine zD_cut 6 ?_ ?_ (fun K_ hK => ?_) ?_
        rotate_left 2
        · simp only [List.take_succ_cons, List.take_zero]
          simp (disch := omega) [oLt, oLe, oLtN, oLeN, nLt, nLe, nLtN, nLeN, hwt]
          exact hK
        simp only [List.drop_succ_cons, List.drop_zero]
        refine zD_cut 3 ?_ ?_ (fun K_ hK => ?_) ?_
        rotate_left 2
        · simp only [List.take_succ_cons, List.take_zero]
          simp (disch := omega) [oLt, oLe, oLtN, oLeN, nLt, nLe, nLtN, nLeN, hmodX, hnc, hnn, hmc, hgL, hmL]
          exact hK
        simp only [List.drop_succ_cons, List.drop_zero]
        refine zD_cut 2 ?_ ?_ (fun K_ hK => ?_) ?_
        rotate_left 2
        · simp only [List.take_succ_cons, List.take_zero]
          simp (disch := omega) [oLt, oLe, oLtN, oLeN, nLt, nLe, nLtN, nLeN, hgL, hgL', hmL]
          exact hK
        simp only [List.drop_succ_cons, List.drop_zero]
        refine goD_ok (by decide) ?_
        simp (disch := omega) [oLt, oLe, oLtN, oLeN, nLt, nLe, nLtN, nLeN]
        exact hN
      refine XZ_step ?_ (fun N Q_ hN => ?_) ?_
      rotate_left
      · delta p10_r8; simp (disch := omega) [oLt, oLe, oLtN, oLeN, nLt, nLe, nLtN, nLeN, hkm, hlc, hl0, hln, hwt]
        exact hN
      refine XZ_drawG ?_
      delta p10_r9
      refine zD_cut 5 ?_ ?_ (fun K_ hK => ?_) ?_
      rotate_left 2
      · simp only [List.take_succ_cons, List.take_zero]
        simp (disch := omega) [oLt, oLe, oLtN, oLeN, nLt, nLe, nLtN, nLeN, hkc, hdt]
        exact hK
      simp only [List.drop_succ_cons, List.drop_zero]
      refine zD_cut 1 ?_ ?_ (fun K_ hK => ?_) ?_
      rotate_left 2
      · simp only [List.take_succ_cons, List.take_zero]
        simp (disch := omega) [oLt, oLe, oLtN, oLeN, nLt, nLe, nLtN, nLeN, hf50]
        exact hK
      simp only [List.drop_succ_cons, List.drop_zero]
      by_cases hk0 : k = 0
      · subst hk0
        refine zD_cut 4 ?_ ?_ (fun K_ hK => ?_) ?_
        rotate_left 2
        · simp only [List.take_succ_cons, List.take_zero]
          simp (disch := omega) [oLt, oLe, oLtN, oLeN, nLt, nLe, nLtN, nLeN, hl0]
          exact hK
        simp only [List.drop_succ_cons, List.drop_zero]
        refine zD_cut 4 ?_ ?_ (fun K_ hK => ?_) ?_
        rotate_left 2
        · simp only [List.take_succ_cons, List.take_zero]
          simp (disch := omega) [oLt, oLe, oLtN, oLeN, nLt, nLe, nLtN, nLeN]
          exact hK
        simp only [List.drop_succ_cons, List.drop_zero]
        refine goD_ok (by decide) ?_
        simp (disch := omega) [oLt, oLe, oLtN, oLeN, nLt, nLe, nLtN, nLeN]
        delta p10_r10
        simp (disch := omega) [oLt, oLe, oLtN, oLeN, nLt, nLe, nLtN, nLeN]
        have htk1 : (ints l).take l.length = ints l := List.take_of_length_le (by simp)
        have htk2 : True := trivial
        exact fin _ (.frz 27 (cs := ints l) rfl (by simp) (.to [0, 1, 33] (by simp [frzS, eL, htk1, htk2, hmin, htt])))
      · skip
        refine zD_cut 4 ?_ ?_ (fun K_ hK => ?_) ?_
        rotate_left 2
        · simp only [List.take_succ_cons, List.take_zero]
          simp (disch := omega) [oLt, oLe, oLtN, oLeN, nLt, nLe, nLtN, nLeN, hk0, htl, hdl, hkc']
          exact hK
        simp only [List.drop_succ_cons, List.drop_zero]
        refine zD_cut 4 ?_ ?_ (fun K_ hK => ?_) ?_
        rotate_left 2
        · simp only [List.take_succ_cons, List.take_zero]
          simp (disch := omega) [oLt, oLe, oLtN, oLeN, nLt, nLe, nLtN, nLeN]
          exact hK
        simp only [List.drop_succ_cons, List.drop_zero]
        refine goD_ok (by decide) ?_
        simp (disch := omega) [oLt, oLe, oLtN, oLeN, nLt, nLe, nLtN, nLeN]
        delta p10_r10
        simp (disch := omega) [oLt, oLe, oLtN, oLeN, nLt, nLe, nLtN, nLeN]
        have htk1 : l.length - k + k = l.length := by omega
        have htk2 : (ints (l.drop k) ++ ints (l.take k)).take l.length = ints (l.drop k) ++ ints (l.take k) := List.take_of_length_le (by simp; omega)
        rw [hdt]
        exact fin _ (.frz 31 (cs := ints (l.drop k) ++ ints (l.take k)) rfl (by simp) (.to [0, 1, 33] (by simp [frzS, eL, htk1, htk2, hmin, htt])))
    · simp only [en10] at fin
      simp only [st10, en10]
      have hmodX : ((i : Int) + 1 + t) % (n : Int) = (m : Int) := by
        have e : ((i + 1 : Nat) : Int) = (i : Int) + 1 := by omega
        rw [e] at hmod; exact hmod
      delta p10_l0
      refine XZ_step ?_ (fun N Q_ hN => ?_) ?_
      rotate_left
      · delta p10_r5; simp (disch := omega) [oLt, oLe, oLtN, oLeN, nLt, nLe, nLtN, nLeN, hic]
        exact hN
      refine XZ_step ?_ (fun N Q_ hN => ?_) ?_
      rotate_left
      · simp (disch := omega) [oLt, oLe, oLtN, oLeN, nLt, nLe, nLtN, nLeN]
        exact hN
      refine XZ_seqG (XZ_block10 ?_)
      refine XZ_step ?_ (fun N Q_ hN => ?_) ?_
      rotate_left
      · delta p10_r6; simp (disch := omega) [oLt, oLe, oLtN, oLeN, nLt, nLe, nLtN, nLeN]
        exact hN
      refine XZ_step ?_ (fun N Q_ hN => ?_) ?_
      rotate_left
      · refine XZ_drawG ?_
        delta p10_r7
        refine zD_cut 6 ?_ ?_ (fun K_ hK => ?_) ?_
        rotate_left 2
        · simp only [List.take_succ_cons, List.take_zero]
          simp (disch := omega) [oLt, oLe, oLtN, oLeN, nLt, nLe, nLtN, nLeN, hwt]
          exact hK
        simp only [List.drop_succ_cons, List.drop_zero]
        refine zD_cut 3 ?_ ?_ (fun K_ hK => ?_) ?_
        rotate_left 2
        · simp only [List.take_succ_cons, List.take_zero]
          simp (disch := omega) [oLt, oLe, oLtN, oLeN, nLt, nLe, nLtN, nLeN, hmodX, hnc, hnn, hmc, hgL, hmL]
          exact hK
        simp only [List.drop_succ_cons, List.drop_zero]
        refine zD_cut 2 ?_ ?_ (fun K_ hK => ?_) ?_
        rotate_left 2
        · simp only [List.take_succ_cons, List.take_zero]
          simp (disch := omega) [oLt, oLe, oLtN, oLeN, nLt, nLe, nLtN, nLeN, hgL, hgL', hmL]
          exact hK
        simp only [List.drop_succ_cons, List.drop_zero]
        refine goD_ok (by decide) ?_
        simp (disch := omega) [oLt, oLe, oLtN, oLeN, nLt, nLe, nLtN, nLeN]
        exact hN
      refine XZ_step ?_ (fun N Q_ hN => ?_) ?_
      rotate_left
      · delta p10_r8; simp (disch := omega) [oLt, oLe, oLtN, oLeN, nLt, nLe, nLtN, nLeN, hkm, hlc, hl0, hln, hwt]
        exact hN
      refine XZ_drawG ?_
      delta p10_r9
      refine zD_cut 5 ?_ ?_ (fun K_ hK => ?_) ?_
      rotate_left 2
      · simp only [List.take_succ_cons, List.take_zero]
        simp (disch := omega) [oLt, oLe, oLtN, oLeN, nLt, nLe, nLtN, nLeN, hkc, hdt]
        exact hK
      simp only [List.drop_succ_cons, List.drop_zero]
      refine zD_cut 1 ?_ ?_ (fun K_ hK => ?_) ?_
      rotate_left 2
      · simp only [List.take_succ_cons, List.take_zero]
        simp (disch := omega) [oLt, oLe, oLtN, oLeN, nLt, nLe, nLtN, nLeN, hf50]
        exact hK
      simp only [List.drop_succ_cons, List.drop_zero]
      by_cases hk0 : k = 0
      · subst hk0
        refine zD_cut 4 ?_ ?_ (fun K_ hK => ?_) ?_
        rotate_left 2
        · simp only [List.take_succ_cons, List.take_zero]
          simp (disch := omega) [oLt, oLe, oLtN, oLeN, nLt, nLe, nLtN, nLeN, hl0]
          exact hK
        simp only [List.drop_succ_cons, List.drop_zero]
        refine zD_cut 4 ?_ ?_ (fun K_ hK => ?_) ?_
        rotate_left 2
        · simp only [List.take_succ_cons, List.take_zero]
          simp (disch := omega) [oLt, oLe, oLtN, oLeN, nLt, nLe, nLtN, nLeN]
          exact hK
        simp only [List.drop_succ_cons, List.drop_zero]
        refine goD_ok (by decide) ?_
        simp (disch := omega) [oLt, oLe, oLtN, oLeN, nLt, nLe, nLtN, nLeN]
        delta p10_r10
        simp (disch := omega) [oLt, oLe, oLtN, oLeN, nLt, nLe, nLtN, nLeN]
        have htk1 : (ints l).take l.length = ints l := List.take_of_length_le (by simp)
        have htk2 : True := trivial
        exact fin _ (.frz 28 (cs := ints l) rfl (by simp) (.to [0, 1, 34] (by simp [frzS, eL, htk1, htk2, hmin, htt])))
      · skip
        refine zD_cut 4 ?_ ?_ (fun K_ hK => ?_) ?_
        rotate_left 2
        · simp only [List.take_succ_cons, List.take_zero]
          simp (disch := omega) [oLt, oLe, oLtN, oLeN, nLt, nLe, nLtN, nLeN, hk0, htl, hdl, hkc']
          exact hK
        simp only [List.drop_succ_cons, List.drop_zero]
        refine zD_cut 4 ?_ ?_ (fun K_ hK => ?_) ?_
        rotate_left 2
        · simp only [List.take_succ_cons, List.take_zero]
          simp (disch := omega) [oLt, oLe, oLtN, oLeN, nLt, nLe, nLtN, nLeN]
          exact hK
        simp only [List.drop_succ_cons, List.drop_zero]
        refine goD_ok (by decide) ?_
        simp (disch := omega) [oLt, oLe, oLtN, oLeN, nLt, nLe, nLtN, nLeN]
        delta p10_r10
        simp (disch := omega) [oLt, oLe, oLtN, oLeN, nLt, nLe, nLtN, nLeN]
        have htk1 : l.length - k + k = l.length := by omega
        have htk2 : (ints (l.drop k) ++ ints (l.take k)).take l.length = ints (l.drop k) ++ ints (l.take k) := List.take_of_length_le (by simp; omega)
        rw [hdt]
        exact fin _ (.frz 32 (cs := ints (l.drop k) ++ ints (l.take k)) rfl (by simp) (.to [0, 1, 34] (by simp [frzS, eL, htk1, htk2, hmin, htt])))
  · obtain rfl : i = n := by omega
    have hic : ¬ (i : Int) < i := by omega
    clear hN
    rcases i with _ | i
    · unfold st10 en10 at *
      delta p10_l0 p10_r5 p10_r6 p10_r7 p10_r8 p10_r9 p10_r10
      simp (disch := omega) [oLt, oLe, oLtN, oLeN, nLt, nLe, nLtN, nLeN, hic]
      exact hE _ _ _ (.tot [5, 6] (by simp)) hq
    · unfold st10 en10 at *
      delta p10_l0 p10_r5 p10_r6 p10_r7 p10_r8 p10_r9 p10_r10
      simp (disch := omega) [oLt, oLe, oLtN, oLeN, nLt, nLe, nLtN, nLeN, hic]
      exact hE _ _ _ (.to [0, 1, 2] (by simp)) hq
end Go.Sx.Ch
