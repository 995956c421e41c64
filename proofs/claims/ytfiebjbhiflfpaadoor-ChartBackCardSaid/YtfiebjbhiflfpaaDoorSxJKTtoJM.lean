/- ChartBack: the loops. No conditions. -/
import Derived.Test.YtfiebjbhiflfpaaDoorSxJCOtoKR
import Derived.Test.YtfiebjbhiflfpaaDoorSxKS
import Derived.Test.YtfiebjbhiflfpaaDoorSxJJYktoJI
import Derived.Test.YtfiebjbhiflfpaaDoorSxPCm
import Derived.Test.YtfiebjbhiflfpaaDoorSxJJAtoKI
set_option linter.unusedVariables false
set_option linter.unusedSimpArgs false
namespace Go.Sx.Ch
open Go Go.Sx Go.Proofs
section
set_option maxRecDepth 4000
noncomputable def q13 : PCode := (.seq (.reg p13_r2 [3, 4]) (.seq (.seq (.reg p13_r3 [3, 4, 24, 25, 26]) (.block 0 (.loop p13_l0))) (.seq (.reg p13_r10 [3, 4, 8, 9]) (.seq (.seq (.draw p13_r11 [[], [0], [1, 0], [2, 1, 0], [3, 2, 1, 0], [2, 1, 0], [5, 2, 1, 0], [4, 6, 3, 5, 2, 1, 0], [7, 4, 6, 3, 5, 2, 1, 0], [8, 7, 4, 6, 3, 5, 2, 1, 0]] [3, 8, 55]) (.cond (Operand.tmp 55) (.seq (.reg p13_r12 [2]) .ret) .skip)) (.seq (.reg p13_r13 [3, 8, 9, 10]) (.seq (.reg p13_r14 [3, 8, 9, 10, 11, 12]) (.seq (.reg p13_r15 [3, 9, 10, 11, 12, 13, 14]) (.seq (.seq (.draw p13_r16 [[], [0], [1, 0], [2, 1, 0], [3, 2, 1, 0], [4, 3, 2, 1, 0], [5, 4, 3, 2, 1, 0], [6, 5, 4, 3, 2, 1, 0], [7, 6, 5, 4, 3, 2, 1, 0], [8, 7, 6, 5, 4, 3, 2, 1, 0], [9, 8, 7, 6, 5, 4, 3, 2, 1, 0], [10, 9, 8, 7, 6, 5, 4, 3, 2, 1, 0], [11, 10, 9, 8, 7, 6, 5, 4, 3, 2, 1, 0], [10, 9, 8, 7, 6, 5, 4, 3, 2, 1, 0], [13, 10, 9, 8, 7, 6, 5, 4, 3, 2, 1, 0], [12, 14, 11, 13, 10, 9, 8, 7, 6, 5, 4, 3, 2, 1, 0], [15, 12, 14, 11, 13, 10, 9, 8, 7, 6, 5, 4, 3, 2, 1, 0], [16, 15, 12, 14, 11, 13, 10, 9, 8, 7, 6, 5, 4, 3, 2, 1, 0], [17, 16, 15, 12, 14, 11, 13, 10, 9, 8, 7, 6, 5, 4, 3, 2, 1, 0], [18, 17, 16, 15, 12, 14, 11, 13, 10, 9, 8, 7, 6, 5, 4, 3, 2, 1, 0], [18, 17, 16, 15, 12, 14, 11, 13, 10, 9, 8, 7, 6, 5, 4, 3, 2, 1, 0], [20, 18, 17, 16, 15, 12, 14, 11, 13, 10, 9, 8, 7, 6, 5, 4, 3, 2, 1, 0], [19, 21, 20, 18, 17, 16, 15, 12, 14, 11, 13, 10, 9, 8, 7, 6, 5, 4, 3, 2, 1, 0], [22, 19, 21, 20, 18, 17, 16, 15, 12, 14, 11, 13, 10, 9, 8, 7, 6, 5, 4, 3, 2, 1, 0]] [3, 11, 94]) (.cond (Operand.tmp 94) (.seq (.reg p13_r17 [2]) .ret) .skip)) (.seq (.reg p13_r18 [3, 11, 15]) (.seq (.seq (.reg p13_r19 [11, 15, 96, 97, 98]) (.block 2 (.loop p13_l2))) (.seq (.reg p13_r31 [11, 15]) (.seq (.reg p13_r32 [2]) .ret))))))))))))
noncomputable def p1013 : PCode := .seq (.reg p13_r0 [1]) (.seqC (.reg p13_r1 [3]) q13)
theorem P1013s : strip p1013 = p13 := by kernel_rfl
attribute [local simp] evCall reach idsB idsL ids Go.Sx.inA Go.Sx.inL Go.Sx.inM inB allHp enumH gl renB
noncomputable abbrev ss13 : List Sp := [s16, s19, s23, s33, s37, s49, s50, s53, s56, s57, s60, s61, s62a]
theorem f60_at {l : List Int} (h0 : l ≠ []) (h : l.length ≤ 1000) : f60 [.ref 0 0 l.length 1 none] [(0, .cells (ints l))] 1 = some (.tup [], [(0, .cells (ints l.reverse))], 1) := by
  simp only [f60, unints_ints]
  rw [if_pos ⟨trivial, List.length_pos_iff.2 h0, h⟩]
theorem f60_fz {c : List AV} {n : Nat} {u : Bool} {h : HL} {k : Nat} : f60 [.il c n u] h k = none := rfl
def st13 (L : List (List Int)) (i : Nat) (out : List (List Int)) : ST :=
  ⟨[(3, .ptr 0 0), (4, .ptr 1 0), (24, .il (lls L) L.length false), (25, vI L.length), (26, vI i)], (0, .cells [.il (lls L) L.length false]) :: (1, .cells [fA 2 out]) :: fH 2 out, 2 + fN out⟩
def ex13 (L W : List (List Int)) : ST := ⟨[(3, .ptr 0 0), (4, .ptr 1 0)], [(0, .cells [.il (lls L) L.length false]), (1, .cells [.il (lls W) W.length false])], 2⟩
set_option maxHeartbeats 8000000
theorem l0_13 {L : List (List Int)} {s0 : ST} {Q : Exit → ST → Prop} (hL16 : L.length ≤ 16) (hl16 : ∀ l ∈ L, l.length ≤ 16) (hne : ∀ l ∈ L, l.length ≠ 0)
    (hs0 : ChgT 0 s0 (st13 L 0 [])) (hq : Q (.exit 0) (ex13 L (revL L))) : XZ (rZ (spc ss13)) 0 (.loop p13_l0) s0 Q := by
  refine XZ_for (fun i : Nat => st13 L i (revL (L.take i))) (fun i => L.length - i) (fun i => i ≤ L.length) 0 (Nat.zero_le _) (by simpa [revL] using hs0) ?_
  intro i hi N Q' hN hE
  have hwl : (revL (L.take i)).length ≤ 16 := by simp [revL]; omega
  rcases Nat.lt_or_ge i L.length with h1 | h1
  · have hic : (i : Int) < L.length := by omega
    obtain ⟨l, r, -, e2, e3, -, e5⟩ := drop_split h1
    have hll := hl16 l e5
    have hl0 := hne l e5
    have hln : l ≠ [] := fun e => hl0 (by rw [e]; rfl)
    have hnext : revL (L.take (i + 1)) = revL (L.take i) ++ [l.reverse] := by
      unfold revL; rw [List.take_succ_eq_append_getElem h1, List.map_append, e3]; rfl
    have fin : ∀ s', ChgT 0 s' (st13 L (i + 1 : Nat) (revL (L.take i) ++ [l.reverse])) → N s' := fun s' hh => hN s' (i + 1) (by omega) h1 (by rw [hnext]; exact hh)
    have hsl : small l = true := by simp only [small, decide_eq_true_eq]; omega
    have hf50 : ∀ u, f50 [.il (ints l) l.length u] [] 0 = some (.ref 0 0 l.length 1 none, [(0, .cells (ints l))], 1) := fun u => f50_at (u := u) hln hsl
    have hf60 := f60_at hln (by omega)
    have hrl : l.reverse.length = l.length := List.length_reverse
    have htk : (ints l.reverse).take l.length = ints l.reverse := List.take_of_length_le (by simp)
    have htk0 : (ints l).take l.length = ints l := List.take_of_length_le (by simp)
    clear hN hE hnext hq hs0
    generalize revL (L.take i) = out at *
    obtain ⟨k, hk⟩ : ∃ k, l.reverse = k := ⟨_, rfl⟩
    rw [hk] at fin hf60 hrl htk
    rcases out with _ | ⟨o, orr⟩
    · simp only [st13, fA, fH, fN] at fin ⊢
      delta p13_l0 p13_r4 p13_r5 p13_r6 p13_r7 p13_r8 p13_r9
      simp (disch := omega) [oLt, oLe, oLtN, oLeN, nLt, nLe, nLtN, nLeN, hic, h1, e2, e3, hf50, hf60, f60_fz, hl0, htk0]
      exact fin _ (.frz 7 (cs := ints k) rfl (by simp) (.to [0, 1, 14] (by simp [frzS, eL, hrl, htk])))
    · simp only [List.length_cons] at hwl
      simp only [st13, fA, fH, fN, List.cons_append] at fin ⊢
      delta p13_l0 p13_r4 p13_r5 p13_r6 p13_r7 p13_r8 p13_r9
      simp (disch := omega) [oLt, oLe, oLtN, oLeN, nLt, nLe, nLtN, nLeN, hic, h1, e2, e3, hf50, hf60, f60_fz, hl0, htk0]
      exact fin _ (.frz 8 (cs := ints k) rfl (by simp) (.to [0, 1, 15] (by simp [frzS, eL, hrl, htk])))
  · obtain rfl : i = L.length := by omega
    have hic : ¬ (L.length : Int) < L.length := by omega
    rw [List.take_length]
    clear hN hwl
    generalize revL L = W at *
    rcases W with _ | ⟨w0, wr⟩
    · simp only [st13, fA, fH, fN]
      delta p13_l0 p13_r4 p13_r5 p13_r6 p13_r7 p13_r8 p13_r9
      simp (disch := omega) [oLt, oLe, oLtN, oLeN, nLt, nLe, nLtN, nLeN, hic]
      refine hE _ _ (ex13 L []) (.trans (b := ⟨[(3, .ptr 0 0), (4, .ptr 1 0)], [(0, .cells [.il (lls L) L.length false]), (1, .cells [.v (.slice none 0 0)])], 2⟩) (.to [0, 1] (by simp)) (.weak (s' := ex13 L []) ⟨rfl, .refl, rfl, .refl, trivial⟩ ⟨rfl, WkB.refl, rfl, ⟨rfl, fun i u v hu hv => by
        cases i with
        | zero => cases hu; cases hv; exact .nil
        | succ i => simp at hu⟩, trivial⟩ rfl .refl)) hq
    · simp only [st13, fA, fH, fN]
      delta p13_l0 p13_r4 p13_r5 p13_r6 p13_r7 p13_r8 p13_r9
      simp (disch := omega) [oLt, oLe, oLtN, oLeN, nLt, nLe, nLtN, nLeN, hic]
      have htk : (lls (w0 :: wr)).take (wr.length + 1) = lls (w0 :: wr) := List.take_of_length_le (by simp)
      exact hE _ _ (ex13 L (w0 :: wr)) (.frz 2 (cs := lls (w0 :: wr)) rfl (by simp) (.to [0, 1] (by simp [frzS, ex13, htk]))) hq
/-! ### The faces by the other ends -/
def st13b (F G : List (List Int)) (i : Nat) (out : List (List Int)) : ST :=
  ⟨[(11, .il (lls G) G.length false), (15, fA 0 out), (96, .il (lls F) F.length false), (97, vI F.length), (98, vI i)], fH 0 out, fN out⟩
def in13b (F G : List (List Int)) (i : Nat) (out : List (List Int)) (l : List Int) (k : Nat) (acc : List Int) : ST :=
  ⟨[(11, .il (lls G) G.length false), (15, fA 0 out), (18, gA (fN out) acc), (96, .il (lls F) F.length false), (97, vI F.length), (98, vI i), (102, .il (ints l) l.length false), (103, vI l.length), (104, vI k)], fH 0 out ++ gH (fN out) acc, fN out + gN acc⟩
theorem l1_13 {F G : List (List Int)} {i : Nat} {out : List (List Int)} {l : List Int} {s0 : ST} {Q : Exit → ST → Prop} (hl16 : l.length ≤ 16) (hin : ∀ e ∈ l, 0 ≤ e ∧ e < 16)
    (hs0 : ChgT 0 s0 (in13b F G i out l 0 [])) (hq : Q (.exit 4) (in13b F G i out l l.length (l.map oI))) : XZ (rZ (spc ss13)) 0 (.loop p13_l1) s0 Q := by
  refine XZ_for (fun k : Nat => in13b F G i out l k ((l.take k).map oI)) (fun k => l.length - k) (fun k => k ≤ l.length) 0 (Nat.zero_le _) (by simpa using hs0) ?_
  intro k hk N Q' hN hE
  rcases Nat.lt_or_ge k l.length with h1 | h1
  · have hkc : (k : Int) < l.length := by omega
    obtain ⟨e, r, -, e2, e3, -, e5⟩ := drop_split h1
    obtain ⟨b0, b1⟩ := hin e e5
    obtain ⟨m, rfl⟩ := Int.eq_ofNat_of_zero_le b0
    have hnext : (l.take (k + 1)).map oI = (l.take k).map oI ++ [((onat m : Nat) : Int)] := by rw [List.take_succ_eq_append_getElem h1, e3, List.map_append, List.map_cons, oI_nat]; rfl
    have hal : ((l.take k).map oI).length ≤ 16 := by simp; omega
    have fin : ∀ s', ChgT 0 s' (in13b F G i out l (k + 1 : Nat) ((l.take k).map oI ++ [((onat m : Nat) : Int)])) → N s' := fun s' hh => hN s' (k + 1) (by omega) h1 (by rw [hnext]; exact hh)
    have hxo := fun x y => xor64 x y (show m < 16 by omega)
    clear hN hnext hE hq hs0
    generalize (l.take k).map oI = acc at *
    generalize onat m = w at *
    rcases out with _ | ⟨o, orr⟩
    · rcases acc with _ | ⟨a, ar⟩
      · simp only [in13b, fA, fH, fN, gA, gH, gN, List.nil_append] at fin ⊢
        delta p13_l1 p13_r24 p13_r25 p13_r26 p13_r27
        simp (disch := omega) [oLt, oLe, oLtN, oLeN, nLt, nLe, nLtN, nLeN, hkc, h1, e2, e3, hxo]
        exact fin _ (.tot [18] (by simp))
      · simp only [List.length_cons] at hal
        simp only [in13b, fA, fH, fN, gA, gH, gN, List.cons_append] at fin ⊢
        delta p13_l1 p13_r24 p13_r25 p13_r26 p13_r27
        simp (disch := omega) [oLt, oLe, oLtN, oLeN, nLt, nLe, nLtN, nLeN, hkc, h1, e2, e3, hxo]
        exact fin _ (.tot [18] (by simp))
    · rcases acc with _ | ⟨a, ar⟩
      · simp only [in13b, fA, fH, fN, gA, gH, gN, List.nil_append] at fin ⊢
        delta p13_l1 p13_r24 p13_r25 p13_r26 p13_r27
        simp (disch := omega) [oLt, oLe, oLtN, oLeN, nLt, nLe, nLtN, nLeN, hkc, h1, e2, e3, hxo]
        exact fin _ (.tot [15, 18] (by simp))
      · simp only [List.length_cons] at hal
        simp only [in13b, fA, fH, fN, gA, gH, gN, List.cons_append] at fin ⊢
        delta p13_l1 p13_r24 p13_r25 p13_r26 p13_r27
        simp (disch := omega) [oLt, oLe, oLtN, oLeN, nLt, nLe, nLtN, nLeN, hkc, h1, e2, e3, hxo]
        exact fin _ (.tot [15, 18] (by simp))
  · obtain rfl : k = l.length := by omega
    have hkc : ¬ (l.length : Int) < l.length := by omega
    rw [List.take_length]
    clear hN
    generalize l.map oI = acc at *
    rcases out with _ | ⟨o, orr⟩ <;> rcases acc with _ | ⟨a, ar⟩
    · simp only [in13b, fA, fH, fN, gA, gH, gN]
      delta p13_l1 p13_r24 p13_r25 p13_r26 p13_r27
      simp (disch := omega) [oLt, oLe, oLtN, oLeN, nLt, nLe, nLtN, nLeN, hkc]
      exact hE _ _ _ (.tot [] (by simp [in13b, fA, fH, fN, gA, gH, gN])) hq
    · simp only [in13b, fA, fH, fN, gA, gH, gN]
      delta p13_l1 p13_r24 p13_r25 p13_r26 p13_r27
      simp (disch := omega) [oLt, oLe, oLtN, oLeN, nLt, nLe, nLtN, nLeN, hkc]
      exact hE _ _ _ (.tot [18] (by simp [in13b, fA, fH, fN, gA, gH, gN])) hq
    · simp only [in13b, fA, fH, fN, gA, gH, gN]
      delta p13_l1 p13_r24 p13_r25 p13_r26 p13_r27
      simp (disch := omega) [oLt, oLe, oLtN, oLeN, nLt, nLe, nLtN, nLeN, hkc]
      exact hE _ _ _ (.tot [15] (by simp [in13b, fA, fH, fN, gA, gH, gN])) hq
    · simp only [in13b, fA, fH, fN, gA, gH, gN]
      delta p13_l1 p13_r24 p13_r25 p13_r26 p13_r27
      simp (disch := omega) [oLt, oLe, oLtN, oLeN, nLt, nLe, nLtN, nLeN, hkc]
      exact hE _ _ _ (.tot [15, 18] (by simp [in13b, fA, fH, fN, gA, gH, gN])) hq
def ex13b (G : List (List Int)) (M : List (List Int)) : ST := ⟨[(11, .il (lls G) G.length false), (15, fA 0 M)], fH 0 M, fN M⟩
theorem l2_13 {F G : List (List Int)} {s0 : ST} {Q : Exit → ST → Prop} (hF16 : F.length ≤ 16) (hl16 : ∀ l ∈ F, l.length ≤ 16) (hne : ∀ l ∈ F, l.length ≠ 0) (hin : ∀ l ∈ F, ∀ e ∈ l, 0 ≤ e ∧ e < 16)
    (hs0 : ChgT 0 s0 (st13b F G 0 [])) (hq : Q (.exit 2) (ex13b G (tdM (othL F)))) : XZ (rZ (spc ss13)) 0 (.loop p13_l2) s0 Q := by
  refine XZ_for (fun i : Nat => st13b F G i (tdM (othL (F.take i)))) (fun i => F.length - i) (fun i => i ≤ F.length) 0 (Nat.zero_le _) (by simpa [tdM, othL] using hs0) ?_
  intro i hi N Q' hN hE
  have hwl : (tdM (othL (F.take i))).length ≤ 16 := by simp [tdM, othL]; omega
  rcases Nat.lt_or_ge i F.length with h1 | h1
  · have hic : (i : Int) < F.length := by omega
    obtain ⟨l, r, -, e2, e3, -, e5⟩ := drop_split h1
    have hll := hl16 l e5
    have hl0 := hne l e5
    have hle := hin l e5
    have hnext : tdM (othL (F.take (i + 1))) = tdM (othL (F.take i)) ++ [leastF (l.map oI).reverse] := by
      unfold tdM othL; rw [List.take_succ_eq_append_getElem h1, List.map_append, List.map_append, e3]; rfl
    have fin : ∀ s', ChgT 0 s' (st13b F G (i + 1 : Nat) (tdM (othL (F.take i)) ++ [leastF (l.map oI).reverse])) → N s' := fun s' hh => hN s' (i + 1) (by omega) h1 (by rw [hnext]; exact hh)
    have hml : (l.map oI).length = l.length := List.length_map ..
    obtain ⟨k, hk⟩ : ∃ k, (l.map oI).reverse = k := ⟨_, rfl⟩
    have hkl : k.length = l.length := by rw [← hk, List.length_reverse, hml]
    have hlf := leastF_len k
    obtain ⟨k', hk'⟩ : ∃ k', leastF k = k' := ⟨_, rfl⟩
    rw [hk, hk'] at fin
    rw [hk'] at hlf
    have hsk : small k = true := by simp only [small, decide_eq_true_eq]; omega
    have hkn : ¬ k = [] := fun e => by rw [e] at hkl; simp at hkl; omega
    have hk0 : ¬ k.length = 0 := by omega
    clear hN hE hnext hq hs0
    generalize tdM (othL (F.take i)) = out at *
    have inner := fun (s1 : ST) (Q1 : Exit → ST → Prop) => l1_13 (F := F) (G := G) (i := i) (out := out) (l := l) (s0 := s1) (Q := Q1) hll hle
    generalize l.map oI = acc at *
    have hacc : acc ≠ [] := fun e => by rw [e] at hml; simp at hml; omega
    have hf60 := f60_at hacc (by omega)
    rw [hk] at hf60
    rcases acc with _ | ⟨a, ar⟩
    · exact absurd rfl hacc
    have hal : ar.length + 1 = l.length := by simpa using hml
    have htk : (ints k).take l.length = ints k := List.take_of_length_le (by simp; omega)
    have htk0 : (AV.v (.int .i64 a) :: ints ar).take l.length = AV.v (.int .i64 a) :: ints ar := List.take_of_length_le (by simp; omega)
    simp only [List.length_cons, hal, ints_cons] at hf60
    rcases out with _ | ⟨o, orr⟩
    · simp only [st13b, fA, fH, fN] at fin ⊢
      delta p13_l2 p13_r20 p13_r21 p13_r22 p13_r23
      simp (disch := omega) [oLt, oLe, oLtN, oLeN, nLt, nLe, nLtN, nLeN, hic, h1, e2, e3]
      refine inner _ _ (.tot [] (by simp [in13b, fA, fH, fN, gA, gH, gN])) ?_
      simp only [inBE, thenE, if_true, in13b, fA, fH, fN, gA, gH, gN]
      delta p13_r28 p13_r29 p13_r30
      simp (disch := omega) [oLt, oLe, oLtN, oLeN, nLt, nLe, nLtN, nLeN, hf60, f60_fz, htk, htk0, hsk, hkn, hk0, hkl, hal, hk', hlf]
      exact fin _ (.tot [15] (by simp [eL, hkl, hlf]))
    · simp only [List.length_cons] at hwl
      simp only [st13b, fA, fH, fN, List.cons_append] at fin ⊢
      delta p13_l2 p13_r20 p13_r21 p13_r22 p13_r23
      simp (disch := omega) [oLt, oLe, oLtN, oLeN, nLt, nLe, nLtN, nLeN, hic, h1, e2, e3]
      refine inner _ _ (.tot [15] (by simp [in13b, fA, fH, fN, gA, gH, gN])) ?_
      simp only [inBE, thenE, if_true, in13b, fA, fH, fN, gA, gH, gN]
      delta p13_r28 p13_r29 p13_r30
      simp (disch := omega) [oLt, oLe, oLtN, oLeN, nLt, nLe, nLtN, nLeN, hf60, f60_fz, htk, htk0, hsk, hkn, hk0, hkl, hal, hk', hlf]
      exact fin _ (.tot [15] (by simp [eL, hkl, hlf]))
  · obtain rfl : i = F.length := by omega
    have hic : ¬ (F.length : Int) < F.length := by omega
    rw [List.take_length]
    clear hN hwl
    generalize tdM (othL F) = M at *
    rcases M with _ | ⟨w0, wr⟩
    · simp only [st13b, fA, fH, fN]
      delta p13_l2 p13_r20 p13_r21 p13_r22 p13_r23
      simp (disch := omega) [oLt, oLe, oLtN, oLeN, nLt, nLe, nLtN, nLeN, hic]
      exact hE _ _ (ex13b G []) (.tot [] (by simp [ex13b, fA, fH, fN])) hq
    · simp only [st13b, fA, fH, fN]
      delta p13_l2 p13_r20 p13_r21 p13_r22 p13_r23
      simp (disch := omega) [oLt, oLe, oLtN, oLeN, nLt, nLe, nLtN, nLeN, hic]
      exact hE _ _ (ex13b G (w0 :: wr)) (.tot [15] (by simp [ex13b, fA, fH, fN])) hq
end
section
set_option maxRecDepth 4000
attribute [local simp] evCall reach idsB idsL ids Go.Sx.inA Go.Sx.inL Go.Sx.inM inB allHp enumH gl renB
set_option maxHeartbeats 8000000
theorem backV_of {L : List (List Int)} (hc : chk L = 0) : backV L = .tup [.agg [.il (lls (backL L)) (backL L).length false], vI 0] := by unfold backV; rw [hc, if_pos rfl]
theorem back_sm {L : List (List Int)} (hc : chk L = 0) : (decide ((backL L).length ≤ 10000) && (backL L).all small) = true := by
  obtain ⟨-, -, c, d, -⟩ := back_map hc
  rw [c]; exact tid_small d
theorem backw_rest {L : List (List Int)} (hc : chk L = 0) {s0 : ST} {Q : Exit → ST → Prop} (hs0 : s0 = ⟨[(3, .ptr 0 0)], [(0, .cells [.il (lls L) L.length false])], 1⟩) (hret : ∀ h nx, Q .ret ⟨[(2, vB true)], h, nx⟩) : XZ (rZ (spc ss13)) 0 q13 s0 Q := by
  subst hs0
  obtain ⟨hs, hg⟩ := gd_of hc
  obtain ⟨-, h16, hev, hP, -⟩ := tab_pts hc
  have hcv := chk_cov hc
  have hne := chk_ne hc
  obtain ⟨b1, b2, b3, b4, -⟩ := back_map hc
  obtain ⟨hsB, hgB⟩ := gd_of b1
  obtain ⟨hsR, hgR⟩ := gd_of b4
  have v1 := backV_of hc
  have v2 := backV_of b1
  have v3 := facV_of b1
  have v4 := genV_of b1
  rw [back_back hc] at v2
  rw [back_gen hc] at v4
  have g1 := g19_ok hs
  have g2 := g19_ok hsB
  have g3 := g33_ok hsB
  obtain ⟨f1, f2, f3, f4⟩ := back_face hc
  obtain ⟨fa, fb, -⟩ := face_map hc
  have sB := back_sm hc
  have sT := tid_small hc
  have hTl := tid_len hc
  have hBl : (tidL (revL L)).length = (revL L).length := tid_len b4
  have sF := face_small (L := backL L)
  have hFl := face_len hc
  have hF0 := chk_cov fa
  rw [fb] at hF0
  have hdst := f3.dst f4
  have hgM := tdM_gM (L := othL (faceL L)) (by rw [oth_len]; omega) f4 fun l hl x hx => by have := f3.rng x (List.mem_flatten.2 ⟨l, hl, hx⟩); omega
  have hMl : (tdM (othL (faceL L))).length = (faceL L).length := by rw [tdM_len, oth_len]
  have hsort : srtOn 0 (faceL L).length (tdM (othL (faceL L))) = faceL (backL L) := by
    rw [← f1]; unfold tdW; rw [oth_len]
  have hGl : (faceL (backL L)).length = (faceL L).length := by
    rw [← hsort, (srtOn_ok hdst (by omega)).1.len, hMl]
  have hl0 := fun (s1 : ST) (Q1 : Exit → ST → Prop) => l0_13 (L := L) (s0 := s1) (Q := Q1) hP (fun l hl => Nat.le_trans (total_mem hl) h16) hne
  have hl2 := fun (G : List (List Int)) (s1 : ST) (Q1 : Exit → ST → Prop) => l2_13 (F := faceL L) (G := G) (s0 := s1) (Q := Q1) hFl (fun l hl => by have := total_mem hl; omega) f2 (fun l hl x hx => by have := hF0.rng x (List.mem_flatten.2 ⟨l, hl, hx⟩); omega)
  have htR : tidL (revL L) = backL L := b3.symm
  obtain ⟨B, hB⟩ : ∃ B, backL L = B := ⟨_, rfl⟩
  obtain ⟨T, hT⟩ : ∃ T, tidL L = T := ⟨_, rfl⟩
  obtain ⟨R, hR⟩ : ∃ R, revL L = R := ⟨_, rfl⟩
  rw [hR] at hsR hgR htR hBl hl0
  rw [hB] at v1 v2 v3 v4 hsB hgB g2 g3 sB b1 htR hsort hGl sF
  rw [htR] at hBl
  rw [hT] at v2 sT hTl
  have sB2 : B.all small = true := by rw [Bool.and_eq_true] at sB; exact sB.2
  have sB1 : B.length ≤ 10000 := by rw [Bool.and_eq_true, decide_eq_true_eq] at sB; exact sB.1
  have sL1 : L.length ≤ 10000 := by omega
  have sT2 : T.all small = true := by rw [Bool.and_eq_true] at sT; exact sT.2
  have hBl2 := hBl.symm
  have hTl2 := hTl.symm
  obtain ⟨g, hgn⟩ : ∃ g, genN L = g := ⟨_, rfl⟩
  rw [hgn] at v4
  obtain ⟨F, hF⟩ : ∃ F, faceL L = F := ⟨_, rfl⟩
  rw [hF] at hFl hdst hgM hMl hsort hGl hl2
  obtain ⟨G, hGG⟩ : ∃ G, faceL B = G := ⟨_, rfl⟩
  rw [hGG] at v3 sF hsort hGl
  have sG1 : G.length ≤ 10000 := by rw [Bool.and_eq_true, decide_eq_true_eq] at sF; exact sF.1
  have sG2 : G.all small = true := by rw [Bool.and_eq_true] at sF; exact sF.2
  delta q13
  refine XZ_step ?_ (fun N Q_ hN => ?_) ?_
  rotate_left
  · delta p13_r2; simp (disch := omega) [oLt, oLe, oLtN, oLeN, nLt, nLe, nLtN, nLeN]
    exact hN
  refine XZ_stepS (ex13 L R) (fun N Q_ hN => ?_) ?_
  · refine XZ_seqG ?_
    delta p13_r3
    simp (disch := omega) [oLt, oLe, oLtN, oLeN, nLt, nLe, nLtN, nLeN]
    refine hl0 _ _ (.tot [3, 4] (by simp [st13, fA, fH, fN])) ?_
    simp only [inBE, thenE, if_true]
    exact hN
  simp only [ex13]
  refine XZ_step ?_ (fun N Q_ hN => ?_) ?_
  rotate_left
  · delta p13_r10; simp (disch := omega) [oLt, oLe, oLtN, oLeN, nLt, nLe, nLtN, nLeN, g1, v1]
    exact hN
  refine XZ_step ?_ (fun N Q_ hN => ?_) ?_
  rotate_left
  · refine XZ_seqG (XZ_drawG ?_)
    delta p13_r11
    refine zD_cut 6 ?_ ?_ (fun K_ hK => ?_) ?_
    rotate_left 2
    · simp only [List.take_succ_cons, List.take_zero]
      simp (disch := omega) [oLt, oLe, oLtN, oLeN, nLt, nLe, nLtN, nLeN]
      exact hK
    simp only [List.drop_succ_cons, List.drop_zero]
    refine zD_cut 1 ?_ ?_ (fun K_ hK => ?_) ?_
    rotate_left 2
    · simp only [List.take_succ_cons, List.take_zero]
      simp (disch := omega) [oLt, oLe, oLtN, oLeN, nLt, nLe, nLtN, nLeN, hgR, htR, hBl2]
      exact hK
    simp only [List.drop_succ_cons, List.drop_zero]
    refine zD_cut 1 ?_ ?_ (fun K_ hK => ?_) ?_
    rotate_left 2
    · simp only [List.take_succ_cons, List.take_zero]
      simp (disch := omega) [oLt, oLe, oLtN, oLeN, nLt, nLe, nLtN, nLeN, sB, sB1, sB2, hBl2, htR]
      exact hK
    simp only [List.drop_succ_cons, List.drop_zero]
    refine zD_cut 2 ?_ ?_ (fun K_ hK => ?_) ?_
    rotate_left 2
    · simp only [List.take_succ_cons, List.take_zero]
      simp (disch := omega) [oLt, oLe, oLtN, oLeN, nLt, nLe, nLtN, nLeN]
      exact hK
    simp only [List.drop_succ_cons, List.drop_zero]
    refine goD_ok (by decide) ?_
    simp (disch := omega) [oLt, oLe, oLtN, oLeN, nLt, nLe, nLtN, nLeN]
    exact hN
  refine XZ_step ?_ (fun N Q_ hN => ?_) ?_
  rotate_left
  · delta p13_r13; simp (disch := omega) [oLt, oLe, oLtN, oLeN, nLt, nLe, nLtN, nLeN, g2, v2]
    exact hN
  refine XZ_step ?_ (fun N Q_ hN => ?_) ?_
  rotate_left
  · delta p13_r14; simp (disch := omega) [oLt, oLe, oLtN, oLeN, nLt, nLe, nLtN, nLeN, g3, v3]
    exact hN
  refine XZ_step ?_ (fun N Q_ hN => ?_) ?_
  rotate_left
  · delta p13_r15; simp (disch := omega) [oLt, oLe, oLtN, oLeN, nLt, nLe, nLtN, nLeN, hsB, v4, b1]
    exact hN
  refine XZ_step ?_ (fun N Q_ hN => ?_) ?_
  rotate_left
  · refine XZ_seqG (XZ_drawG ?_)
    delta p13_r16
    refine zD_cut 6 ?_ ?_ (fun K_ hK => ?_) ?_
    rotate_left 2
    · simp only [List.take_succ_cons, List.take_zero]
      simp (disch := omega) [oLt, oLe, oLtN, oLeN, nLt, nLe, nLtN, nLeN]
      exact hK
    simp only [List.drop_succ_cons, List.drop_zero]
    refine zD_cut 4 ?_ ?_ (fun K_ hK => ?_) ?_
    rotate_left 2
    · simp only [List.take_succ_cons, List.take_zero]
      simp (disch := omega) [oLt, oLe, oLtN, oLeN, nLt, nLe, nLtN, nLeN]
      exact hK
    simp only [List.drop_succ_cons, List.drop_zero]
    refine zD_cut 4 ?_ ?_ (fun K_ hK => ?_) ?_
    rotate_left 2
    · simp only [List.take_succ_cons, List.take_zero]
      simp (disch := omega) [oLt, oLe, oLtN, oLeN, nLt, nLe, nLtN, nLeN]
      exact hK
    simp only [List.drop_succ_cons, List.drop_zero]
    refine zD_cut 1 ?_ ?_ (fun K_ hK => ?_) ?_
    rotate_left 2
    · simp only [List.take_succ_cons, List.take_zero]
      simp (disch := omega) [oLt, oLe, oLtN, oLeN, nLt, nLe, nLtN, nLeN, hg, hT, hTl]
      exact hK
    simp only [List.drop_succ_cons, List.drop_zero]
    refine zD_cut 1 ?_ ?_ (fun K_ hK => ?_) ?_
    rotate_left 2
    · simp only [List.take_succ_cons, List.take_zero]
      simp (disch := omega) [oLt, oLe, oLtN, oLeN, nLt, nLe, nLtN, nLeN, sT, sL1, sT2, hTl, hT]
      exact hK
    simp only [List.drop_succ_cons, List.drop_zero]
    refine zD_cut 3 ?_ ?_ (fun K_ hK => ?_) ?_
    rotate_left 2
    · simp only [List.take_succ_cons, List.take_zero]
      simp (disch := omega) [oLt, oLe, oLtN, oLeN, nLt, nLe, nLtN, nLeN]
      exact hK
    simp only [List.drop_succ_cons, List.drop_zero]
    refine zD_cut 2 ?_ ?_ (fun K_ hK => ?_) ?_
    rotate_left 2
    · simp only [List.take_succ_cons, List.take_zero]
      simp (disch := omega) [oLt, oLe, oLtN, oLeN, nLt, nLe, nLtN, nLeN]
      exact hK
    simp only [List.drop_succ_cons, List.drop_zero]
    refine zD_cut 1 ?_ ?_ (fun K_ hK => ?_) ?_
    rotate_left 2
    · simp only [List.take_succ_cons, List.take_zero]
      simp (disch := omega) [oLt, oLe, oLtN, oLeN, nLt, nLe, nLtN, nLeN, hg, hgn]
      exact hK
    simp only [List.drop_succ_cons, List.drop_zero]
    refine zD_cut 2 ?_ ?_ (fun K_ hK => ?_) ?_
    rotate_left 2
    · simp only [List.take_succ_cons, List.take_zero]
      simp (disch := omega) [oLt, oLe, oLtN, oLeN, nLt, nLe, nLtN, nLeN]
      exact hK
    simp only [List.drop_succ_cons, List.drop_zero]
    refine goD_ok (by decide) ?_
    simp (disch := omega) [oLt, oLe, oLtN, oLeN, nLt, nLe, nLtN, nLeN]
    exact hN
  refine XZ_step ?_ (fun N Q_ hN => ?_) ?_
  rotate_left
  · delta p13_r18; simp (disch := omega) [oLt, oLe, oLtN, oLeN, nLt, nLe, nLtN, nLeN]
    exact hN
  refine XZ_stepS (ex13b G (tdM (othL F))) (fun N Q_ hN => ?_) ?_
  · refine XZ_seqG ?_
    delta p13_r19
    simp (disch := omega) [oLt, oLe, oLtN, oLeN, nLt, nLe, nLtN, nLeN, hg, hF]
    refine hl2 G _ _ (.tot [] (by simp [st13b, fA, fH, fN])) ?_
    simp only [inBE, thenE, if_true]
    exact hN
  generalize hMM : tdM (othL F) = M at *
  rcases M with _ | ⟨o, orr⟩
  · have hF0 : F = [] := List.length_eq_zero_iff.1 (by simpa using hMl.symm)
    subst hF0
    have hG0 : G = [] := List.length_eq_zero_iff.1 hGl
    subst hG0
    simp only [ex13b, fA, fH, fN]
    refine XZ_step ?_ (fun N Q_ hN => ?_) ?_
    rotate_left
    · delta p13_r31; simp (disch := omega) [oLt, oLe, oLtN, oLeN, nLt, nLe, nLtN, nLeN, f62a_nil]
      exact hN
    refine XZ_seqG ?_
    delta p13_r32
    simp (disch := omega) [oLt, oLe, oLtN, oLeN, nLt, nLe, nLtN, nLeN]
    exact hret _ _
  · have hcmp : cmpN 63 = true := rfl
    have h62 := f62a_at (n := F.length) (cf := 63) hcmp hMl.symm hgM hdst hFl
    rw [hsort] at h62
    have hn0 : ¬ F.length = 0 := by simp at hMl; omega
    simp only [List.length_cons] at hMl
    simp only [ex13b, fA, fH, fN, hMl]
    have hfz := fun (c : List AV) (u : Bool) (x : AV) => f62a_fz (c := c) (u := u) (x := x) hn0
    generalize F.length = n at *
    have hct : List.take n (AV.il (ints o) o.length false :: lls orr) = AV.il (ints o) o.length false :: lls orr := List.take_of_length_le (by simp [hMl])
    have hlo : lls (o :: orr) = AV.il (ints o) o.length false :: lls orr := lls_cons _ _
    rw [hlo] at h62
    have hGt : (lls G).take n = lls G := List.take_of_length_le (by simp [hGl])
    refine XZ_step ?_ (fun N Q_ hN => ?_) ?_
    rotate_left
    · delta p13_r31; simp (disch := omega) [oLt, oLe, oLtN, oLeN, nLt, nLe, nLtN, nLeN, h62, hfz, hct]
      exact hN
    refine XZ_seqG ?_
    delta p13_r32
    simp (disch := omega) [oLt, oLe, oLtN, oLeN, nLt, nLe, nLtN, nLeN, hGt, hGl, sG1, sG2, sF]
    exact hret _ _
theorem backw_runs {s : Int} {O : List Int} {g : Int} (h : gSk s O g 8 = true) : Runs Tryd.prog 13 0 [.agg (skA s O g)] (hpF []) (vB true) 0 (hpF []) := by
  have hf49 := f49_at h
  have hOl : O.length = 16 := by
    simp only [gSk, Bool.and_eq_true, decide_eq_true_eq] at h
    exact h.1.1.1.2
  have hc0 := mdL_chk s.toNat O g.toNat 8 (by omega)
  have e6 : (8 : Int).toNat = 8 := rfl
  rw [e6] at hf49
  generalize mdL s.toNat O g.toNat 8 = L at *
  have hKl := sk_len (s := s) (g := g) hOl
  have hKr : ∀ f, renL f (skA s O g) = skA s O g := fun f => by simp [skA, renL_app]
  have hKc : cloL (skA s O g) = true := by simp [skA]
  have hKt : (skA s O g).take 18 = skA s O g := List.take_of_length_le (by omega)
  generalize skA s O g = K at *
  refine P13.rzC p1013 P1013s (ss := ss13) ⟨s16_ok, s19_ok, s23_ok, s33_ok, s37_ok, s49_ok, s50_ok, s53_ok, s56_ok, s57_ok, s60_ok, s61_ok, s62a_ok, trivial⟩ (by simp) fun Q hQ => ?_
  have hret : ∀ h nx, Q .ret ⟨[(2, vB true)], h, nx⟩ := fun h nx => hQ _ _ (.p (.inl rfl) (by simp) rfl)
  have rest := backw_rest hc0 (s0 := _) (Q := Q) rfl hret
  delta p1013
  refine XZ_step ?_ (fun N Q_ hN => ?_) ?_
  rotate_left
  · delta p13_r0; simp (disch := omega) [oLt, oLe, oLtN, oLeN, nLt, nLe, nLtN, nLeN, hKt]
    exact hN
  rcases mdV_or L with hm0 | ⟨hm0, rfl⟩
  · rw [hm0] at hf49
    refine XZ_stepC' ?_ ⟨[(3, .ptr 0 0)], [(0, .cells [.il (lls L) L.length false])], 1⟩ (fun N Q_ hN => ?_) ?_ rest
    rotate_left
    · delta p13_r1
      simp (disch := omega) [oLt, oLe, oLtN, oLeN, nLt, nLe, nLtN, nLeN, hf49, hKl, hKt, hKc]
      exact hN
    · exact .tot [3] (by simp)
  · rw [hm0] at hf49
    refine XZ_stepC' ?_ ⟨[(3, .ptr 0 0)], [(0, .cells [.il (lls []) 0 false])], 1⟩ (fun N Q_ hN => ?_) ?_ rest
    rotate_left
    · delta p13_r1
      simp (disch := omega) [oLt, oLe, oLtN, oLeN, nLt, nLe, nLtN, nLeN, hf49, hKl, hKt, hKc]
      exact hN
    · exact .trans (b := ⟨[(3, .ptr 0 0)], [(0, .cells [.v (.slice none 0 0)])], 1⟩) (.tot [3] (by simp)) md_weak
end
section
theorem gSk_ok {s g most : Int} {O : List Int} (hl : O.length = 16) (hs : 0 ≤ s ∧ s ≤ 255) (hb : ∀ x ∈ O, 0 ≤ x ∧ x ≤ 255) (hg : 0 ≤ g ∧ g ≤ 65535) (hm : 0 ≤ most ∧ most ≤ 8) : gSk s O g most = true := by
  simp only [gSk, Bool.and_eq_true, decide_eq_true_eq, within_iff, List.all_eq_true]
  exact ⟨⟨⟨⟨hs, hl⟩, hb⟩, hg⟩, hm⟩
end
end Go.Sx.Ch
