/- WalkWalked's walk. No conditions. -/
import Derived.Test.YtmakepdccccmaaaSxJS29toR5
import Derived.Test.YtmakepdccccmaaaSxJPd9toPd72
set_option linter.unusedVariables false
set_option linter.unusedSimpArgs false
namespace Go.Sx.Wk
open Go Go.Sx Go.Proofs

/-- Small numbers in a row. -/
def u8s (l : List Int) : List AV := l.map fun n => .v (.int .u8 n)
@[simp] theorem u8s_len (l : List Int) : (u8s l).length = l.length := by simp [u8s]
@[simp] theorem u8s_get? (l : List Int) (i : Nat) : (u8s l)[i]? = (l[i]?).map fun n => .v (.int .u8 n) := by simp [u8s]
@[simp] theorem u8s_ren (g : Nat → Nat) (l : List Int) : renL g (u8s l) = u8s l := by induction l with | nil => rfl | cons a l ih => simpa [u8s] using ih
@[simp] theorem u8s_clo (l : List Int) : cloL (u8s l) = true := by induction l with | nil => rfl | cons a l ih => simpa [u8s] using ih
@[simp] theorem u8s_flat (l : List Int) : flatL (u8s l) = true := by induction l with | nil => rfl | cons a l ih => simpa [u8s] using ih
theorem same_take {t w : List Int} : ((pad t (leftL w 0 t)).take t.length) = leftL w 0 t := List.take_left' (leftL_len w t 0)
set_option maxHeartbeats 4000000 in
theorem walkWalked_runs (s b0 b1 b2 b3 many : Int) (l : List Int) (hs : 0 ≤ s ∧ s ≤ 255) (hb : ∀ x ∈ [b0, b1, b2, b3], 0 ≤ x ∧ x ≤ 255) (hm : 0 ≤ many ∧ many ≤ 255) (hl : l.length = 12) (hlb : ∀ x ∈ l, 0 ≤ x ∧ x ≤ 255) :
    Runs Try.prog 9 0 [.agg [vU s, vU b0, vU b1, vU b2, vU b3], vU many, .agg (u8s l)] (hpF []) (vB true) 0 (hpF []) := by
  have hg : g42 s b0 b1 b2 b3 4 8 = true := by
    simp only [g42, Bool.and_eq_true, List.all_eq_true, within_iff]
    exact ⟨⟨fun x hx => by rw [List.mem_cons] at hx; rcases hx with rfl | hx; exact hs; exact hb x hx, by omega⟩, by omega⟩
  obtain ⟨hne, h4, h8⟩ := made_facts hg
  generalize hT : madeL s 4 8 [b0, b1, b2, b3] = T at *
  have h4 : T.length ≤ 4 := by omega
  have hpos := List.length_pos_iff.2 hne
  obtain ⟨n, hn⟩ := Int.eq_ofNat_of_zero_le (show 0 ≤ many % 13 by omega)
  have hn12 : n ≤ 12 := by omega
  refine P9.rz (ss := [s16, s25, s27, s29, s42, s43, s44, s45]) ⟨s16_ok, s25_ok, s27_ok, s29_ok, s42_ok, s43_ok, s44_ok, s45_ok, trivial⟩ (by simp) fun Q hQ => ?_
  delta p9 p9_r0 p9_r1 p9_r2 p9_r3
  simp (disch := omega) [oLt, oLe, oLtN, oLeN, nLt, nLe, nLtN, nLeN, f42, hg, hT, hn, hl]
  obtain ⟨U, hU⟩ : ∃ U, U = l.take n := ⟨_, rfl⟩
  have hUl : U.length = n := by rw [hU]; simp; omega
  have hpc : ¬ (T.length : Int) = 0 := by omega
  refine XZ_for (fun p : Nat × List Int => ⟨[(7, .il (ints T) T.length false), (8, ow 1 p.2), (25, .ref 0 0 n 1 (some 12)), (26, vI n), (27, vI p.1)], owh 1 p.2 [(0, .cells (u8s l))], own p.2 1⟩) (fun p => U.length - p.1) (fun p => p.1 ≤ U.length ∧ p.2.length = p.1 ∧ p.2 ++ (U.drop p.1).map (fun x => x % (T.length : Int)) = U.map fun x => x % (T.length : Int)) (0, []) ⟨by simp, by simp, by simp⟩ (.tot [25] (by simp)) ?_
  rintro ⟨i, acc⟩ ⟨hi, ha, hp⟩ N Q' hN hE
  simp only at hi ha hp ⊢
  rcases Nat.lt_or_ge i U.length with h | h
  · obtain ⟨x, r, e1, e2, e3, e4, e5⟩ := drop_split h
    rw [e1] at hp
    simp only [List.map_cons] at hp
    have hx : l[i]? = some x := by
      rw [hU, List.getElem?_take] at e2
      split at e2
      · exact e2
      · cases e2
    have hxb := hlb x (List.mem_of_getElem? hx)
    have hil : i < l.length := (List.getElem?_eq_some_iff.1 hx).1
    have hxi : l[i] = x := (List.getElem?_eq_some_iff.1 hx).2
    have hki : i < n := by omega
    have hkc : (i : Int) < n := by omega
    have fin : ∀ s', ChgT 0 s' ⟨[(7, .il (ints T) T.length false), (8, ow 1 (acc ++ [x % (T.length : Int)])), (25, .ref 0 0 n 1 (some 12)), (26, vI n), (27, vI ((i + 1 : Nat) : Int))], owh 1 (acc ++ [x % (T.length : Int)]) [(0, .cells (u8s l))], own (acc ++ [x % (T.length : Int)]) 1⟩ → N s' := fun s' hh =>
      hN s' (i + 1, acc ++ [x % (T.length : Int)]) (by simp only; omega) ⟨h, by simp [ha], by simp only [e4]; rw [← hp]; simp⟩ hh
    generalize hz : x % (T.length : Int) = z at *
    rcases acc with _ | ⟨a0, ar⟩
    · delta p9_l0 p9_r4 p9_r5 p9_r6 p9_r7
      simp (disch := omega) [oLt, oLe, oLtN, oLeN, nLt, nLe, nLtN, nLeN, hki, hkc, hx, hxi, hne, hpc, hz, hl]
      exact fin _ (.tot [25, 8] (by simp))
    · simp only [List.length_cons] at ha
      delta p9_l0 p9_r4 p9_r5 p9_r6 p9_r7
      simp (disch := omega) [oLt, oLe, oLtN, oLeN, nLt, nLe, nLtN, nLeN, hki, hkc, hx, hxi, hne, hpc, hz, hl]
      exact fin _ (.tot [25, 8] (by simp))
  · have hkc : ¬ (i : Int) < n := by omega
    rw [List.drop_eq_nil_of_le h] at hp
    simp only [List.map_nil, List.append_nil] at hp
    have hal : acc.length ≤ 12 := by rw [hp]; simp; omega
    have har : ∀ x ∈ acc, 0 ≤ x ∧ x ≤ T.length - 1 := fun x hx => by
      rw [hp] at hx
      obtain ⟨y, -, rfl⟩ := List.mem_map.1 hx
      have h0 := Int.emod_nonneg y hpc
      have h1 := Int.emod_lt_of_pos y (show (0 : Int) < T.length by omega)
      omega
    clear hp hN ha hi
    have hT8 : ok8 T = true := ok8_iff.2 h8
    have hc0 : chk T = 0 := by
      have h0 : ¬ T.length = 0 := by omega
      have h1 : T.all (within 1 · 8) = true := List.all_eq_true.2 fun y hy => by simpa using h8 y hy
      unfold chk
      rw [if_neg h0, if_neg (by omega), if_pos h1]
    have hst : small T = true := by simp [small]; omega
    have hsw : small acc = true := by simp [small]; omega
    have hall : acc.all (within 0 · (T.length - 1)) = true := List.all_eq_true.2 fun y hy => by simpa using har y hy
    have h0t : toldF T acc = 0 := by
      unfold toldF
      rw [if_pos hc0, if_neg (by omega), if_pos hall]
    have hwg : wlkL acc 0 T = goodL acc 0 T := wlk_good fun y hy => (h8 y hy).1
    have h2t : leftP T (acc ++ [(T.length : Int)]) = .tup [.il [] 0 false, vI 2] := by
      have : (acc ++ [(T.length : Int)]).all (within 0 · (T.length - 1)) = false := by
        refine List.all_eq_false.2 ⟨(T.length : Int), by simp, ?_⟩
        simp only [within_iff]; omega
      have : toldF T (acc ++ [(T.length : Int)]) = 2 := by
        unfold toldF
        rw [if_pos hc0, if_neg (by simp; omega), this]; rfl
      simp [leftP, this]
    obtain ⟨Z, hZ⟩ : ∃ Z, Z = List.replicate 61 (0 : Int) := ⟨_, rfl⟩
    have hrep : List.replicate 61 (AV.v (.int .i64 0)) = ints Z := by rw [hZ]; rfl
    have hsz : small Z = true := by rw [hZ]; rfl
    have hZl : Z.length = 61 := by rw [hZ, List.length_replicate]
    have h3t : leftP T Z = .tup [.il [] 0 false, vI 19] := by
      have : toldF T Z = 19 := by
        unfold toldF
        rw [if_pos hc0, if_pos (by omega)]
      simp [leftP, this]
    have hsa : small (acc ++ [(T.length : Int)]) = true := by simp [small]; omega
    have hlp := leftP_eq T acc
    have hgf : goesF T acc = if goodL acc 0 T = true then .tup [vB (canB T && everB T (leftL acc 0 T)), vI 0] else .tup [vB false, vI 12] := by simp only [goesF, h0t, if_true]
    simp only [leftF, h0t, if_true] at hlp
    have hLl := leftL_len acc T 0
    have hpl4 : (pad T (leftL acc 0 T)).length = 4 := pad_len hLl.symm h4
    have hptk := same_take (t := T) (w := acc)
    have hsL : small (leftL acc 0 T) = true := by simp [small, hLl]; omega
    have hZt : Z.take 61 = Z := List.take_of_length_le (by omega)
    clear hZ
    generalize hL : leftL acc 0 T = L at *
    generalize hA : pad T L = A at *
    generalize (canB T && everB T L) = cb at *
    cases hgd : goodL acc 0 T with
    | false =>
      rw [hgd] at hlp hgf hwg
      simp only [Bool.false_eq_true, if_false] at hlp hgf
      rcases acc with _ | ⟨a0, ar⟩
      · delta p9_l0 p9_r4 p9_r5 p9_r6 p9_r7
        simp (disch := omega) [oLt, oLe, oLtN, oLeN, nLt, nLe, nLtN, nLeN, hkc]
        refine hE _ _ ⟨[(7, .il (ints T) T.length false), (8, .v (.slice none 0 0))], [], 0⟩ (.to [] (by simp)) ?_
        delta p9_r8 p9_r9 p9_r10 p9_r11 p9_r12 p9_r13 p9_r14 p9_r15 p9_r16 p9_r17
        simp (disch := omega) [oLt, oLe, oLtN, oLeN, nLt, nLe, nLtN, nLeN, hst, hT8, hsw, hlp, hgf, hwg]
        exact hQ _ _ (.p (.inl rfl) (by simp) rfl)
      · delta p9_l0 p9_r4 p9_r5 p9_r6 p9_r7
        simp (disch := omega) [oLt, oLe, oLtN, oLeN, nLt, nLe, nLtN, nLeN, hkc]
        refine hE _ _ ⟨[(7, .il (ints T) T.length false), (8, .il (ints (a0 :: ar)) (ar.length + 1) false)], [], 0⟩ (.fz [7, 8] rfl rfl rfl (by simp)) ?_
        delta p9_r8 p9_r9 p9_r10 p9_r11 p9_r12 p9_r13 p9_r14 p9_r15 p9_r16 p9_r17
        simp (disch := omega) [oLt, oLe, oLtN, oLeN, nLt, nLe, nLtN, nLeN, hst, hT8, hsw, hlp, hgf, hwg]
        exact hQ _ _ (.p (.inl rfl) (by simp) rfl)
    | true =>
      rw [hgd] at hlp hgf hwg
      simp only [if_true] at hlp hgf
      rcases acc with _ | ⟨a0, ar⟩
      · simp only [List.nil_append] at h2t hsa
        delta p9_l0 p9_r4 p9_r5 p9_r6 p9_r7
        simp (disch := omega) [oLt, oLe, oLtN, oLeN, nLt, nLe, nLtN, nLeN, hkc]
        refine hE _ _ ⟨[(7, .il (ints T) T.length false), (8, .v (.slice none 0 0))], [], 0⟩ (.to [] (by simp)) ?_
        delta p9_r8 p9_r9 p9_r10 p9_r11 p9_r12 p9_r13 p9_r14 p9_r15 p9_r16 p9_r17
        simp (disch := omega) [oLt, oLe, oLtN, oLeN, nLt, nLe, nLtN, nLeN, hst, hT8, hsw, hlp, hgf, hwg, h4, hL, hA, hpl4, hptk, hsL, hLl, f45, h2t, hsa, h3t, hsz, hrep, hZl, hZt, -List.reduceReplicate]
        exact hQ _ _ (.p (.inl rfl) (by simp) rfl)
      · simp only [List.cons_append] at h2t hsa
        simp only [List.length_cons] at hal
        delta p9_l0 p9_r4 p9_r5 p9_r6 p9_r7
        simp (disch := omega) [oLt, oLe, oLtN, oLeN, nLt, nLe, nLtN, nLeN, hkc]
        refine hE _ _ ⟨[(7, .il (ints T) T.length false), (8, .il (ints (a0 :: ar)) (ar.length + 1) false)], [], 0⟩ (.fz [7, 8] rfl rfl rfl (by simp)) ?_
        delta p9_r8 p9_r9 p9_r10 p9_r11 p9_r12 p9_r13 p9_r14 p9_r15 p9_r16 p9_r17
        simp (disch := omega) [oLt, oLe, oLtN, oLeN, nLt, nLe, nLtN, nLeN, hst, hT8, hsw, hlp, hgf, hwg, h4, hL, hA, hpl4, hptk, hsL, hLl, f45, h2t, hsa, h3t, hsz, hrep, hZl, hZt, -List.reduceReplicate]
        exact hQ _ _ (.p (.inl rfl) (by simp) rfl)
end Go.Sx.Wk
