/- WalkEven's walk. No conditions. -/
import Derived.Test.YtmakepdccccmaaaSxJR1toR2
set_option linter.unusedVariables false
set_option linter.unusedSimpArgs false
namespace Go.Sx.Wk
open Go Go.Sx Go.Proofs

abbrev vU (n : Int) : AV := .v (.int .u8 n)
theorem wgtB_one : ∀ (t : List Int), wgtB 1 t = wgt t
  | [] => rfl
  | a :: r => by simp only [wgtB, wgt, wgtB_one r, Int.mul_one]
theorem chk_of {l : List Int} (h8 : ∀ t ∈ l, 1 ≤ t ∧ t ≤ 8) (hne : l ≠ []) (h4 : l.length ≤ 4) : chk l = 0 := by
  have h0 : ¬ l.length = 0 := fun e => hne (List.length_eq_zero_iff.1 e)
  have h1 : l.all (within 1 · 8) = true := List.all_eq_true.2 fun y hy => by simpa using h8 y hy
  unfold chk
  rw [if_neg h0, if_neg (by omega), if_pos h1]
theorem wsgn_le (n : Int) : wsgn n ≤ 0 ↔ n ≤ 0 := by
  unfold wsgn
  by_cases h1 : -1 < n
  · rw [if_pos h1]
    by_cases h2 : n < 1
    · rw [if_pos h2]
    · rw [if_neg h2]; omega
  · rw [if_neg h1, if_pos (by omega)]; omega
theorem spl_last (ar : List Int) (y z : AV) : splice (ints ar ++ [y]) ar.length [z] = ints ar ++ [z] := by
  have h : (ints ar).length = ar.length := by simp [ints]
  unfold splice
  rw [List.take_left' h, List.drop_eq_nil_of_le (by rw [List.length_append, h]; exact Nat.le_refl _), List.append_nil]
/-- A number of tides, by the numbers of a beach. -/
def evenT (s x : Int) : Int := if 4 < s % 8 then (if x % 4 = 0 then 1 else if x % 4 = 1 then 2 else 6) else if s % 8 = 4 then (if x % 4 = 0 then 1 else if x % 4 = 3 then 6 else 3) else (if x % 4 = 0 then 1 else if x % 4 = 1 then 2 else if x % 4 = 2 then 4 else 8)
set_option maxHeartbeats 2000000 in
theorem walkEven_runs (s b0 b1 b2 b3 : Int) (hs : 0 ≤ s ∧ s ≤ 255) (hb : ∀ x ∈ [b0, b1, b2, b3], 0 ≤ x ∧ x ≤ 255) : Runs Try.prog 7 0 [.agg [vU s, vU b0, vU b1, vU b2, vU b3]] (hpF []) (vB true) 0 (hpF []) := by
  refine P7.rz (ss := [s16, s19, s38]) ⟨s16_ok, s19_ok, s38_ok, trivial⟩ (by simp) fun Q hQ => ?_
  obtain ⟨k, hk⟩ := Int.eq_ofNat_of_zero_le (show 0 ≤ s % 4 by omega)
  have hk3 : k ≤ 3 := by omega
  delta p7 p7_r0 p7_r1 p7_r2
  simp (disch := omega) [oLt, oLe, oLtN, oLeN, nLt, nLe, nLtN, nLeN, hk]
  obtain ⟨T, hT⟩ : ∃ T, T = [b0, b1, b2, b3].take (k + 1) := ⟨_, rfl⟩
  have hTl : T.length = k + 1 := by rw [hT]; simp; omega
  refine XZ_for (fun p : Nat × List Int => ⟨[(1, .ptr 0 0), (3, ow 1 p.2), (14, .ref 0 1 (k + 1) 1 (some 4)), (15, vI ((k + 1 : Nat) : Int)), (16, vI p.1)], owh 1 p.2 [(0, .cells [vU s, vU b0, vU b1, vU b2, vU b3])], own p.2 1⟩) (fun p => T.length - p.1) (fun p => p.1 ≤ T.length ∧ p.2.length = p.1 ∧ p.2 ++ (T.drop p.1).map (evenT s) = T.map (evenT s)) (0, []) ⟨by simp, by simp, by simp⟩ (.to [0] (by simp <;> omega)) ?_
  rintro ⟨i, acc⟩ ⟨hi, ha, hp⟩ N Q' hN hE
  simp only at hi ha hp ⊢
  rcases Nat.lt_or_ge i T.length with h | h
  · obtain ⟨x, r, e1, e2, e3, e4, e5⟩ := drop_split h
    rw [e1] at hp
    simp only [List.map_cons] at hp
    have hi4 : i < 4 := by omega
    have hx : ([b0, b1, b2, b3])[i]? = some x := by
      rw [hT, List.getElem?_take] at e2
      split at e2
      · exact e2
      · cases e2
    have hxb := hb x (List.mem_of_getElem? hx)
    have hxc : ([vU b0, vU b1, vU b2, vU b3])[i]? = some (vU x) := by
      have : ([b0, b1, b2, b3].map vU)[i]? = some (vU x) := by rw [List.getElem?_map, hx]; rfl
      exact this
    have hxd : ([vU s, vU b0, vU b1, vU b2, vU b3])[1 + i]? = some (vU x) := by rw [Nat.add_comm]; exact hxc
    have hki : i < k + 1 := by omega
    have hkc : (i : Int) < k + 1 := by omega
    have fin : ∀ s', ChgT 0 s' ⟨[(1, .ptr 0 0), (3, ow 1 (acc ++ [evenT s x])), (14, .ref 0 1 (k + 1) 1 (some 4)), (15, vI ((k + 1 : Nat) : Int)), (16, vI ((i + 1 : Nat) : Int))], owh 1 (acc ++ [evenT s x]) [(0, .cells [vU s, vU b0, vU b1, vU b2, vU b3])], own (acc ++ [evenT s x]) 1⟩ → N s' := fun s' hh =>
      hN s' (i + 1, acc ++ [evenT s x]) (by simp only; omega) ⟨h, by simp [ha], by simp only [e4]; rw [← hp]; simp⟩ hh
    clear hN hp
    obtain ⟨y, hy⟩ : ∃ y, evenT s x = y := ⟨_, rfl⟩
    rw [hy] at fin
    have hc : (4 < s % 8 ∧ ¬ s % 8 = 4) ∨ (¬ 4 < s % 8 ∧ s % 8 = 4) ∨ (¬ 4 < s % 8 ∧ ¬ s % 8 = 4) := by omega
    have hm : x % 4 = 0 ∨ x % 4 = 1 ∨ x % 4 = 2 ∨ x % 4 = 3 := by omega
    rcases acc with _ | ⟨a0, ar⟩
    · rcases hm with hm | hm | hm | hm <;> rcases hc with ⟨c1, c2⟩ | ⟨c1, c2⟩ | ⟨c1, c2⟩ <;> (simp [evenT, hm, c1, c2] at hy; subst hy; delta p7_l0 p7_r3 p7_r4 p7_r5 p7_r6 p7_r7 p7_r8 p7_r9 p7_r10; simp (disch := omega) [oLt, oLe, oLtN, oLeN, nLt, nLe, nLtN, nLeN, hki, hkc, hxd, hm, c1, c2, shl0, shl1, shl2, shl3]; exact fin _ (.tot [1, 3] (by simp)))
    · simp only [List.length_cons] at ha
      have hc' : (4 < s % 8 ∧ ¬ s % 8 = 4) ∨ (¬ 4 < s % 8 ∧ ¬ s % 8 = 4) := by omega
      rcases hm with hm | hm | hm | hm <;> rcases hc' with ⟨c1, c2⟩ | ⟨c1, c2⟩ <;> (simp [evenT, hm, c1, c2] at hy; subst hy; delta p7_l0 p7_r3 p7_r4 p7_r5 p7_r6 p7_r7 p7_r8 p7_r9 p7_r10; simp (disch := omega) [oLt, oLe, oLtN, oLeN, nLt, nLe, nLtN, nLeN, hki, hkc, hxd, hm, c1, c2, shl0, shl1, shl2, shl3]; exact fin _ (.tot [1, 3] (by simp [spl_last])))
  · have h' : ¬ i < k + 1 := by omega
    have hc' : ¬ (i : Int) < k + 1 := by omega
    rw [List.drop_eq_nil_of_le h] at hp
    simp only [List.map_nil, List.append_nil] at hp
    have hal : acc.length = T.length := by rw [hp]; simp
    have hne : acc ≠ [] := fun e => by rw [e] at hal; simp at hal; omega
    have hCm : ∃ C ∈ [[1, 2, 4, 8], [1, 2, 6], [1, 3, 6]], ∀ y ∈ acc, y ∈ C := by
      have hy : ∀ y ∈ acc, ∃ x ∈ T, evenT s x = y := fun y hy => by rw [hp] at hy; exact List.mem_map.1 hy
      by_cases c1 : 4 < s % 8
      · refine ⟨[1, 2, 6], by simp, fun y hya => ?_⟩
        obtain ⟨x, -, rfl⟩ := hy y hya
        simp only [evenT, if_pos c1]
        repeat' split
        all_goals simp
      · by_cases c2 : s % 8 = 4
        · refine ⟨[1, 3, 6], by simp, fun y hya => ?_⟩
          obtain ⟨x, -, rfl⟩ := hy y hya
          simp only [evenT, if_neg c1, if_pos c2]
          repeat' split
          all_goals simp
        · refine ⟨[1, 2, 4, 8], by simp, fun y hya => ?_⟩
          obtain ⟨x, -, rfl⟩ := hy y hya
          simp only [evenT, if_neg c1, if_neg c2]
          repeat' split
          all_goals simp
    obtain ⟨C, hC, hCa⟩ := hCm
    have hcan := even_can hC hCa hne (by omega)
    have h8 : ∀ y ∈ acc, 1 ≤ y ∧ y ≤ 8 := fun y hy => by
      have := hCa y hy
      simp only [List.mem_cons, List.not_mem_nil, or_false] at hC
      rcases hC with rfl | rfl | rfl <;> simp at this <;> omega
    have hok : ok8 acc = true := ok8_iff.2 h8
    have h4 : acc.length ≤ 4 := by omega
    have hchk : chk acc = 0 := chk_of h8 hne h4
    have hst : small acc = true := by simp [small]; omega
    have hcf : canF acc = .tup [vB (decide (wgt acc ≤ 840)), vI 0] := by simp [canF, hchk, hcan]
    have hwb := wgtB_one acc
    have hws : wsgn (wgt acc - 840) ≤ 0 ↔ wgt acc ≤ 840 := by rw [wsgn_le]; omega
    have hw1 : within 0 1 4000 = true := rfl
    clear hp hcan hCa hN hC
    rcases acc with _ | ⟨a0, ar⟩
    · exact absurd rfl hne
    simp only [List.length_cons] at h4
    delta p7_l0 p7_r3 p7_r4 p7_r5 p7_r6 p7_r7 p7_r8 p7_r9 p7_r10
    simp (disch := omega) [oLt, oLe, oLtN, oLeN, nLt, nLe, nLtN, nLeN, hc']
    refine hE _ _ _ .refl ?_
    delta p7_r11 p7_r12
    simp (disch := omega) [oLt, oLe, oLtN, oLeN, nLt, nLe, nLtN, nLeN, hst, hcf, hok, h4, hwb, hws, hw1]
    refine ⟨fun _ => hQ _ _ (.p (.inl rfl) (by simp) rfl), fun hh => ?_⟩
    exfalso
    by_cases hle : wgt (a0 :: ar) ≤ 840
    · have h1 := hh.1 hle
      have h2 := hws.2 hle
      omega
    · have h1 : ¬ wsgn (wgt (a0 :: ar) - 840) ≤ 0 := fun e => hle (hws.1 e)
      exact hle (hh.2 (by omega))
end Go.Sx.Wk
