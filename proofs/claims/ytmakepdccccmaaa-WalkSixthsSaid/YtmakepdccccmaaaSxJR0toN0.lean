/- What functions of the outright laws return: a beach's numbers. No conditions. -/
import Derived.Test.YtmakepdccccmaaaSxJQBtoQD
import Derived.Test.YtmakepdccccmaaaSxJPd14toPd72
set_option linter.unusedVariables false
set_option linter.unusedSimpArgs false
namespace Go.Sx.Wk
open Go Go.Sx Go.Proofs

abbrev vU (n : Int) : AV := .v (.int .u8 n)
/-- A beach's numbers. -/
def madeL (s many most : Int) (b : List Int) : List Int := (b.take (1 + s % many).toNat).map fun x => 1 + x % most
def g42 (s b0 b1 b2 b3 many most : Int) : Bool := [s, b0, b1, b2, b3].all (within 0 · 255) && within 1 many 4 && within 1 most 8
def f42 : List AV → HL → Nat → Option (AV × HL × Nat) := fun args h k => match args, h, k with
  | [.agg [.v (.int .u8 s), .v (.int .u8 b0), .v (.int .u8 b1), .v (.int .u8 b2), .v (.int .u8 b3)], .v (.int .i64 many), .v (.int .i64 most)], [], 0 =>
    if g42 s b0 b1 b2 b3 many most = true then some (.il (ints (madeL s many most [b0, b1, b2, b3])) (madeL s many most [b0, b1, b2, b3]).length false, [], 0) else none
  | _, _, _ => none
def s42 : Sp := ⟨42, f42⟩
@[simp] theorem s42_g : s42.g = 42 := rfl
@[simp] theorem s42_f : s42.f = f42 := rfl
set_option maxHeartbeats 1000000 in
theorem s42_ok : s42.ok Try.prog := by
  intro args h k r h' k' hh
  simp only [s42_f, f42] at hh
  split at hh
  · rename_i s b0 b1 b2 b3 many most
    split at hh
    · rename_i hg
      cases hh
      simp only [g42, Bool.and_eq_true, List.all_eq_true, within_iff] at hg
      obtain ⟨⟨hb, hm⟩, hq⟩ := hg
      have hs := hb s (by simp)
      have hb' : ∀ x ∈ [b0, b1, b2, b3], 0 ≤ x ∧ x ≤ 255 := fun x hx => hb x (by simp only [List.mem_cons] at hx ⊢; exact .inr hx)
      have hm0 : 0 ≤ s % many := Int.emod_nonneg _ (by omega)
      have hm1 : s % many < many := Int.emod_lt_of_pos _ (by omega)
      obtain ⟨n, hn⟩ := Int.eq_ofNat_of_zero_le hm0
      have hn3 : n ≤ 3 := by omega
      have hmne : ¬ many = 0 := by omega
      have hqne : ¬ most = 0 := by omega
      simp only [hp_eq]
      refine P42.rz (ss := []) trivial (by simp) fun Q hQ => ?_
      delta p42 p42_r0 p42_r1 p42_r2
      simp (disch := omega) [oLt, oLe, oLtN, oLeN, nLt, nLe, nLtN, nLeN, hn, hmne]
      obtain ⟨T, hT⟩ : ∃ T, T = [b0, b1, b2, b3].take (n + 1) := ⟨_, rfl⟩
      have hTl : T.length = n + 1 := by rw [hT]; simp; omega
      have hL : madeL s many most [b0, b1, b2, b3] = T.map fun x => 1 + x % most := by
        simp only [madeL, hn, hT]; congr 2; omega
      rw [hL] at hQ
      refine XZ_for (fun p : Nat × List Int => ⟨[(2, vI most), (7, ow 1 p.2), (17, .ref 0 1 (n + 1) 1 (some 4)), (18, vI ((n + 1 : Nat) : Int)), (19, vI p.1)], owh 1 p.2 [(0, .cells [vU s, vU b0, vU b1, vU b2, vU b3])], own p.2 1⟩) (fun p => T.length - p.1) (fun p => p.1 ≤ T.length ∧ p.2.length = p.1 ∧ p.2 ++ (T.drop p.1).map (fun x => 1 + x % most) = T.map fun x => 1 + x % most) (0, []) ⟨by simp, by simp, by simp⟩ (.tot [17] (by simp <;> omega)) ?_
      rintro ⟨i, acc⟩ ⟨hi, ha, hp⟩ N Q' hN hE
      simp only at hi ha hp ⊢
      rcases Nat.lt_or_ge i T.length with h | h
      · obtain ⟨x, r, e1, e2, e3, e4, e5⟩ := drop_split h
        rw [e1] at hp
        simp only [List.map_cons] at hp
        have hx : ([b0, b1, b2, b3])[i]? = some x := by
          rw [hT, List.getElem?_take] at e2
          split at e2
          · exact e2
          · cases e2
        have hxb := hb' x (List.mem_of_getElem? hx)
        have hxd : ([vU s, vU b0, vU b1, vU b2, vU b3])[1 + i]? = some (vU x) := by
          have : ([b0, b1, b2, b3].map vU)[i]? = some (vU x) := by rw [List.getElem?_map, hx]; rfl
          rw [Nat.add_comm]; exact this
        have hki : i < n + 1 := by omega
        have hkc : (i : Int) < n + 1 := by omega
        have hy0 : 0 ≤ x % most := Int.emod_nonneg _ (by omega)
        have hy1 : x % most < most := Int.emod_lt_of_pos _ (by omega)
        have fin : ∀ s', ChgT 0 s' ⟨[(2, vI most), (7, ow 1 (acc ++ [1 + x % most])), (17, .ref 0 1 (n + 1) 1 (some 4)), (18, vI ((n + 1 : Nat) : Int)), (19, vI ((i + 1 : Nat) : Int))], owh 1 (acc ++ [1 + x % most]) [(0, .cells [vU s, vU b0, vU b1, vU b2, vU b3])], own (acc ++ [1 + x % most]) 1⟩ → N s' := fun s' hh =>
          hN s' (i + 1, acc ++ [1 + x % most]) (by simp only; omega) ⟨h, by simp [ha], by simp only [e4]; rw [← hp]; simp⟩ hh
        generalize hz : x % most = z at *
        rcases acc with _ | ⟨a0, ar⟩
        · delta p42_l0 p42_r3 p42_r4 p42_r5 p42_r6
          simp (disch := omega) [oLt, oLe, oLtN, oLeN, nLt, nLe, nLtN, nLeN, hki, hkc, hxd, hqne, hz]
          exact fin _ (.tot [17, 7] (by simp))
        · simp only [List.length_cons] at ha
          delta p42_l0 p42_r3 p42_r4 p42_r5 p42_r6
          simp (disch := omega) [oLt, oLe, oLtN, oLeN, nLt, nLe, nLtN, nLeN, hki, hkc, hxd, hqne, hz]
          exact fin _ (.tot [17, 7] (by simp))
      · have hki : ¬ i < n + 1 := by omega
        have hkc : ¬ (i : Int) < n + 1 := by omega
        rw [List.drop_eq_nil_of_le h] at hp
        simp only [List.map_nil, List.append_nil] at hp
        rw [← hp] at hQ
        rcases acc with _ | ⟨a0, ar⟩
        · delta p42_l0 p42_r3 p42_r4 p42_r5 p42_r6
          simp (disch := omega) [oLt, oLe, oLtN, oLeN, nLt, nLe, nLtN, nLeN, hkc]
          refine hE _ _ _ .refl ?_
          delta p42_r7
          simp (disch := omega) [oLt, oLe, oLtN, oLeN, nLt, nLe, nLtN, nLeN]
          exact hQ _ _ (.fz [6] _ (.inl rfl) (by simp; rfl) (by simp) (by simp))
        · delta p42_l0 p42_r3 p42_r4 p42_r5 p42_r6
          simp (disch := omega) [oLt, oLe, oLtN, oLeN, nLt, nLe, nLtN, nLeN, hkc]
          refine hE _ _ _ .refl ?_
          delta p42_r7
          simp (disch := omega) [oLt, oLe, oLtN, oLeN, nLt, nLe, nLtN, nLeN]
          exact hQ _ _ (.fz [6] _ (.inl rfl) (by simp; rfl) (by simp) (by simp))
    · cases hh
  · cases hh
theorem made_facts {s b0 b1 b2 b3 many most : Int} (h : g42 s b0 b1 b2 b3 many most = true) : (madeL s many most [b0, b1, b2, b3]) ≠ [] ∧ (madeL s many most [b0, b1, b2, b3]).length ≤ many ∧ ∀ y ∈ madeL s many most [b0, b1, b2, b3], 1 ≤ y ∧ y ≤ most := by
  simp only [g42, Bool.and_eq_true, List.all_eq_true, within_iff] at h
  obtain ⟨⟨hb, hm⟩, hq⟩ := h
  have hm0 : 0 ≤ s % many := Int.emod_nonneg _ (by omega)
  have hm1 : s % many < many := Int.emod_lt_of_pos _ (by omega)
  have hl : (madeL s many most [b0, b1, b2, b3]).length = (1 + s % many).toNat := by simp [madeL]; omega
  refine ⟨fun e => ?_, by omega, fun y hy => ?_⟩
  · rw [e] at hl; simp at hl; omega
  · simp only [madeL, List.mem_map] at hy
    obtain ⟨x, -, rfl⟩ := hy
    have h0 := Int.emod_nonneg x (show most ≠ 0 by omega)
    have h1 := Int.emod_lt_of_pos x (show 0 < most by omega)
    omega
end Go.Sx.Wk
namespace Go.Sx.Wk
open Go Go.Sx Go.Proofs

theorem flat_len {t : List Int} : ∀ {M : List (List Int)}, (∀ x ∈ M, (pad t x).length = 4) → (M.flatMap (pad t)).length = M.length * 4
  | [], _ => rfl
  | x :: M, h => by
    have h1 := h x (by simp)
    have h2 := flat_len (M := M) (fun y hy => h y (by simp [hy]))
    simp only [List.flatMap_cons, List.length_append, List.length_cons, h1, h2]; omega
theorem flat_at {t x : List Int} : ∀ {M : List (List Int)} {k : Nat}, (∀ x ∈ M, (pad t x).length = 4) → M[k]? = some x → ((M.flatMap (pad t)).drop (k * 4)).take 4 = pad t x
  | [], k, _, h => by simp at h
  | y :: M, 0, h, hk => by
    simp only [List.getElem?_cons_zero, Option.some.injEq] at hk
    subst hk
    simp only [List.flatMap_cons, Nat.zero_mul, List.drop_zero]
    exact List.take_left' (h y (by simp))
  | y :: M, k + 1, h, hk => by
    simp only [List.getElem?_cons_succ] at hk
    simp only [List.flatMap_cons]
    rw [show (k + 1) * 4 = 4 + k * 4 by omega, ← List.drop_drop, List.drop_left' (h y (by simp))]
    exact flat_at (fun z hz => h z (by simp [hz])) hk
end Go.Sx.Wk
