/- What functions of the outright laws return: how long walks are; all that can be left. No conditions. -/
import Derived.Test.YtmakepdccccmaaaSxL3
import Derived.Test.YtmakepdccccmaaaSxJQItoQL
import Derived.Test.YtmakepdccccmaaaSxJPd11toPd75
set_option linter.unusedVariables false
set_option linter.unusedSimpArgs false
set_option maxRecDepth 4000
namespace Go.Sx.Wk
open Go Go.Sx Go.Proofs

theorem l1_any {ss : List Sp} {t l : List Int} {ut : Bool} {all beh : List (List Int)} {own : List Int} {cap : Option Nat} {s : Nat} {N : ST → Prop} {Q' : Exit → ST → Prop} (ht : ok8 t = true) (h4 : t.length ≤ 4) (hI : AInv t all) (hsm : all.length ≤ 4096) (hbl : beh.length < all.length) (hl : all[beh.length]? = some l) (hs : s < t.length) (how : own.length ≤ 4)
    (hcap : cap = none ∨ cap = some all.length)
    (fin : ∀ s' cap', (cap' = none ∨ cap' = cap ∧ (addS t l s all own).1 = all) → ChgT 0 s' (st46 t ut (addS t l s all own).1 beh (addS t l s all own).2 cap' (s + 1)) → N s') :
    XZ (rZ (spc ss)) 0 p46_l1 (st46 t ut all beh own cap s) (thenE N Q') := by
  rcases beh with _ | ⟨b0, br⟩ <;> rcases own with _ | ⟨o0, orr⟩
  · exact l1_NN ht h4 hI hsm hbl hl hs how hcap fin
  · exact l1_NC ht h4 hI hsm hbl hl hs how hcap fin
  · exact l1_CN ht h4 hI hsm hbl hl hs how hcap fin
  · exact l1_CC ht h4 hI hsm hbl hl hs how hcap fin
theorem addS_len {t l : List Int} {s : Nat} {all : List (List Int)} {own : List Int} : (addS t l s all own).2.length ≤ own.length + 1 := by
  unfold addS
  split
  · simp
  · split <;> simp
theorem addS_ok {t l : List Int} (h1 : ∀ y ∈ t, 1 ≤ y) (hv : val t l) {s : Nat} {all : List (List Int)} {own : List Int} (hs : s < t.length) (hI : AInv t all) (hB : Beh t all l own s) :
    AInv t (addS t l s all own).1 ∧ Beh t (addS t l s all own).1 l (addS t l s all own).2 (s + 1) ∧ ∃ k, (addS t l s all own).1 = all ++ k := by
  unfold addS
  cases ha : aftG (s : Nat) t l 0 with
  | none =>
    refine ⟨hI, ⟨fun j hj => ?_, fun s' q hs' hq => ?_⟩, [], by simp⟩
    · obtain ⟨n, e, q, s', a, b, c⟩ := hB.1 j hj
      exact ⟨n, e, q, s', by omega, b, c⟩
    · by_cases e : s' = s
      · subst e; rw [ha] at hq; cases hq
      · exact hB.2 s' q (by omega) hq
  | some q =>
    have hvq := aft_val hv h1 ha
    simp only
    cases hp : posL q all 0 with
    | some k =>
      have hk := (posL_get hp).2
      rw [Nat.sub_zero] at hk
      refine ⟨hI, ⟨fun j hj => ?_, fun s' q' hs' hq => ?_⟩, [], by simp⟩
      · rw [List.mem_append] at hj
        rcases hj with hj | hj
        · obtain ⟨n, e, q', s', a, b, c⟩ := hB.1 j hj
          exact ⟨n, e, q', s', by omega, b, c⟩
        · simp at hj; subst hj
          exact ⟨k, rfl, q, s, by omega, hk, ha⟩
      · by_cases e : s' = s
        · subst e; rw [ha] at hq; cases hq
          exact ⟨k, by simp, hk⟩
        · obtain ⟨n, a, b⟩ := hB.2 s' q' (by omega) hq
          exact ⟨n, by simp [a], b⟩
    | none =>
      have hn := posL_none hp
      have hget : (all ++ [q])[all.length]? = some q := by rw [List.getElem?_append_right (Nat.le_refl _)]; simp
      have hold : ∀ {n : Nat} {x : List Int}, all[n]? = some x → (all ++ [q])[n]? = some x := fun h => by
        rw [List.getElem?_append_left (List.getElem?_eq_some_iff.1 h).1]; exact h
      refine ⟨hI.app hvq hn, ⟨fun j hj => ?_, fun s' q' hs' hq => ?_⟩, [q], rfl⟩
      · rw [List.mem_append] at hj
        rcases hj with hj | hj
        · obtain ⟨n, e, q', s', a, b, c⟩ := hB.1 j hj
          exact ⟨n, e, q', s', by omega, hold b, c⟩
        · simp at hj; subst hj
          exact ⟨all.length, rfl, q, s, by omega, hget, ha⟩
      · by_cases e : s' = s
        · subst e; rw [ha] at hq; cases hq
          exact ⟨all.length, by simp, hget⟩
        · obtain ⟨n, a, b⟩ := hB.2 s' q' (by omega) hq
          exact ⟨n, by simp [a], hold b⟩
/-- The state before a new one is looked at. -/
def so46 (t : List Int) (ut : Bool) (all beh : List (List Int)) (cap : Option Nat) : ST :=
  ⟨[(0, .il (ints t) t.length ut), (4, .ref 0 0 all.length 4 cap), (5, .map 1), (6, owL 2 beh), (7, vI beh.length)], hp46 t all ++ bwL beh, 4⟩
theorem AInv.len {t : List Int} {all : List (List Int)} (ht : ok8 t = true) (h4 : t.length ≤ 4) (h : AInv t all) : all.length ≤ 4096 := by
  have := h.cnt
  have := stL_len ht h4
  omega
theorem ren_owL (g : Nat → Nat) (id : Nat) (l : List (List Int)) : ren g (owL id l) = owL (g id) l := by cases l <;> simp
theorem ren_ow (g : Nat → Nat) (id : Nat) (l : List Int) : ren g (ow id l) = ow (g id) l := by cases l <;> simp
/-- All the stretches of one. -/
theorem l1_loop {ss : List Sp} {t l : List Int} {ut : Bool} {all beh : List (List Int)} {cap : Option Nat} {s0 : ST} {Q2 : Exit → ST → Prop} (ht : ok8 t = true) (h4 : t.length ≤ 4) (hB : BInv t all beh) (hl : all[beh.length]? = some l)
    (hcap : cap = none ∨ cap = some all.length) (hs0 : ChgT 0 s0 (st46 t ut all beh [] cap 0))
    (hq : ∀ cap', (cap' = none ∨ cap' = some (addR t l t.length all []).1.length) → Q2 (.exit 2) (st46 t ut (addR t l t.length all []).1 beh (addR t l t.length all []).2 cap' t.length)) :
    XZ (rZ (spc ss)) 0 (.loop p46_l1) s0 Q2 := by
  have h1 : ∀ y ∈ t, 1 ≤ y := fun y hy => (ok8_iff.1 ht y hy).1
  have hv := hB.ai.vs l (List.mem_of_getElem? hl)
  refine XZ_for (fun p : Nat × List (List Int) × List Int × Option Nat => st46 t ut p.2.1 beh p.2.2.1 p.2.2.2 p.1) (fun p => t.length - p.1)
    (fun p => p.1 ≤ t.length ∧ AInv t p.2.1 ∧ (∃ k, p.2.1 = all ++ k) ∧ Beh t p.2.1 l p.2.2.1 p.1 ∧ p.2.2.1.length ≤ p.1 ∧ (p.2.2.2 = none ∨ p.2.2.2 = some p.2.1.length) ∧ addR t l (t.length - p.1) p.2.1 p.2.2.1 = addR t l t.length all []) (0, all, [], cap)
    ⟨by simp, hB.ai, ⟨[], by simp⟩, ⟨fun j hj => by simp at hj, fun s q hs => by omega⟩, by simp, hcap, by simp⟩ hs0 ?_
  rintro ⟨s, al, own, cp⟩ ⟨hs, hI, ⟨k, hk⟩, hBh, hol, hcp, hR⟩ N Q' hN hE
  simp only at hs hI hk hBh hol hcp hR ⊢
  have hbl : beh.length < all.length := (List.getElem?_eq_some_iff.1 hl).1
  have hbl' : beh.length < al.length := by rw [hk]; simp; omega
  have hl' : al[beh.length]? = some l := by rw [hk, List.getElem?_append_left hbl]; exact hl
  rcases Nat.lt_or_ge s t.length with h | h
  · obtain ⟨r, hr⟩ : ∃ r, t.length - s = r + 1 := ⟨t.length - s - 1, by omega⟩
    have hrs : t.length - (r + 1) = s := by omega
    have hr' : t.length - (s + 1) = r := by omega
    rw [hr, addR_succ, hrs] at hR
    refine l1_any ht h4 hI (hI.len ht h4) hbl' hl' h (by omega) hcp fun s' cap' hc' hh => ?_
    have step := addS_ok h1 hv h hI hBh
    obtain ⟨a1, a2, k', a3⟩ := step
    refine hN s' (s + 1, (addS t l s al own).1, (addS t l s al own).2, cap') (by simp only; omega) ⟨h, a1, ⟨k ++ k', by rw [a3, hk]; simp⟩, a2, ?_, ?_, by simp only [hr']; exact hR⟩ hh
    · have := addS_len (t := t) (l := l) (s := s) (all := al) (own := own)
      simp only; omega
    · rcases hc' with hc | ⟨hc, he⟩
      · exact .inl hc
      · simp only [he, hc]; exact hcp
  · have hst : s = t.length := by omega
    subst hst
    have h0 : t.length - t.length = 0 := by omega
    rw [h0] at hR
    simp only [addR] at hR
    rw [← hR] at hq
    rcases beh with _ | ⟨b0, br⟩ <;> rcases own with _ | ⟨o0, orr⟩ <;> (simp only [st46, hp46, bwL, owL3] at hq ⊢; delta p46_l1 p46_r10 p46_r11 p46_r12 p46_r13 p46_r14; simp (disch := omega) [oLt, oLe, oLtN, oLeN, nLt, nLe, nLtN, nLeN]; exact hE _ _ _ (.to [0, 1, 2, 3] (by simp)) (hq cp hcp))
end Go.Sx.Wk
set_option maxRecDepth 4000
namespace Go.Sx.Wk
open Go Go.Sx Go.Proofs

theorem mI_fr (id : Nat) (cs : List AV) (m : List (List Int × Int)) : (mI m).map (fun p => (p.1, frA id cs p.2)) = mI m := by
  induction m with
  | nil => rfl
  | cons p m ih => simp only [mI, mM, List.map_cons] at ih ⊢; rw [ih]; rfl
theorem wk_last (A : List AV) : ∀ (i : Nat) x y, (A ++ [AV.v (.slice none 0 0)])[i]? = some x → (A ++ [AV.il [] 0 false])[i]? = some y → WkA x y := fun i x y hx hy => by
  rcases Nat.lt_or_ge i A.length with h | h
  · rw [List.getElem?_append_left h] at hx hy
    rw [hx] at hy; cases hy; exact .refl
  · rw [List.getElem?_append_right h] at hx hy
    generalize i - A.length = j at *
    rcases j with _ | j
    · simp at hx hy; subst hx hy; exact .nil
    · simp at hx
theorem addR_len (t l : List Int) : ∀ (r : Nat) (all : List (List Int)) (own : List Int), (addR t l r all own).2.length ≤ own.length + r
  | 0, all, own => by simp [addR]
  | r + 1, all, own => by
    rw [addR_succ]
    have h1 := addR_len t l r (addS t l (t.length - (r + 1)) all own).1 (addS t l (t.length - (r + 1)) all own).2
    have h2 := addS_len (t := t) (l := l) (s := t.length - (r + 1)) (all := all) (own := own)
    omega
/-- All of them. -/
theorem l2_loop {ss : List Sp} {t : List Int} {ut : Bool} {cap : Option Nat} {s0 : ST} {Q2 : Exit → ST → Prop} (ht : ok8 t = true) (h4 : t.length ≤ 4) (hB : BInv t [t] []) (hcap : cap = none ∨ cap = some 1) (hs0 : ChgT 0 s0 (so46 t ut [t] [] cap))
    (hq : ∀ all beh cap', BInv t all beh → (∀ own ∈ beh, own.length ≤ 4) → beh.length = all.length → Q2 (.exit 0) (so46 t ut all beh cap')) :
    XZ (rZ (spc ss)) 0 (.loop p46_l2) s0 Q2 := by
  have h1 : ∀ y ∈ t, 1 ≤ y := fun y hy => (ok8_iff.1 ht y hy).1
  refine XZ_for (fun p : List (List Int) × List (List Int) × Option Nat => so46 t ut p.1 p.2.1 p.2.2) (fun p => 5000 - p.2.1.length)
    (fun p => BInv t p.1 p.2.1 ∧ (∀ own ∈ p.2.1, own.length ≤ 4) ∧ (p.2.2 = none ∨ p.2.2 = some p.1.length)) ([t], [], cap) ⟨hB, by simp, hcap⟩ hs0 ?_
  rintro ⟨all, beh, cp⟩ ⟨hI, how, hcp⟩ N Q' hN hE
  simp only at hI how hcp ⊢
  have hal := hI.ai.len ht h4
  have hbl := hI.bl
  rcases Nat.lt_or_ge beh.length all.length with h | h
  · obtain ⟨l, hl⟩ : ∃ l, all[beh.length]? = some l := ⟨all[beh.length], by simp [h]⟩
    have hst := hI.step h1 hl
    have hloop := fun s0 Q2 hs0 hq => l1_loop (ss := ss) (t := t) (l := l) (ut := ut) (all := all) (beh := beh) (cap := cp) (s0 := s0) (Q2 := Q2) ht h4 hI hl hcp hs0 hq
    have hal' := hst.ai.len ht h4
    have hbl' := hst.bl
    have hrl := addR_len t l t.length all []
    simp only [List.length_nil, Nat.zero_add] at hrl
    have fin : ∀ s' cap', (cap' = none ∨ cap' = some (addR t l t.length all []).1.length) → ChgT 0 s' (so46 t ut (addR t l t.length all []).1 (beh ++ [(addR t l t.length all []).2]) cap') → N s' := fun s' cap' hc hh =>
      hN s' (_, _, cap') (by simp only [List.length_append, List.length_cons, List.length_nil]; omega) ⟨hst, fun own ho => by rw [List.mem_append] at ho; rcases ho with ho | ho; exact how own ho; simp at ho; subst ho; omega, hc⟩ hh
    clear hN hst
    generalize addR t l t.length all [] = R at *
    obtain ⟨al, own⟩ := R
    simp only at hloop fin hal' hbl'
    clear hrl how
    rcases beh with _ | ⟨b0, br⟩
    · simp only [List.length_nil] at h
      simp only [so46, hp46, bwL]
      delta p46_l2 p46_r7 p46_r8 p46_r9
      simp (disch := omega) [oLt, oLe, oLtN, oLeN, nLt, nLe, nLtN, nLeN, h]
      refine hloop _ _ (by simp only [st46, hp46, bwL, owL3]; exact .to [0, 1, 2, 3] (by simp)) fun cap' hc => ?_
      rcases own with _ | ⟨o0, orr⟩
      · simp only [st46, hp46, bwL, owL3]
        delta p46_r29 p46_r30
        simp (disch := omega) [oLt, oLe, oLtN, oLeN, nLt, nLe, nLtN, nLeN]
        refine fin _ cap' hc (.trans (.to [0, 1, 7, 3] (s' := ⟨[(0, .il (ints t) t.length ut), (4, .ref 0 0 al.length 4 cap'), (5, .map 1), (6, .ref 2 0 1 1 none), (7, vI 1)], [(0, .cells (ints (al.flatMap (pad t)))), (1, .map (mI (numA t al 0))), (2, .cells ([] ++ [.v (.slice none 0 0)]))], 4⟩) (by simp)) (.weak (s' := ⟨[(0, .il (ints t) t.length ut), (4, .ref 0 0 al.length 4 cap'), (5, .map 1), (6, .ref 2 0 1 1 none), (7, vI 1)], [(0, .cells (ints (al.flatMap (pad t)))), (1, .map (mI (numA t al 0))), (2, .cells ([] ++ [.il [] 0 false]))], 4⟩) ?_ ?_ rfl (.to [0, 1, 2, 3] (by simp [so46, hp46, bwL]))))
        · exact ⟨rfl, .refl, rfl, .refl, rfl, .refl, rfl, .refl, rfl, .refl, trivial⟩
        · exact ⟨rfl, .refl, rfl, .refl, rfl, ⟨rfl, wk_last []⟩, trivial⟩
      · simp only [st46, hp46, bwL, owL3]
        delta p46_r29 p46_r30
        simp (disch := omega) [oLt, oLe, oLtN, oLeN, nLt, nLe, nLtN, nLeN]
        exact fin _ cap' hc (.frz 3 (by simp; rfl) (by simp) (.to [0, 1, 7, 3] (by simp [so46, hp46, bwL, mI_fr])))
    · simp only [List.length_cons] at h hbl' hal'
      simp only [so46, hp46, bwL]
      delta p46_l2 p46_r7 p46_r8 p46_r9
      simp (disch := omega) [oLt, oLe, oLtN, oLeN, nLt, nLe, nLtN, nLeN, h]
      refine hloop _ _ (by simp only [st46, hp46, bwL, owL3]; exact .to [0, 1, 2, 3] (by simp)) fun cap' hc => ?_
      rcases own with _ | ⟨o0, orr⟩
      · simp only [st46, hp46, bwL, owL3]
        delta p46_r29 p46_r30
        simp (disch := omega) [oLt, oLe, oLtN, oLeN, nLt, nLe, nLtN, nLeN]
        refine fin _ cap' hc (.trans (.to [0, 1, 7, 3] (s' := ⟨[(0, .il (ints t) t.length ut), (4, .ref 0 0 al.length 4 cap'), (5, .map 1), (6, .ref 2 0 (br.length + 1 + 1) 1 none), (7, vI ((br.length : Int) + 1 + 1))], [(0, .cells (ints (al.flatMap (pad t)))), (1, .map (mI (numA t al 0))), (2, .cells ((.il (ints b0) b0.length false :: lls br) ++ [.v (.slice none 0 0)]))], 4⟩) (by simp)) (.weak (s' := ⟨[(0, .il (ints t) t.length ut), (4, .ref 0 0 al.length 4 cap'), (5, .map 1), (6, .ref 2 0 (br.length + 1 + 1) 1 none), (7, vI ((br.length : Int) + 1 + 1))], [(0, .cells (ints (al.flatMap (pad t)))), (1, .map (mI (numA t al 0))), (2, .cells ((.il (ints b0) b0.length false :: lls br) ++ [.il [] 0 false]))], 4⟩) ?_ ?_ rfl (.to [0, 1, 2, 3] (by simp [so46, hp46, bwL]))))
        · exact ⟨rfl, .refl, rfl, .refl, rfl, .refl, rfl, .refl, rfl, .refl, trivial⟩
        · exact ⟨rfl, .refl, rfl, .refl, rfl, ⟨by simp, wk_last _⟩, trivial⟩
      · simp only [st46, hp46, bwL, owL3]
        delta p46_r29 p46_r30
        simp (disch := omega) [oLt, oLe, oLtN, oLeN, nLt, nLe, nLtN, nLeN]
        exact fin _ cap' hc (.frz 3 (by simp; rfl) (by simp) (.to [0, 1, 7, 3] (by simp [so46, hp46, bwL, mI_fr])))
  · have he : beh.length = all.length := by omega
    have hqq := hq all beh cp hI how he
    have h' : ¬ (beh.length : Int) < all.length := by omega
    rcases beh with _ | ⟨b0, br⟩
    · simp only [List.length_nil] at h'
      simp only [so46, hp46, bwL] at hqq ⊢
      delta p46_l2 p46_r7 p46_r8 p46_r9
      simp (disch := omega) [oLt, oLe, oLtN, oLeN, nLt, nLe, nLtN, nLeN, h']
      exact hE _ _ _ (.to [0, 1, 2, 3] (by simp)) hqq
    · simp only [List.length_cons] at h'
      simp only [so46, hp46, bwL] at hqq ⊢
      delta p46_l2 p46_r7 p46_r8 p46_r9
      simp (disch := omega) [oLt, oLe, oLtN, oLeN, nLt, nLe, nLtN, nLeN, h']
      exact hE _ _ _ (.to [0, 1, 2, 3] (by simp)) hqq
end Go.Sx.Wk
set_option maxRecDepth 4000
namespace Go.Sx.Wk
open Go Go.Sx Go.Proofs

def cellG (g : List Bool) (u : Bool) : HL := [(0, .cells [.il (bls g) g.length u])]
/-- Whether one is not gone. -/
def notG (g : List Bool) (x : Int) : Bool := !((g[x.toNat]?).getD true)
def f74 : List AV → HL → Nat → Option (AV × HL × Nat) := fun args h k => match args, h, k with
  | [.v (.int .i64 x), .ptr 0 0], [(0, .cells [.il cg n u])], 1 => match unbls cg with
    | some g => if n = g.length ∧ 0 ≤ x ∧ x < g.length then some (vB (notG g x), [(0, .cells [.il cg n u])], 1) else none
    | none => none
  | _, _, _ => none
def s74 : Sp := ⟨74, f74⟩
@[simp] theorem s74_g : s74.g = 74 := rfl
@[simp] theorem s74_f : s74.f = f74 := rfl
theorem s74_ok : s74.ok Try.prog := by
  intro args h k r h' k' hh
  simp only [s74_f, f74] at hh
  split at hh
  · rename_i x cg n u
    split at hh
    · rename_i g hg
      split at hh
      · rename_i hc
        obtain ⟨hn, h0, h1⟩ := hc
        cases hh
        obtain ⟨x, rfl⟩ := Int.eq_ofNat_of_zero_le h0
        have hx : x < g.length := by omega
        rw [unbls_inv hg, hn]
        simp only [hp_eq]
        refine P74.rz (ss := []) trivial (by simp) fun Q hQ => ?_
        delta p74 p74_r0 p74_r1
        simp (disch := omega) [oLt, oLe, oLtN, oLeN, nLt, nLe, nLtN, nLeN, hx]
        exact hQ _ _ (.same (.inl rfl) (by simp [notG, hx]) rfl rfl rfl (by simp))
      · cases hh
    · cases hh
  · cases hh
def f58g (c : Int → AV) : List AV → HL → Nat → Option (AV × HL × Nat) := fun args h k => match args, h, k with
  | [.il cs n _, .fn (.func 74) [] [.ptr 0 0]], [(0, .cells [.il cg m u])], 1 => match unints cs with
    | some l => match unbls cg with
      | some g => if n = l.length ∧ l.length ≤ 1000000 ∧ m = g.length ∧ l.all (fun x => within 0 x (g.length - 1)) = true then some (c (first (notG g) l 0), [(0, .cells [.il cg m u])], 1) else none
      | none => none
    | none => none
  | _, _, _ => none
theorem f58g_ok {f : Nat} {c : Int → AV} (hr : ∀ (l : List Int) (g : List Bool) (ul u : Bool), l.length ≤ 1000000 → (∀ x ∈ l, 0 ≤ x ∧ x ≤ g.length - 1) → Runs Try.prog f 1 [.il (ints l) l.length ul, .fn (.func 74) [] [.ptr 0 0]] (hpF (cellG g u)) (c (first (notG g) l 0)) 1 (hpF (cellG g u))) : (⟨f, f58g c⟩ : Sp).ok Try.prog := by
  intro args h k r h' k' hh
  simp only [f58g] at hh
  split at hh
  · rename_i cs n ul cg m u
    split at hh
    · rename_i l hl
      split at hh
      · rename_i g hg
        split at hh
        · rename_i hc
          obtain ⟨hn, h1, hm, h2⟩ := hc
          cases hh
          rw [unbls_inv hg, unints_inv hl, hn, hm]
          simp only [hp_eq]
          exact hr l g ul u h1 fun x hx => by simpa using List.all_eq_true.1 h2 x hx
        · cases hh
      · cases hh
    · cases hh
  · cases hh
def s80g : Sp := ⟨80, f58g vI⟩
@[simp] theorem s80g_g : s80g.g = 80 := rfl
@[simp] theorem s80g_f : s80g.f = f58g vI := rfl
theorem s80g_ok : s80g.ok Try.prog := by
  refine f58g_ok fun l g ul u hl hx => ?_
  refine indexFunc_runsK (ss := [s74]) ⟨s74_ok, trivial⟩ (g := 74) (cap := [.ptr 0 0]) (k := 1) (H := cellG g u) (p := notG g) (l := l) (u := ul) hl rfl rfl (fun n => by simp [-gT]; rfl) (fun n => by simp [cellG]) (fun x hxl => ?_)
  have hxb := hx x hxl
  have hxl : x < g.length := by omega
  refine ⟨[0], [0], [some (.cells [.il (bls g) g.length u])], ?_, ?_⟩
  · simp [cellG, f74, hxb.1, hxl]
  · simp [cellG]
def s58g : Sp := ⟨58, f58g fun n => vB (decide (0 ≤ n))⟩
@[simp] theorem s58g_g : s58g.g = 58 := rfl
@[simp] theorem s58g_f : s58g.f = f58g (fun n => vB (decide (0 ≤ n))) := rfl
theorem s58g_ok : s58g.ok Try.prog := by
  refine f58g_ok fun l g ul u hl hx => ?_
  have hall : l.all (fun x => within 0 x (g.length - 1)) = true := List.all_eq_true.2 fun x h => by simpa using hx x h
  refine P58.rz (ss := [s80g]) ⟨s80g_ok, trivial⟩ (by simp) fun Q hQ => ?_
  delta p58 p58_r0 p58_r1
  simp [cellG, f58g, hl, hall, -within_iff, -List.all_eq_true]
  refine hQ _ _ (.same (.inl rfl) ?_ rfl rfl rfl (by simp [cellG]))
  simp
  rw [Bool.eq_iff_iff]; simp
/-- A copy of a list. -/
def f73 : List AV → HL → Nat → Option (AV × HL × Nat) := fun args h k => match args, h, k with
  | [.il (x :: cs) n u], [], 0 => match unbls (x :: cs) with
    | some l => if n = l.length ∧ l.length ≤ 1000000 then some (.ref 0 0 l.length 1 none, [(0, .cells (bls l))], 1) else none
    | none => none
  | _, _, _ => none
def s73 : Sp := ⟨73, f73⟩
@[simp] theorem s73_g : s73.g = 73 := rfl
@[simp] theorem s73_f : s73.f = f73 := rfl
theorem s73_ok : s73.ok Try.prog := by
  intro args h k r h' k' hh
  simp only [s73_f, f73] at hh
  split at hh
  · rename_i x cs n u
    split at hh
    · rename_i l hl
      split at hh
      · rename_i hc
        obtain ⟨hn, hsl⟩ := hc
        cases hh
        have e := unbls_inv hl
        rw [e, hn]
        simp only [hp_eq]
        rcases l with _ | ⟨l0, lr⟩
        · simp at e
        simp only [List.length_cons] at hsl
        refine P73.rz (ss := []) trivial (by simp) fun Q hQ => ?_
        delta p73 p73_r0 p73_r1 p73_r2 p73_r3
        simp (disch := omega) [oLt, oLe, oLtN, oLeN, nLt, nLe, nLtN, nLeN, effEqn, nilA]
        exact hQ _ _ (EndsP_at [5] (.inl rfl) (by simp) rfl (by simp) rfl (by simp))
      · cases hh
    · cases hh
  · cases hh
def s75 : Sp := spT 75 [.bs, .bs] fun (a b : List Bool) => res (decide (a.length ≤ 1000000) && decide (a.length = b.length)) (vB (decide (a = b)))
@[simp] theorem s75_g : s75.g = 75 := rfl
@[simp] theorem s75_f : s75.f = (spT 75 [.bs, .bs] fun (a b : List Bool) => res (decide (a.length ≤ 1000000) && decide (a.length = b.length)) (vB (decide (a = b)))).f := rfl
theorem s75_ok : s75.ok Try.prog := by
  apply spT_ok
  simp only [OkT, Ty.all, List.nil_append, List.cons_append]
  intro (a : List Bool) ua (b : List Bool) ub
  apply okT_res; intro hs
  refine P75.rz (ss := []) trivial (by simp) fun Q hQ => ?_
  delta p75 p75_r0 p75_r1 p75_r2 p75_r3
  simp only [Bool.and_eq_true, decide_eq_true_eq] at hs
  obtain ⟨hla, hl⟩ := hs
  have hlc : (a.length : Int) = b.length := by omega
  simp (disch := omega) [oLt, oLe, oLtN, oLeN, nLt, nLe, nLtN, nLeN, hl, hlc]
  refine XZ_for (fun i : Nat => ⟨[(0, .il (bls a) a.length ua), (1, .il (bls b) b.length ub), (12, vI a.length), (13, vI i)], [], 0⟩) (fun i => a.length - i) (fun i => i ≤ a.length ∧ (a.drop i = b.drop i ↔ a = b)) 0 (by simp) (.to [] (by simp [hl])) ?_
  rintro i ⟨hi, hb⟩ N Q' hN hE
  rcases Nat.lt_or_ge i a.length with h | h
  · obtain ⟨x, r, d1, d2, d3, d4, d5⟩ := drop_split h
    have h' : i < b.length := by omega
    obtain ⟨y, r', e1, e2, e3, e4, e5⟩ := drop_split h'
    rw [d1, e1] at hb
    by_cases hx : x = y
    · subst hx
      delta p75_l0 p75_r4 p75_r5 p75_r6 p75_r7 p75_r8
      simp (disch := omega) [oLt, oLe, oLtN, oLeN, nLt, nLe, nLtN, nLeN, h, h', d2, d3, e2, e3]
      refine hN _ (i + 1) (by omega) ⟨h, ?_⟩ (.to [] (by simp))
      rw [d4, e4, ← hb]; simp
    · have hne : ¬ a = b := fun e => by
        have := hb.2 e
        simp only [List.cons.injEq] at this
        exact hx this.1
      delta p75_l0 p75_r4 p75_r5 p75_r6 p75_r7 p75_r8
      simp (disch := omega) [oLt, oLe, oLtN, oLeN, nLt, nLe, nLtN, nLeN, h, h', d2, d3, e2, e3, hx]
      exact hE _ _ _ .refl (hQ _ _ (.p (.inl rfl) (by simp [hne]) rfl))
  · have h' : ¬ i < a.length := by omega
    have heq : a = b := hb.1 (by rw [List.drop_eq_nil_of_le h, List.drop_eq_nil_of_le (by omega)])
    delta p75_l0 p75_r4 p75_r5 p75_r6 p75_r7 p75_r8
    simp (disch := omega) [oLt, oLe, oLtN, oLeN, nLt, nLe, nLtN, nLeN, h']
    refine hE _ _ _ .refl ?_
    delta p75_r9
    simp (disch := omega) [oLt, oLe, oLtN, oLeN, nLt, nLe, nLtN, nLeN]
    exact hQ _ _ (.p (.inl rfl) (by simp [heq]) rfl)
end Go.Sx.Wk
