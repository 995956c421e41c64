/- What functions of the outright laws return: how long walks are; a step of the search. No conditions. -/
import Derived.Test.YtmakepdccccmaaaSxJNPtoL2
set_option linter.unusedVariables false
set_option linter.unusedSimpArgs false
set_option maxRecDepth 4000
namespace Go.Sx.Wk
open Go Go.Sx Go.Proofs

/-- One stretch of one of all that can be left. -/
def addS (t l : List Int) (s : Nat) (all : List (List Int)) (own : List Int) : List (List Int) × List Int := match aftG (s : Nat) t l 0 with
  | none => (all, own)
  | some q => match posL q all 0 with
    | some k => (all, own ++ [(k : Int)])
    | none => (all ++ [q], own ++ [(all.length : Int)])
theorem addR_succ (t l : List Int) (r : Nat) (all : List (List Int)) (own : List Int) : addR t l (r + 1) all own = addR t l r (addS t l (t.length - (r + 1)) all own).1 (addS t l (t.length - (r + 1)) all own).2 := by
  simp only [addR, addS]
  cases aftG ((t.length - (r + 1) : Nat) : Int) t l 0 with
  | none => rfl
  | some q => simp only; cases posL q all 0 <;> rfl
theorem posL_end {q : List Int} : ∀ {L : List (List Int)} {i : Nat}, posL q L i = none → posL q (L ++ [q]) i = some (i + L.length)
  | [], i, _ => by simp [posL]
  | x :: r, i, h => by
    simp only [posL] at h
    by_cases hx : x = q
    · rw [if_pos hx] at h; cases h
    · rw [if_neg hx] at h
      simp only [List.cons_append, posL, if_neg hx, posL_end h, List.length_cons]
      congr 1; omega
def bwL (beh : List (List Int)) : HL := match beh with
  | [] => []
  | b :: r => [(2, .cells (lls (b :: r)))]
def owL3 (own : List Int) : HL := match own with
  | [] => []
  | a :: r => [(3, .cells (ints (a :: r)))]
/-- The state of the search. -/
def hp46 (t : List Int) (all : List (List Int)) : HL := [(0, .cells (ints (all.flatMap (pad t)))), (1, .map (mI (numA t all 0)))]
def st46 (t : List Int) (ut : Bool) (all beh : List (List Int)) (own : List Int) (cap : Option Nat) (s : Nat) : ST :=
  ⟨[(0, .il (ints t) t.length ut), (4, .ref 0 0 all.length 4 cap), (5, .map 1), (6, owL 2 beh), (7, vI beh.length), (8, ow 3 own), (35, vI t.length), (36, vI s)], hp46 t all ++ bwL beh ++ owL3 own, 4⟩

set_option maxHeartbeats 4000000 in
theorem l1_NN {ss : List Sp} {t l : List Int} {ut : Bool} {all : List (List Int)} {cap : Option Nat} {s : Nat} {N : ST → Prop} {Q' : Exit → ST → Prop} (ht : ok8 t = true) (h4 : t.length ≤ 4) (hI : AInv t all) (hsm : all.length ≤ 4096) (hbl : 0 < all.length) (hl : all[0]? = some l) (hs : s < t.length) (how : 0 ≤ 4)
    (hcap : cap = none ∨ cap = some all.length)
    (fin : ∀ s' cap', (cap' = none ∨ cap' = cap ∧ (addS t l s all []).1 = all) → ChgT 0 s' (st46 t ut (addS t l s all []).1 [] (addS t l s all []).2 cap' (s + 1)) → N s') :
    XZ (rZ (spc ss)) 0 p46_l1 (st46 t ut all [] [] cap s) (thenE N Q') := by
  have ht8 := ok8_iff.1 ht
  have h1 : ∀ y ∈ t, 1 ≤ y := fun y hy => (ht8 y hy).1
  have hv := hI.vs l (List.mem_of_getElem? hl)
  have hl4 : ∀ {x : List Int}, val t x → (pad t x).length = 4 := fun hv => pad_len (val_len hv) h4
  have hP4 := hl4 hv
  have hPt : (pad t l).take 4 = pad t l := List.take_of_length_le (by omega)
  have hFl := flat_len (t := t) (M := all) (fun x hx => hl4 (hI.vs x hx))
  have hFa := flat_at (t := t) (x := l) (M := all) (fun x hx => hl4 (hI.vs x hx)) hl
  have hFk : 0 * 4 + 4 ≤ all.length * 4 := by omega
  have hp8 : ∀ y ∈ pad t l, 0 ≤ y ∧ y ≤ 8 := fun y hy => by
    have := stOk_pad ht h4 hv
    simp only [stOkB, Bool.and_eq_true, List.all_eq_true, within_iff] at this
    exact this.2 y hy
  have hstp := stp_pad (val_len hv) (t := t) s
  obtain ⟨tx, htx⟩ : ∃ tx, t[s]? = some tx := ⟨t[s], by simp [hs]⟩
  have htx' : t[s] = tx := (List.getElem?_eq_some_iff.1 htx).2
  obtain ⟨p, hp⟩ : ∃ p, p = pad t l := ⟨_, rfl⟩
  rw [← hp] at hP4 hPt hFa hp8 hstp
  obtain ⟨F, hF⟩ : ∃ F, F = all.flatMap (pad t) := ⟨_, rfl⟩
  rw [← hF] at hFl hFa
  simp only [Nat.zero_mul, List.drop_zero] at hFa
  have inner : ∀ (s0 : ST) (Q2 : Exit → ST → Prop), ChgT 0 s0 ⟨[(0, .il (ints t) t.length ut), (4, .ref 0 0 all.length 4 cap), (5, .map 1), (6, .v (.slice none 0 0)), (7, vI 0), (8, .v (.slice none 0 0)), (9, vI s), (10, .ptr 4 0), (11, vB true), (35, vI t.length), (36, vI s), (44, vI t.length), (45, vI ((0 : Nat) : Int))], [(0, .cells (ints F)), (1, .map (mI (numA t all 0)))] ++ [] ++ [] ++ [(4, Blk.cells (ints p))], 5⟩ →
      (∀ m g, (g = true ∧ stp t s p = some (m.set s tx) ∨ g = false ∧ stp t s p = none) → m.length = 4 → Q2 (.exit 4) ⟨[(0, .il (ints t) t.length ut), (4, .ref 0 0 all.length 4 cap), (5, .map 1), (6, .v (.slice none 0 0)), (7, vI 0), (8, .v (.slice none 0 0)), (9, vI s), (10, .ptr 4 0), (11, vB g), (35, vI t.length), (36, vI s)], [(0, .cells (ints F)), (1, .map (mI (numA t all 0)))] ++ [] ++ [] ++ [(4, Blk.cells (ints m))], 5⟩) → XZ (rZ (spc ss)) 0 (.loop p46_l0) s0 Q2 := by
    intro s0 Q2 hs0 hq
    refine XZ_for (fun q : Nat × Bool => ⟨[(0, .il (ints t) t.length ut), (4, .ref 0 0 all.length 4 cap), (5, .map 1), (6, .v (.slice none 0 0)), (7, vI 0), (8, .v (.slice none 0 0)), (9, vI s), (10, .ptr 4 0), (11, vB q.2), (35, vI t.length), (36, vI s), (44, vI t.length), (45, vI q.1)], [(0, .cells (ints F)), (1, .map (mI (numA t all 0)))] ++ [] ++ [] ++ [(4, Blk.cells (ints (decT q.1 p)))], 5⟩) (fun q => t.length - q.1)
      (fun q => q.1 ≤ t.length ∧ (q.2 = true ∧ (aftG s (t.drop q.1) ((p.take t.length).drop q.1) q.1).map (((p.take q.1).map (· - 1)).set s tx ++ ·) = aftG s t (p.take t.length) 0 ∨ q.2 = false ∧ aftG s t (p.take t.length) 0 = none)) (0, true) ⟨by simp, .inl ⟨rfl, by simp⟩⟩ (by rw [decT_zero]; exact hs0) ?_
    rintro ⟨i, g⟩ ⟨hi, hb2⟩ N2 Q3 hN2 hE2
    simp only at hi hb2 ⊢
    have hml := decT_len i p
    rcases Nat.lt_or_ge i t.length with h | h
    · obtain ⟨y, r, e1, e2, e3, e4, e5⟩ := drop_split h
      have hpl : (p.take t.length).length = t.length := by simp; omega
      obtain ⟨z, q, f1, f2, f3, f4, f5⟩ := drop_split (show i < (p.take t.length).length by omega)
      have hip : i < p.length := by omega
      have hi4 : i < 4 := by omega
      have hz : p[i]? = some z := by rw [List.getElem?_take] at f2; rwa [if_pos h] at f2
      have hz8 := hp8 z (List.mem_of_getElem? hz)
      have g1 := decT_get hip
      rw [hz] at g1
      have g1' : (decT i p)[i]'(by omega) = z := (List.getElem?_eq_some_iff.1 g1).2
      have g2 := decT_set hz
      have g3 : (decT (i + 1) p)[i]? = some (z - 1) := by rw [← g2]; simp [hml, hip]
      have g4 : (decT (i + 1) p).length = p.length := decT_len _ _
      have g3' : (decT (i + 1) p)[i]'(by omega) = z - 1 := (List.getElem?_eq_some_iff.1 g3).2
      rw [e1, f1] at hb2
      simp only [aftG] at hb2
      have tk : (p.take (i + 1)).map (· - 1) = (p.take i).map (· - 1) ++ [z - 1] := by rw [List.take_add_one, hz]; simp
      have tl : ((p.take i).map (· - 1)).length = i := by simp; omega
      by_cases hix : i = s
      · subst hix
        delta p46_l0 p46_r15 p46_r16 p46_r17 p46_r18 p46_r19 p46_r20
        simp (disch := omega) [oLt, oLe, oLtN, oLeN, nLt, nLe, nLtN, nLeN, h, hml, hP4, hi4, g1, g1', g2, g3, g3', g4]
        refine hN2 _ (i + 1, g) (by simp only; omega) ⟨h, ?_⟩ (.to [0, 1, 2, 3, 4] (by simp))
        rcases hb2 with ⟨hg, hb2⟩ | hb2
        · left
          refine ⟨hg, ?_⟩
          rw [if_pos rfl, map_app] at hb2
          simp only [e4, f4, tk]
          have : tx = y := by rw [htx] at e2; simpa using e2
          subst this
          rw [List.set_append_right _ _ (by omega), tl, Nat.sub_self, List.set_cons_zero]
          rw [List.set_eq_of_length_le (by omega)] at hb2
          simpa using hb2
        · exact .inr hb2
      · have hixI : ¬ (i : Int) = s := by omega
        by_cases hz1 : z = 1
        · subst hz1
          simp only [Int.sub_self] at g2 g3 g3'
          delta p46_l0 p46_r15 p46_r16 p46_r17 p46_r18 p46_r19 p46_r20
          simp (disch := omega) [oLt, oLe, oLtN, oLeN, nLt, nLe, nLtN, nLeN, h, hml, hP4, hi4, g1, g1', g2, g3, g3', g4, hixI]
          refine hN2 _ (i + 1, false) (by simp only; omega) ⟨h, .inr ⟨rfl, ?_⟩⟩ (.to [0, 1, 2, 3, 4] (by simp))
          rcases hb2 with ⟨hg, hb2⟩ | hb2
          · rw [if_neg hixI, if_pos rfl] at hb2
            simpa using hb2.symm
          · exact hb2.2
        · have hz0 : ¬ z - 1 = 0 := by omega
          delta p46_l0 p46_r15 p46_r16 p46_r17 p46_r18 p46_r19 p46_r20
          simp (disch := omega) [oLt, oLe, oLtN, oLeN, nLt, nLe, nLtN, nLeN, h, hml, hP4, hi4, g1, g1', g2, g3, g3', g4, hixI, hz0]
          refine hN2 _ (i + 1, g) (by simp only; omega) ⟨h, ?_⟩ (.to [0, 1, 2, 3, 4] (by simp))
          rcases hb2 with ⟨hg, hb2⟩ | hb2
          · left
            refine ⟨hg, ?_⟩
            rw [if_neg hixI, if_neg hz1, map_app] at hb2
            simp only [e4, f4, tk]
            have : ((p.take i).map (· - 1) ++ [z - 1]).set s tx = ((p.take i).map (· - 1)).set s tx ++ [z - 1] := by
              rcases Nat.lt_or_ge s i with hlt | hge
              · rw [set_app_lt (by omega)]
              · rw [List.set_eq_of_length_le (by simp; omega), List.set_eq_of_length_le (by omega)]
            rw [this]
            exact hb2
          · exact .inr hb2
    · have hit : i = t.length := by omega
      subst hit
      rw [List.drop_eq_nil_of_le (Nat.le_refl _)] at hb2
      simp only [aftG, Option.map_some, List.append_nil] at hb2
      have h' : ¬ t.length < t.length := by omega
      delta p46_l0 p46_r15 p46_r16 p46_r17 p46_r18 p46_r19 p46_r20
      simp (disch := omega) [oLt, oLe, oLtN, oLeN, nLt, nLe, nLtN, nLeN]
      refine hE2 _ _ _ (.to [0, 1, 2, 3, 4] (by simp)) (hq (decT t.length p) g ?_ (by rw [hml]; exact hP4))
      rcases hb2 with ⟨hg, hb2⟩ | ⟨hg, hb2⟩
      · refine .inl ⟨hg, ?_⟩
        unfold stp
        rw [← hb2]
        simp only [Option.map_some, decT]
        rw [set_app_lt (by simp; omega)]
      · refine .inr ⟨hg, ?_⟩
        unfold stp
        rw [hb2]; rfl
  simp only [st46, hp46, bwL, owL3]
  rw [← hF]
  delta p46_l1 p46_r10 p46_r11 p46_r12 p46_r13 p46_r14
  simp (disch := omega) [oLt, oLe, oLtN, oLeN, nLt, nLe, nLtN, nLeN, hs, hbl, hFl, hFa, hFk, hP4, hPt]
  refine inner _ _ (.to [0, 1, 2, 3, 11] (by simp)) (fun m g hmg hm4 => ?_)
  clear inner
  have hs4 : s < m.length := by omega
  have hs3 : s < 4 := by omega
  rw [hstp] at hmg
  cases ha : aftG (s : Nat) t l 0 with
  | none =>
    rw [ha] at hmg
    simp only [Option.map_none] at hmg
    have hg : g = false := by rcases hmg with ⟨_, h⟩ | ⟨h, _⟩; cases h; exact h
    subst hg
    have hadd : addS t l s all [] = (all, []) := by simp only [addS, ha]
    have fin' := fun s' hh => fin s' cap (.inr ⟨rfl, by rw [hadd]⟩) hh
    rw [hadd] at fin'
    simp only [st46, hp46, bwL, owL3, ← hF] at fin'
    delta p46_r21 p46_r22 p46_r23 p46_r24 p46_r25 p46_r26 p46_r27 p46_r28
    simp (disch := omega) [oLt, oLe, oLtN, oLeN, nLt, nLe, nLtN, nLeN, hs, htx, htx', hs4, hs3, hm4]
    exact fin' _ (.to [0, 1, 2, 3] (by simp))
  | some q =>
    rw [ha] at hmg
    simp only [Option.map_some] at hmg
    have hg : g = true ∧ pad t q = m.set s tx := by
      rcases hmg with ⟨hg, h⟩ | ⟨_, h⟩
      · exact ⟨hg, by simpa using h⟩
      · cases h
    obtain ⟨hg, hA⟩ := hg
    subst hg
    have hvq := aft_val hv h1 ha
    have hA4 := hl4 hvq
    have hAt : (pad t q).take 4 = pad t q := List.take_of_length_le (by omega)
    have hkS := kS_ok hA4
    have hAv := val_ints (pad t q)
    have hkI := keys4_I (numA_keys (t := t) h4 (all := all) (i := 0) hI.vs)
    have hfind := numA_find hvq (all := all) (i := 0) hI.vs
    have hA' := hA.symm
    cases hpos : posL q all 0 with
    | some k =>
      rw [hpos] at hfind
      simp only [Option.map_some] at hfind
      have hadd : addS t l s all [] = (all, [] ++ [(k : Int)]) := by simp only [addS, ha, hpos]
      have fin' := fun s' hh => fin s' cap (.inr ⟨rfl, by rw [hadd]⟩) hh
      rw [hadd] at fin'
      simp only [st46, hp46, bwL, owL3, ← hF] at fin'
      delta p46_r21 p46_r22 p46_r23 p46_r24 p46_r25 p46_r26 p46_r27 p46_r28
      simp (disch := omega) [oLt, oLe, oLtN, oLeN, nLt, nLe, nLtN, nLeN, hs, htx, htx', hs4, hs3, hm4, hA', hA4, hAt, hkS, hAv, hkI, hfind]
      exact fin' _ (.to [0, 1, 2, 29] (by simp))
    | none =>
      rw [hpos] at hfind
      simp only [Option.map_none] at hfind
      have hadd : addS t l s all [] = (all ++ [q], [] ++ [(all.length : Int)]) := by simp only [addS, ha, hpos]
      have fin' := fun s' hh => fin s' none (.inl rfl) hh
      rw [hadd] at fin'
      have hvs' : ∀ x ∈ all ++ [q], val t x := fun x hx => by
        rw [List.mem_append] at hx
        rcases hx with hx | hx
        · exact hI.vs x hx
        · simp at hx; subst hx; exact hvq
      have hF' : (all ++ [q]).flatMap (pad t) = F ++ pad t q := by rw [hF]; simp
      have hFt : F.take (all.length * 4) = F := List.take_of_length_le (by omega)
      have hput : putP (pad t q) (all.length : Int) (numA t all 0) = numA t (all ++ [q]) 0 := by
        unfold putP; rw [hfind, numA_app]; simp [numA]
      have hkI' := keys4_I (numA_keys (t := t) h4 (all := all ++ [q]) (i := 0) hvs')
      have hfind' := numA_find hvq (all := all ++ [q]) (i := 0) hvs'
      rw [posL_end hpos] at hfind'
      simp only [Option.map_some, Nat.zero_add] at hfind'
      simp only [st46, hp46, bwL, owL3, hF'] at fin'
      have hal : (all ++ [q]).length = all.length + 1 := by simp
      have hcapn : ∀ n, cap = some n → n = all.length := fun n hn => by rcases hcap with h | h <;> rw [h] at hn <;> cases hn; rfl
      generalize numA t (all ++ [q]) 0 = M' at *
      delta p46_r21 p46_r22 p46_r23 p46_r24 p46_r25 p46_r26 p46_r27 p46_r28
      rcases hcap with rfl | rfl
      · simp (disch := omega) [oLt, oLe, oLtN, oLeN, nLt, nLe, nLtN, nLeN, hs, htx, htx', hs4, hs3, hm4, hA', hA4, hAt, hkS, hAv, hkI, hfind, hput, hkI', hfind', hFt, hFl]
        exact fin' _ (.to [32, 1, 2, 39] (by simp))
      · simp (disch := omega) [oLt, oLe, oLtN, oLeN, nLt, nLe, nLtN, nLeN, hs, htx, htx', hs4, hs3, hm4, hA', hA4, hAt, hkS, hAv, hkI, hfind, hput, hkI', hfind', hFt, hFl]
        exact fin' _ (.to [32, 1, 2, 39] (by simp))

set_option maxHeartbeats 4000000 in
theorem l1_NC {ss : List Sp} {t l : List Int} {ut : Bool} {all : List (List Int)} {o0 : Int} {orr : List Int} {cap : Option Nat} {s : Nat} {N : ST → Prop} {Q' : Exit → ST → Prop} (ht : ok8 t = true) (h4 : t.length ≤ 4) (hI : AInv t all) (hsm : all.length ≤ 4096) (hbl : 0 < all.length) (hl : all[0]? = some l) (hs : s < t.length) (how : (orr.length + 1) ≤ 4)
    (hcap : cap = none ∨ cap = some all.length)
    (fin : ∀ s' cap', (cap' = none ∨ cap' = cap ∧ (addS t l s all (o0 :: orr)).1 = all) → ChgT 0 s' (st46 t ut (addS t l s all (o0 :: orr)).1 [] (addS t l s all (o0 :: orr)).2 cap' (s + 1)) → N s') :
    XZ (rZ (spc ss)) 0 p46_l1 (st46 t ut all [] (o0 :: orr) cap s) (thenE N Q') := by
  have ht8 := ok8_iff.1 ht
  have h1 : ∀ y ∈ t, 1 ≤ y := fun y hy => (ht8 y hy).1
  have hv := hI.vs l (List.mem_of_getElem? hl)
  have hl4 : ∀ {x : List Int}, val t x → (pad t x).length = 4 := fun hv => pad_len (val_len hv) h4
  have hP4 := hl4 hv
  have hPt : (pad t l).take 4 = pad t l := List.take_of_length_le (by omega)
  have hFl := flat_len (t := t) (M := all) (fun x hx => hl4 (hI.vs x hx))
  have hFa := flat_at (t := t) (x := l) (M := all) (fun x hx => hl4 (hI.vs x hx)) hl
  have hFk : 0 * 4 + 4 ≤ all.length * 4 := by omega
  have hp8 : ∀ y ∈ pad t l, 0 ≤ y ∧ y ≤ 8 := fun y hy => by
    have := stOk_pad ht h4 hv
    simp only [stOkB, Bool.and_eq_true, List.all_eq_true, within_iff] at this
    exact this.2 y hy
  have hstp := stp_pad (val_len hv) (t := t) s
  obtain ⟨tx, htx⟩ : ∃ tx, t[s]? = some tx := ⟨t[s], by simp [hs]⟩
  have htx' : t[s] = tx := (List.getElem?_eq_some_iff.1 htx).2
  obtain ⟨p, hp⟩ : ∃ p, p = pad t l := ⟨_, rfl⟩
  rw [← hp] at hP4 hPt hFa hp8 hstp
  obtain ⟨F, hF⟩ : ∃ F, F = all.flatMap (pad t) := ⟨_, rfl⟩
  rw [← hF] at hFl hFa
  simp only [Nat.zero_mul, List.drop_zero] at hFa
  have inner : ∀ (s0 : ST) (Q2 : Exit → ST → Prop), ChgT 0 s0 ⟨[(0, .il (ints t) t.length ut), (4, .ref 0 0 all.length 4 cap), (5, .map 1), (6, .v (.slice none 0 0)), (7, vI 0), (8, .ref 3 0 (orr.length + 1) 1 none), (9, vI s), (10, .ptr 4 0), (11, vB true), (35, vI t.length), (36, vI s), (44, vI t.length), (45, vI ((0 : Nat) : Int))], [(0, .cells (ints F)), (1, .map (mI (numA t all 0)))] ++ [] ++ [(3, Blk.cells (ints (o0 :: orr)))] ++ [(4, Blk.cells (ints p))], 5⟩ →
      (∀ m g, (g = true ∧ stp t s p = some (m.set s tx) ∨ g = false ∧ stp t s p = none) → m.length = 4 → Q2 (.exit 4) ⟨[(0, .il (ints t) t.length ut), (4, .ref 0 0 all.length 4 cap), (5, .map 1), (6, .v (.slice none 0 0)), (7, vI 0), (8, .ref 3 0 (orr.length + 1) 1 none), (9, vI s), (10, .ptr 4 0), (11, vB g), (35, vI t.length), (36, vI s)], [(0, .cells (ints F)), (1, .map (mI (numA t all 0)))] ++ [] ++ [(3, Blk.cells (ints (o0 :: orr)))] ++ [(4, Blk.cells (ints m))], 5⟩) → XZ (rZ (spc ss)) 0 (.loop p46_l0) s0 Q2 := by
    intro s0 Q2 hs0 hq
    refine XZ_for (fun q : Nat × Bool => ⟨[(0, .il (ints t) t.length ut), (4, .ref 0 0 all.length 4 cap), (5, .map 1), (6, .v (.slice none 0 0)), (7, vI 0), (8, .ref 3 0 (orr.length + 1) 1 none), (9, vI s), (10, .ptr 4 0), (11, vB q.2), (35, vI t.length), (36, vI s), (44, vI t.length), (45, vI q.1)], [(0, .cells (ints F)), (1, .map (mI (numA t all 0)))] ++ [] ++ [(3, Blk.cells (ints (o0 :: orr)))] ++ [(4, Blk.cells (ints (decT q.1 p)))], 5⟩) (fun q => t.length - q.1)
      (fun q => q.1 ≤ t.length ∧ (q.2 = true ∧ (aftG s (t.drop q.1) ((p.take t.length).drop q.1) q.1).map (((p.take q.1).map (· - 1)).set s tx ++ ·) = aftG s t (p.take t.length) 0 ∨ q.2 = false ∧ aftG s t (p.take t.length) 0 = none)) (0, true) ⟨by simp, .inl ⟨rfl, by simp⟩⟩ (by rw [decT_zero]; exact hs0) ?_
    rintro ⟨i, g⟩ ⟨hi, hb2⟩ N2 Q3 hN2 hE2
    simp only at hi hb2 ⊢
    have hml := decT_len i p
    rcases Nat.lt_or_ge i t.length with h | h
    · obtain ⟨y, r, e1, e2, e3, e4, e5⟩ := drop_split h
      have hpl : (p.take t.length).length = t.length := by simp; omega
      obtain ⟨z, q, f1, f2, f3, f4, f5⟩ := drop_split (show i < (p.take t.length).length by omega)
      have hip : i < p.length := by omega
      have hi4 : i < 4 := by omega
      have hz : p[i]? = some z := by rw [List.getElem?_take] at f2; rwa [if_pos h] at f2
      have hz8 := hp8 z (List.mem_of_getElem? hz)
      have g1 := decT_get hip
      rw [hz] at g1
      have g1' : (decT i p)[i]'(by omega) = z := (List.getElem?_eq_some_iff.1 g1).2
      have g2 := decT_set hz
      have g3 : (decT (i + 1) p)[i]? = some (z - 1) := by rw [← g2]; simp [hml, hip]
      have g4 : (decT (i + 1) p).length = p.length := decT_len _ _
      have g3' : (decT (i + 1) p)[i]'(by omega) = z - 1 := (List.getElem?_eq_some_iff.1 g3).2
      rw [e1, f1] at hb2
      simp only [aftG] at hb2
      have tk : (p.take (i + 1)).map (· - 1) = (p.take i).map (· - 1) ++ [z - 1] := by rw [List.take_add_one, hz]; simp
      have tl : ((p.take i).map (· - 1)).length = i := by simp; omega
      by_cases hix : i = s
      · subst hix
        delta p46_l0 p46_r15 p46_r16 p46_r17 p46_r18 p46_r19 p46_r20
        simp (disch := omega) [oLt, oLe, oLtN, oLeN, nLt, nLe, nLtN, nLeN, h, hml, hP4, hi4, g1, g1', g2, g3, g3', g4]
        refine hN2 _ (i + 1, g) (by simp only; omega) ⟨h, ?_⟩ (.to [0, 1, 2, 3, 4] (by simp))
        rcases hb2 with ⟨hg, hb2⟩ | hb2
        · left
          refine ⟨hg, ?_⟩
          rw [if_pos rfl, map_app] at hb2
          simp only [e4, f4, tk]
          have : tx = y := by rw [htx] at e2; simpa using e2
          subst this
          rw [List.set_append_right _ _ (by omega), tl, Nat.sub_self, List.set_cons_zero]
          rw [List.set_eq_of_length_le (by omega)] at hb2
          simpa using hb2
        · exact .inr hb2
      · have hixI : ¬ (i : Int) = s := by omega
        by_cases hz1 : z = 1
        · subst hz1
          simp only [Int.sub_self] at g2 g3 g3'
          delta p46_l0 p46_r15 p46_r16 p46_r17 p46_r18 p46_r19 p46_r20
          simp (disch := omega) [oLt, oLe, oLtN, oLeN, nLt, nLe, nLtN, nLeN, h, hml, hP4, hi4, g1, g1', g2, g3, g3', g4, hixI]
          refine hN2 _ (i + 1, false) (by simp only; omega) ⟨h, .inr ⟨rfl, ?_⟩⟩ (.to [0, 1, 2, 3, 4] (by simp))
          rcases hb2 with ⟨hg, hb2⟩ | hb2
          · rw [if_neg hixI, if_pos rfl] at hb2
            simpa using hb2.symm
          · exact hb2.2
        · have hz0 : ¬ z - 1 = 0 := by omega
          delta p46_l0 p46_r15 p46_r16 p46_r17 p46_r18 p46_r19 p46_r20
          simp (disch := omega) [oLt, oLe, oLtN, oLeN, nLt, nLe, nLtN, nLeN, h, hml, hP4, hi4, g1, g1', g2, g3, g3', g4, hixI, hz0]
          refine hN2 _ (i + 1, g) (by simp only; omega) ⟨h, ?_⟩ (.to [0, 1, 2, 3, 4] (by simp))
          rcases hb2 with ⟨hg, hb2⟩ | hb2
          · left
            refine ⟨hg, ?_⟩
            rw [if_neg hixI, if_neg hz1, map_app] at hb2
            simp only [e4, f4, tk]
            have : ((p.take i).map (· - 1) ++ [z - 1]).set s tx = ((p.take i).map (· - 1)).set s tx ++ [z - 1] := by
              rcases Nat.lt_or_ge s i with hlt | hge
              · rw [set_app_lt (by omega)]
              · rw [List.set_eq_of_length_le (by simp; omega), List.set_eq_of_length_le (by omega)]
            rw [this]
            exact hb2
          · exact .inr hb2
    · have hit : i = t.length := by omega
      subst hit
      rw [List.drop_eq_nil_of_le (Nat.le_refl _)] at hb2
      simp only [aftG, Option.map_some, List.append_nil] at hb2
      have h' : ¬ t.length < t.length := by omega
      delta p46_l0 p46_r15 p46_r16 p46_r17 p46_r18 p46_r19 p46_r20
      simp (disch := omega) [oLt, oLe, oLtN, oLeN, nLt, nLe, nLtN, nLeN]
      refine hE2 _ _ _ (.to [0, 1, 2, 3, 4] (by simp)) (hq (decT t.length p) g ?_ (by rw [hml]; exact hP4))
      rcases hb2 with ⟨hg, hb2⟩ | ⟨hg, hb2⟩
      · refine .inl ⟨hg, ?_⟩
        unfold stp
        rw [← hb2]
        simp only [Option.map_some, decT]
        rw [set_app_lt (by simp; omega)]
      · refine .inr ⟨hg, ?_⟩
        unfold stp
        rw [hb2]; rfl
  simp only [st46, hp46, bwL, owL3]
  rw [← hF]
  delta p46_l1 p46_r10 p46_r11 p46_r12 p46_r13 p46_r14
  simp (disch := omega) [oLt, oLe, oLtN, oLeN, nLt, nLe, nLtN, nLeN, hs, hbl, hFl, hFa, hFk, hP4, hPt]
  refine inner _ _ (.to [0, 1, 2, 3, 11] (by simp)) (fun m g hmg hm4 => ?_)
  clear inner
  have hs4 : s < m.length := by omega
  have hs3 : s < 4 := by omega
  rw [hstp] at hmg
  cases ha : aftG (s : Nat) t l 0 with
  | none =>
    rw [ha] at hmg
    simp only [Option.map_none] at hmg
    have hg : g = false := by rcases hmg with ⟨_, h⟩ | ⟨h, _⟩; cases h; exact h
    subst hg
    have hadd : addS t l s all (o0 :: orr) = (all, (o0 :: orr)) := by simp only [addS, ha]
    have fin' := fun s' hh => fin s' cap (.inr ⟨rfl, by rw [hadd]⟩) hh
    rw [hadd] at fin'
    simp only [st46, hp46, bwL, owL3, ← hF] at fin'
    delta p46_r21 p46_r22 p46_r23 p46_r24 p46_r25 p46_r26 p46_r27 p46_r28
    simp (disch := omega) [oLt, oLe, oLtN, oLeN, nLt, nLe, nLtN, nLeN, hs, htx, htx', hs4, hs3, hm4]
    exact fin' _ (.to [0, 1, 2, 3] (by simp))
  | some q =>
    rw [ha] at hmg
    simp only [Option.map_some] at hmg
    have hg : g = true ∧ pad t q = m.set s tx := by
      rcases hmg with ⟨hg, h⟩ | ⟨_, h⟩
      · exact ⟨hg, by simpa using h⟩
      · cases h
    obtain ⟨hg, hA⟩ := hg
    subst hg
    have hvq := aft_val hv h1 ha
    have hA4 := hl4 hvq
    have hAt : (pad t q).take 4 = pad t q := List.take_of_length_le (by omega)
    have hkS := kS_ok hA4
    have hAv := val_ints (pad t q)
    have hkI := keys4_I (numA_keys (t := t) h4 (all := all) (i := 0) hI.vs)
    have hfind := numA_find hvq (all := all) (i := 0) hI.vs
    have hA' := hA.symm
    cases hpos : posL q all 0 with
    | some k =>
      rw [hpos] at hfind
      simp only [Option.map_some] at hfind
      have hadd : addS t l s all (o0 :: orr) = (all, (o0 :: orr) ++ [(k : Int)]) := by simp only [addS, ha, hpos]
      have fin' := fun s' hh => fin s' cap (.inr ⟨rfl, by rw [hadd]⟩) hh
      rw [hadd] at fin'
      simp only [st46, hp46, bwL, owL3, ← hF] at fin'
      delta p46_r21 p46_r22 p46_r23 p46_r24 p46_r25 p46_r26 p46_r27 p46_r28
      simp (disch := omega) [oLt, oLe, oLtN, oLeN, nLt, nLe, nLtN, nLeN, hs, htx, htx', hs4, hs3, hm4, hA', hA4, hAt, hkS, hAv, hkI, hfind]
      exact fin' _ (.to [0, 1, 2, 29] (by simp))
    | none =>
      rw [hpos] at hfind
      simp only [Option.map_none] at hfind
      have hadd : addS t l s all (o0 :: orr) = (all ++ [q], (o0 :: orr) ++ [(all.length : Int)]) := by simp only [addS, ha, hpos]
      have fin' := fun s' hh => fin s' none (.inl rfl) hh
      rw [hadd] at fin'
      have hvs' : ∀ x ∈ all ++ [q], val t x := fun x hx => by
        rw [List.mem_append] at hx
        rcases hx with hx | hx
        · exact hI.vs x hx
        · simp at hx; subst hx; exact hvq
      have hF' : (all ++ [q]).flatMap (pad t) = F ++ pad t q := by rw [hF]; simp
      have hFt : F.take (all.length * 4) = F := List.take_of_length_le (by omega)
      have hput : putP (pad t q) (all.length : Int) (numA t all 0) = numA t (all ++ [q]) 0 := by
        unfold putP; rw [hfind, numA_app]; simp [numA]
      have hkI' := keys4_I (numA_keys (t := t) h4 (all := all ++ [q]) (i := 0) hvs')
      have hfind' := numA_find hvq (all := all ++ [q]) (i := 0) hvs'
      rw [posL_end hpos] at hfind'
      simp only [Option.map_some, Nat.zero_add] at hfind'
      simp only [st46, hp46, bwL, owL3, hF'] at fin'
      have hal : (all ++ [q]).length = all.length + 1 := by simp
      have hcapn : ∀ n, cap = some n → n = all.length := fun n hn => by rcases hcap with h | h <;> rw [h] at hn <;> cases hn; rfl
      generalize numA t (all ++ [q]) 0 = M' at *
      delta p46_r21 p46_r22 p46_r23 p46_r24 p46_r25 p46_r26 p46_r27 p46_r28
      rcases hcap with rfl | rfl
      · simp (disch := omega) [oLt, oLe, oLtN, oLeN, nLt, nLe, nLtN, nLeN, hs, htx, htx', hs4, hs3, hm4, hA', hA4, hAt, hkS, hAv, hkI, hfind, hput, hkI', hfind', hFt, hFl]
        exact fin' _ (.to [32, 1, 2, 39] (by simp))
      · simp (disch := omega) [oLt, oLe, oLtN, oLeN, nLt, nLe, nLtN, nLeN, hs, htx, htx', hs4, hs3, hm4, hA', hA4, hAt, hkS, hAv, hkI, hfind, hput, hkI', hfind', hFt, hFl]
        exact fin' _ (.to [32, 1, 2, 39] (by simp))

set_option maxHeartbeats 4000000 in
theorem l1_CN {ss : List Sp} {t l : List Int} {ut : Bool} {all : List (List Int)} {b0 : List Int} {br : List (List Int)} {cap : Option Nat} {s : Nat} {N : ST → Prop} {Q' : Exit → ST → Prop} (ht : ok8 t = true) (h4 : t.length ≤ 4) (hI : AInv t all) (hsm : all.length ≤ 4096) (hbl : (br.length + 1) < all.length) (hl : all[(br.length + 1)]? = some l) (hs : s < t.length) (how : 0 ≤ 4)
    (hcap : cap = none ∨ cap = some all.length)
    (fin : ∀ s' cap', (cap' = none ∨ cap' = cap ∧ (addS t l s all []).1 = all) → ChgT 0 s' (st46 t ut (addS t l s all []).1 (b0 :: br) (addS t l s all []).2 cap' (s + 1)) → N s') :
    XZ (rZ (spc ss)) 0 p46_l1 (st46 t ut all (b0 :: br) [] cap s) (thenE N Q') := by
  have ht8 := ok8_iff.1 ht
  have h1 : ∀ y ∈ t, 1 ≤ y := fun y hy => (ht8 y hy).1
  have hv := hI.vs l (List.mem_of_getElem? hl)
  have hl4 : ∀ {x : List Int}, val t x → (pad t x).length = 4 := fun hv => pad_len (val_len hv) h4
  have hP4 := hl4 hv
  have hPt : (pad t l).take 4 = pad t l := List.take_of_length_le (by omega)
  have hFl := flat_len (t := t) (M := all) (fun x hx => hl4 (hI.vs x hx))
  have hFa := flat_at (t := t) (x := l) (M := all) (fun x hx => hl4 (hI.vs x hx)) hl
  have hFk : (br.length + 1) * 4 + 4 ≤ all.length * 4 := by omega
  have hp8 : ∀ y ∈ pad t l, 0 ≤ y ∧ y ≤ 8 := fun y hy => by
    have := stOk_pad ht h4 hv
    simp only [stOkB, Bool.and_eq_true, List.all_eq_true, within_iff] at this
    exact this.2 y hy
  have hstp := stp_pad (val_len hv) (t := t) s
  obtain ⟨tx, htx⟩ : ∃ tx, t[s]? = some tx := ⟨t[s], by simp [hs]⟩
  have htx' : t[s] = tx := (List.getElem?_eq_some_iff.1 htx).2
  obtain ⟨p, hp⟩ : ∃ p, p = pad t l := ⟨_, rfl⟩
  rw [← hp] at hP4 hPt hFa hp8 hstp
  obtain ⟨F, hF⟩ : ∃ F, F = all.flatMap (pad t) := ⟨_, rfl⟩
  rw [← hF] at hFl hFa
  have inner : ∀ (s0 : ST) (Q2 : Exit → ST → Prop), ChgT 0 s0 ⟨[(0, .il (ints t) t.length ut), (4, .ref 0 0 all.length 4 cap), (5, .map 1), (6, .ref 2 0 (br.length + 1) 1 none), (7, vI ((br.length + 1 : Nat) : Int)), (8, .v (.slice none 0 0)), (9, vI s), (10, .ptr 4 0), (11, vB true), (35, vI t.length), (36, vI s), (44, vI t.length), (45, vI ((0 : Nat) : Int))], [(0, .cells (ints F)), (1, .map (mI (numA t all 0)))] ++ [(2, Blk.cells (lls (b0 :: br)))] ++ [] ++ [(4, Blk.cells (ints p))], 5⟩ →
      (∀ m g, (g = true ∧ stp t s p = some (m.set s tx) ∨ g = false ∧ stp t s p = none) → m.length = 4 → Q2 (.exit 4) ⟨[(0, .il (ints t) t.length ut), (4, .ref 0 0 all.length 4 cap), (5, .map 1), (6, .ref 2 0 (br.length + 1) 1 none), (7, vI ((br.length + 1 : Nat) : Int)), (8, .v (.slice none 0 0)), (9, vI s), (10, .ptr 4 0), (11, vB g), (35, vI t.length), (36, vI s)], [(0, .cells (ints F)), (1, .map (mI (numA t all 0)))] ++ [(2, Blk.cells (lls (b0 :: br)))] ++ [] ++ [(4, Blk.cells (ints m))], 5⟩) → XZ (rZ (spc ss)) 0 (.loop p46_l0) s0 Q2 := by
    intro s0 Q2 hs0 hq
    refine XZ_for (fun q : Nat × Bool => ⟨[(0, .il (ints t) t.length ut), (4, .ref 0 0 all.length 4 cap), (5, .map 1), (6, .ref 2 0 (br.length + 1) 1 none), (7, vI ((br.length + 1 : Nat) : Int)), (8, .v (.slice none 0 0)), (9, vI s), (10, .ptr 4 0), (11, vB q.2), (35, vI t.length), (36, vI s), (44, vI t.length), (45, vI q.1)], [(0, .cells (ints F)), (1, .map (mI (numA t all 0)))] ++ [(2, Blk.cells (lls (b0 :: br)))] ++ [] ++ [(4, Blk.cells (ints (decT q.1 p)))], 5⟩) (fun q => t.length - q.1)
      (fun q => q.1 ≤ t.length ∧ (q.2 = true ∧ (aftG s (t.drop q.1) ((p.take t.length).drop q.1) q.1).map (((p.take q.1).map (· - 1)).set s tx ++ ·) = aftG s t (p.take t.length) 0 ∨ q.2 = false ∧ aftG s t (p.take t.length) 0 = none)) (0, true) ⟨by simp, .inl ⟨rfl, by simp⟩⟩ (by rw [decT_zero]; exact hs0) ?_
    rintro ⟨i, g⟩ ⟨hi, hb2⟩ N2 Q3 hN2 hE2
    simp only at hi hb2 ⊢
    have hml := decT_len i p
    rcases Nat.lt_or_ge i t.length with h | h
    · obtain ⟨y, r, e1, e2, e3, e4, e5⟩ := drop_split h
      have hpl : (p.take t.length).length = t.length := by simp; omega
      obtain ⟨z, q, f1, f2, f3, f4, f5⟩ := drop_split (show i < (p.take t.length).length by omega)
      have hip : i < p.length := by omega
      have hi4 : i < 4 := by omega
      have hz : p[i]? = some z := by rw [List.getElem?_take] at f2; rwa [if_pos h] at f2
      have hz8 := hp8 z (List.mem_of_getElem? hz)
      have g1 := decT_get hip
      rw [hz] at g1
      have g1' : (decT i p)[i]'(by omega) = z := (List.getElem?_eq_some_iff.1 g1).2
      have g2 := decT_set hz
      have g3 : (decT (i + 1) p)[i]? = some (z - 1) := by rw [← g2]; simp [hml, hip]
      have g4 : (decT (i + 1) p).length = p.length := decT_len _ _
      have g3' : (decT (i + 1) p)[i]'(by omega) = z - 1 := (List.getElem?_eq_some_iff.1 g3).2
      rw [e1, f1] at hb2
      simp only [aftG] at hb2
      have tk : (p.take (i + 1)).map (· - 1) = (p.take i).map (· - 1) ++ [z - 1] := by rw [List.take_add_one, hz]; simp
      have tl : ((p.take i).map (· - 1)).length = i := by simp; omega
      by_cases hix : i = s
      · subst hix
        delta p46_l0 p46_r15 p46_r16 p46_r17 p46_r18 p46_r19 p46_r20
        simp (disch := omega) [oLt, oLe, oLtN, oLeN, nLt, nLe, nLtN, nLeN, h, hml, hP4, hi4, g1, g1', g2, g3, g3', g4]
        refine hN2 _ (i + 1, g) (by simp only; omega) ⟨h, ?_⟩ (.to [0, 1, 2, 3, 4] (by simp))
        rcases hb2 with ⟨hg, hb2⟩ | hb2
        · left
          refine ⟨hg, ?_⟩
          rw [if_pos rfl, map_app] at hb2
          simp only [e4, f4, tk]
          have : tx = y := by rw [htx] at e2; simpa using e2
          subst this
          rw [List.set_append_right _ _ (by omega), tl, Nat.sub_self, List.set_cons_zero]
          rw [List.set_eq_of_length_le (by omega)] at hb2
          simpa using hb2
        · exact .inr hb2
      · have hixI : ¬ (i : Int) = s := by omega
        by_cases hz1 : z = 1
        · subst hz1
          simp only [Int.sub_self] at g2 g3 g3'
          delta p46_l0 p46_r15 p46_r16 p46_r17 p46_r18 p46_r19 p46_r20
          simp (disch := omega) [oLt, oLe, oLtN, oLeN, nLt, nLe, nLtN, nLeN, h, hml, hP4, hi4, g1, g1', g2, g3, g3', g4, hixI]
          refine hN2 _ (i + 1, false) (by simp only; omega) ⟨h, .inr ⟨rfl, ?_⟩⟩ (.to [0, 1, 2, 3, 4] (by simp))
          rcases hb2 with ⟨hg, hb2⟩ | hb2
          · rw [if_neg hixI, if_pos rfl] at hb2
            simpa using hb2.symm
          · exact hb2.2
        · have hz0 : ¬ z - 1 = 0 := by omega
          delta p46_l0 p46_r15 p46_r16 p46_r17 p46_r18 p46_r19 p46_r20
          simp (disch := omega) [oLt, oLe, oLtN, oLeN, nLt, nLe, nLtN, nLeN, h, hml, hP4, hi4, g1, g1', g2, g3, g3', g4, hixI, hz0]
          refine hN2 _ (i + 1, g) (by simp only; omega) ⟨h, ?_⟩ (.to [0, 1, 2, 3, 4] (by simp))
          rcases hb2 with ⟨hg, hb2⟩ | hb2
          · left
            refine ⟨hg, ?_⟩
            rw [if_neg hixI, if_neg hz1, map_app] at hb2
            simp only [e4, f4, tk]
            have : ((p.take i).map (· - 1) ++ [z - 1]).set s tx = ((p.take i).map (· - 1)).set s tx ++ [z - 1] := by
              rcases Nat.lt_or_ge s i with hlt | hge
              · rw [set_app_lt (by omega)]
              · rw [List.set_eq_of_length_le (by simp; omega), List.set_eq_of_length_le (by omega)]
            rw [this]
            exact hb2
          · exact .inr hb2
    · have hit : i = t.length := by omega
      subst hit
      rw [List.drop_eq_nil_of_le (Nat.le_refl _)] at hb2
      simp only [aftG, Option.map_some, List.append_nil] at hb2
      have h' : ¬ t.length < t.length := by omega
      delta p46_l0 p46_r15 p46_r16 p46_r17 p46_r18 p46_r19 p46_r20
      simp (disch := omega) [oLt, oLe, oLtN, oLeN, nLt, nLe, nLtN, nLeN]
      refine hE2 _ _ _ (.to [0, 1, 2, 3, 4] (by simp)) (hq (decT t.length p) g ?_ (by rw [hml]; exact hP4))
      rcases hb2 with ⟨hg, hb2⟩ | ⟨hg, hb2⟩
      · refine .inl ⟨hg, ?_⟩
        unfold stp
        rw [← hb2]
        simp only [Option.map_some, decT]
        rw [set_app_lt (by simp; omega)]
      · refine .inr ⟨hg, ?_⟩
        unfold stp
        rw [hb2]; rfl
  simp only [st46, hp46, bwL, owL3]
  rw [← hF]
  delta p46_l1 p46_r10 p46_r11 p46_r12 p46_r13 p46_r14
  simp (disch := omega) [oLt, oLe, oLtN, oLeN, nLt, nLe, nLtN, nLeN, hs, hbl, hFl, hFa, hFk, hP4, hPt]
  refine inner _ _ (.to [0, 1, 2, 3, 11] (by simp)) (fun m g hmg hm4 => ?_)
  clear inner
  have hs4 : s < m.length := by omega
  have hs3 : s < 4 := by omega
  rw [hstp] at hmg
  cases ha : aftG (s : Nat) t l 0 with
  | none =>
    rw [ha] at hmg
    simp only [Option.map_none] at hmg
    have hg : g = false := by rcases hmg with ⟨_, h⟩ | ⟨h, _⟩; cases h; exact h
    subst hg
    have hadd : addS t l s all [] = (all, []) := by simp only [addS, ha]
    have fin' := fun s' hh => fin s' cap (.inr ⟨rfl, by rw [hadd]⟩) hh
    rw [hadd] at fin'
    simp only [st46, hp46, bwL, owL3, ← hF] at fin'
    delta p46_r21 p46_r22 p46_r23 p46_r24 p46_r25 p46_r26 p46_r27 p46_r28
    simp (disch := omega) [oLt, oLe, oLtN, oLeN, nLt, nLe, nLtN, nLeN, hs, htx, htx', hs4, hs3, hm4]
    exact fin' _ (.to [0, 1, 2, 3] (by simp))
  | some q =>
    rw [ha] at hmg
    simp only [Option.map_some] at hmg
    have hg : g = true ∧ pad t q = m.set s tx := by
      rcases hmg with ⟨hg, h⟩ | ⟨_, h⟩
      · exact ⟨hg, by simpa using h⟩
      · cases h
    obtain ⟨hg, hA⟩ := hg
    subst hg
    have hvq := aft_val hv h1 ha
    have hA4 := hl4 hvq
    have hAt : (pad t q).take 4 = pad t q := List.take_of_length_le (by omega)
    have hkS := kS_ok hA4
    have hAv := val_ints (pad t q)
    have hkI := keys4_I (numA_keys (t := t) h4 (all := all) (i := 0) hI.vs)
    have hfind := numA_find hvq (all := all) (i := 0) hI.vs
    have hA' := hA.symm
    cases hpos : posL q all 0 with
    | some k =>
      rw [hpos] at hfind
      simp only [Option.map_some] at hfind
      have hadd : addS t l s all [] = (all, [] ++ [(k : Int)]) := by simp only [addS, ha, hpos]
      have fin' := fun s' hh => fin s' cap (.inr ⟨rfl, by rw [hadd]⟩) hh
      rw [hadd] at fin'
      simp only [st46, hp46, bwL, owL3, ← hF] at fin'
      delta p46_r21 p46_r22 p46_r23 p46_r24 p46_r25 p46_r26 p46_r27 p46_r28
      simp (disch := omega) [oLt, oLe, oLtN, oLeN, nLt, nLe, nLtN, nLeN, hs, htx, htx', hs4, hs3, hm4, hA', hA4, hAt, hkS, hAv, hkI, hfind]
      exact fin' _ (.to [0, 1, 2, 29] (by simp))
    | none =>
      rw [hpos] at hfind
      simp only [Option.map_none] at hfind
      have hadd : addS t l s all [] = (all ++ [q], [] ++ [(all.length : Int)]) := by simp only [addS, ha, hpos]
      have fin' := fun s' hh => fin s' none (.inl rfl) hh
      rw [hadd] at fin'
      have hvs' : ∀ x ∈ all ++ [q], val t x := fun x hx => by
        rw [List.mem_append] at hx
        rcases hx with hx | hx
        · exact hI.vs x hx
        · simp at hx; subst hx; exact hvq
      have hF' : (all ++ [q]).flatMap (pad t) = F ++ pad t q := by rw [hF]; simp
      have hFt : F.take (all.length * 4) = F := List.take_of_length_le (by omega)
      have hput : putP (pad t q) (all.length : Int) (numA t all 0) = numA t (all ++ [q]) 0 := by
        unfold putP; rw [hfind, numA_app]; simp [numA]
      have hkI' := keys4_I (numA_keys (t := t) h4 (all := all ++ [q]) (i := 0) hvs')
      have hfind' := numA_find hvq (all := all ++ [q]) (i := 0) hvs'
      rw [posL_end hpos] at hfind'
      simp only [Option.map_some, Nat.zero_add] at hfind'
      simp only [st46, hp46, bwL, owL3, hF'] at fin'
      have hal : (all ++ [q]).length = all.length + 1 := by simp
      have hcapn : ∀ n, cap = some n → n = all.length := fun n hn => by rcases hcap with h | h <;> rw [h] at hn <;> cases hn; rfl
      generalize numA t (all ++ [q]) 0 = M' at *
      delta p46_r21 p46_r22 p46_r23 p46_r24 p46_r25 p46_r26 p46_r27 p46_r28
      rcases hcap with rfl | rfl
      · simp (disch := omega) [oLt, oLe, oLtN, oLeN, nLt, nLe, nLtN, nLeN, hs, htx, htx', hs4, hs3, hm4, hA', hA4, hAt, hkS, hAv, hkI, hfind, hput, hkI', hfind', hFt, hFl]
        exact fin' _ (.to [32, 1, 2, 39] (by simp))
      · simp (disch := omega) [oLt, oLe, oLtN, oLeN, nLt, nLe, nLtN, nLeN, hs, htx, htx', hs4, hs3, hm4, hA', hA4, hAt, hkS, hAv, hkI, hfind, hput, hkI', hfind', hFt, hFl]
        exact fin' _ (.to [32, 1, 2, 39] (by simp))

set_option maxHeartbeats 4000000 in
theorem l1_CC {ss : List Sp} {t l : List Int} {ut : Bool} {all : List (List Int)} {b0 : List Int} {br : List (List Int)} {o0 : Int} {orr : List Int} {cap : Option Nat} {s : Nat} {N : ST → Prop} {Q' : Exit → ST → Prop} (ht : ok8 t = true) (h4 : t.length ≤ 4) (hI : AInv t all) (hsm : all.length ≤ 4096) (hbl : (br.length + 1) < all.length) (hl : all[(br.length + 1)]? = some l) (hs : s < t.length) (how : (orr.length + 1) ≤ 4)
    (hcap : cap = none ∨ cap = some all.length)
    (fin : ∀ s' cap', (cap' = none ∨ cap' = cap ∧ (addS t l s all (o0 :: orr)).1 = all) → ChgT 0 s' (st46 t ut (addS t l s all (o0 :: orr)).1 (b0 :: br) (addS t l s all (o0 :: orr)).2 cap' (s + 1)) → N s') :
    XZ (rZ (spc ss)) 0 p46_l1 (st46 t ut all (b0 :: br) (o0 :: orr) cap s) (thenE N Q') := by
  have ht8 := ok8_iff.1 ht
  have h1 : ∀ y ∈ t, 1 ≤ y := fun y hy => (ht8 y hy).1
  have hv := hI.vs l (List.mem_of_getElem? hl)
  have hl4 : ∀ {x : List Int}, val t x → (pad t x).length = 4 := fun hv => pad_len (val_len hv) h4
  have hP4 := hl4 hv
  have hPt : (pad t l).take 4 = pad t l := List.take_of_length_le (by omega)
  have hFl := flat_len (t := t) (M := all) (fun x hx => hl4 (hI.vs x hx))
  have hFa := flat_at (t := t) (x := l) (M := all) (fun x hx => hl4 (hI.vs x hx)) hl
  have hFk : (br.length + 1) * 4 + 4 ≤ all.length * 4 := by omega
  have hp8 : ∀ y ∈ pad t l, 0 ≤ y ∧ y ≤ 8 := fun y hy => by
    have := stOk_pad ht h4 hv
    simp only [stOkB, Bool.and_eq_true, List.all_eq_true, within_iff] at this
    exact this.2 y hy
  have hstp := stp_pad (val_len hv) (t := t) s
  obtain ⟨tx, htx⟩ : ∃ tx, t[s]? = some tx := ⟨t[s], by simp [hs]⟩
  have htx' : t[s] = tx := (List.getElem?_eq_some_iff.1 htx).2
  obtain ⟨p, hp⟩ : ∃ p, p = pad t l := ⟨_, rfl⟩
  rw [← hp] at hP4 hPt hFa hp8 hstp
  obtain ⟨F, hF⟩ : ∃ F, F = all.flatMap (pad t) := ⟨_, rfl⟩
  rw [← hF] at hFl hFa
  have inner : ∀ (s0 : ST) (Q2 : Exit → ST → Prop), ChgT 0 s0 ⟨[(0, .il (ints t) t.length ut), (4, .ref 0 0 all.length 4 cap), (5, .map 1), (6, .ref 2 0 (br.length + 1) 1 none), (7, vI ((br.length + 1 : Nat) : Int)), (8, .ref 3 0 (orr.length + 1) 1 none), (9, vI s), (10, .ptr 4 0), (11, vB true), (35, vI t.length), (36, vI s), (44, vI t.length), (45, vI ((0 : Nat) : Int))], [(0, .cells (ints F)), (1, .map (mI (numA t all 0)))] ++ [(2, Blk.cells (lls (b0 :: br)))] ++ [(3, Blk.cells (ints (o0 :: orr)))] ++ [(4, Blk.cells (ints p))], 5⟩ →
      (∀ m g, (g = true ∧ stp t s p = some (m.set s tx) ∨ g = false ∧ stp t s p = none) → m.length = 4 → Q2 (.exit 4) ⟨[(0, .il (ints t) t.length ut), (4, .ref 0 0 all.length 4 cap), (5, .map 1), (6, .ref 2 0 (br.length + 1) 1 none), (7, vI ((br.length + 1 : Nat) : Int)), (8, .ref 3 0 (orr.length + 1) 1 none), (9, vI s), (10, .ptr 4 0), (11, vB g), (35, vI t.length), (36, vI s)], [(0, .cells (ints F)), (1, .map (mI (numA t all 0)))] ++ [(2, Blk.cells (lls (b0 :: br)))] ++ [(3, Blk.cells (ints (o0 :: orr)))] ++ [(4, Blk.cells (ints m))], 5⟩) → XZ (rZ (spc ss)) 0 (.loop p46_l0) s0 Q2 := by
    intro s0 Q2 hs0 hq
    refine XZ_for (fun q : Nat × Bool => ⟨[(0, .il (ints t) t.length ut), (4, .ref 0 0 all.length 4 cap), (5, .map 1), (6, .ref 2 0 (br.length + 1) 1 none), (7, vI ((br.length + 1 : Nat) : Int)), (8, .ref 3 0 (orr.length + 1) 1 none), (9, vI s), (10, .ptr 4 0), (11, vB q.2), (35, vI t.length), (36, vI s), (44, vI t.length), (45, vI q.1)], [(0, .cells (ints F)), (1, .map (mI (numA t all 0)))] ++ [(2, Blk.cells (lls (b0 :: br)))] ++ [(3, Blk.cells (ints (o0 :: orr)))] ++ [(4, Blk.cells (ints (decT q.1 p)))], 5⟩) (fun q => t.length - q.1)
      (fun q => q.1 ≤ t.length ∧ (q.2 = true ∧ (aftG s (t.drop q.1) ((p.take t.length).drop q.1) q.1).map (((p.take q.1).map (· - 1)).set s tx ++ ·) = aftG s t (p.take t.length) 0 ∨ q.2 = false ∧ aftG s t (p.take t.length) 0 = none)) (0, true) ⟨by simp, .inl ⟨rfl, by simp⟩⟩ (by rw [decT_zero]; exact hs0) ?_
    rintro ⟨i, g⟩ ⟨hi, hb2⟩ N2 Q3 hN2 hE2
    simp only at hi hb2 ⊢
    have hml := decT_len i p
    rcases Nat.lt_or_ge i t.length with h | h
    · obtain ⟨y, r, e1, e2, e3, e4, e5⟩ := drop_split h
      have hpl : (p.take t.length).length = t.length := by simp; omega
      obtain ⟨z, q, f1, f2, f3, f4, f5⟩ := drop_split (show i < (p.take t.length).length by omega)
      have hip : i < p.length := by omega
      have hi4 : i < 4 := by omega
      have hz : p[i]? = some z := by rw [List.getElem?_take] at f2; rwa [if_pos h] at f2
      have hz8 := hp8 z (List.mem_of_getElem? hz)
      have g1 := decT_get hip
      rw [hz] at g1
      have g1' : (decT i p)[i]'(by omega) = z := (List.getElem?_eq_some_iff.1 g1).2
      have g2 := decT_set hz
      have g3 : (decT (i + 1) p)[i]? = some (z - 1) := by rw [← g2]; simp [hml, hip]
      have g4 : (decT (i + 1) p).length = p.length := decT_len _ _
      have g3' : (decT (i + 1) p)[i]'(by omega) = z - 1 := (List.getElem?_eq_some_iff.1 g3).2
      rw [e1, f1] at hb2
      simp only [aftG] at hb2
      have tk : (p.take (i + 1)).map (· - 1) = (p.take i).map (· - 1) ++ [z - 1] := by rw [List.take_add_one, hz]; simp
      have tl : ((p.take i).map (· - 1)).length = i := by simp; omega
      by_cases hix : i = s
      · subst hix
        delta p46_l0 p46_r15 p46_r16 p46_r17 p46_r18 p46_r19 p46_r20
        simp (disch := omega) [oLt, oLe, oLtN, oLeN, nLt, nLe, nLtN, nLeN, h, hml, hP4, hi4, g1, g1', g2, g3, g3', g4]
        refine hN2 _ (i + 1, g) (by simp only; omega) ⟨h, ?_⟩ (.to [0, 1, 2, 3, 4] (by simp))
        rcases hb2 with ⟨hg, hb2⟩ | hb2
        · left
          refine ⟨hg, ?_⟩
          rw [if_pos rfl, map_app] at hb2
          simp only [e4, f4, tk]
          have : tx = y := by rw [htx] at e2; simpa using e2
          subst this
          rw [List.set_append_right _ _ (by omega), tl, Nat.sub_self, List.set_cons_zero]
          rw [List.set_eq_of_length_le (by omega)] at hb2
          simpa using hb2
        · exact .inr hb2
      · have hixI : ¬ (i : Int) = s := by omega
        by_cases hz1 : z = 1
        · subst hz1
          simp only [Int.sub_self] at g2 g3 g3'
          delta p46_l0 p46_r15 p46_r16 p46_r17 p46_r18 p46_r19 p46_r20
          simp (disch := omega) [oLt, oLe, oLtN, oLeN, nLt, nLe, nLtN, nLeN, h, hml, hP4, hi4, g1, g1', g2, g3, g3', g4, hixI]
          refine hN2 _ (i + 1, false) (by simp only; omega) ⟨h, .inr ⟨rfl, ?_⟩⟩ (.to [0, 1, 2, 3, 4] (by simp))
          rcases hb2 with ⟨hg, hb2⟩ | hb2
          · rw [if_neg hixI, if_pos rfl] at hb2
            simpa using hb2.symm
          · exact hb2.2
        · have hz0 : ¬ z - 1 = 0 := by omega
          delta p46_l0 p46_r15 p46_r16 p46_r17 p46_r18 p46_r19 p46_r20
          simp (disch := omega) [oLt, oLe, oLtN, oLeN, nLt, nLe, nLtN, nLeN, h, hml, hP4, hi4, g1, g1', g2, g3, g3', g4, hixI, hz0]
          refine hN2 _ (i + 1, g) (by simp only; omega) ⟨h, ?_⟩ (.to [0, 1, 2, 3, 4] (by simp))
          rcases hb2 with ⟨hg, hb2⟩ | hb2
          · left
            refine ⟨hg, ?_⟩
            rw [if_neg hixI, if_neg hz1, map_app] at hb2
            simp only [e4, f4, tk]
            have : ((p.take i).map (· - 1) ++ [z - 1]).set s tx = ((p.take i).map (· - 1)).set s tx ++ [z - 1] := by
              rcases Nat.lt_or_ge s i with hlt | hge
              · rw [set_app_lt (by omega)]
              · rw [List.set_eq_of_length_le (by simp; omega), List.set_eq_of_length_le (by omega)]
            rw [this]
            exact hb2
          · exact .inr hb2
    · have hit : i = t.length := by omega
      subst hit
      rw [List.drop_eq_nil_of_le (Nat.le_refl _)] at hb2
      simp only [aftG, Option.map_some, List.append_nil] at hb2
      have h' : ¬ t.length < t.length := by omega
      delta p46_l0 p46_r15 p46_r16 p46_r17 p46_r18 p46_r19 p46_r20
      simp (disch := omega) [oLt, oLe, oLtN, oLeN, nLt, nLe, nLtN, nLeN]
      refine hE2 _ _ _ (.to [0, 1, 2, 3, 4] (by simp)) (hq (decT t.length p) g ?_ (by rw [hml]; exact hP4))
      rcases hb2 with ⟨hg, hb2⟩ | ⟨hg, hb2⟩
      · refine .inl ⟨hg, ?_⟩
        unfold stp
        rw [← hb2]
        simp only [Option.map_some, decT]
        rw [set_app_lt (by simp; omega)]
      · refine .inr ⟨hg, ?_⟩
        unfold stp
        rw [hb2]; rfl
  simp only [st46, hp46, bwL, owL3]
  rw [← hF]
  delta p46_l1 p46_r10 p46_r11 p46_r12 p46_r13 p46_r14
  simp (disch := omega) [oLt, oLe, oLtN, oLeN, nLt, nLe, nLtN, nLeN, hs, hbl, hFl, hFa, hFk, hP4, hPt]
  refine inner _ _ (.to [0, 1, 2, 3, 11] (by simp)) (fun m g hmg hm4 => ?_)
  clear inner
  have hs4 : s < m.length := by omega
  have hs3 : s < 4 := by omega
  rw [hstp] at hmg
  cases ha : aftG (s : Nat) t l 0 with
  | none =>
    rw [ha] at hmg
    simp only [Option.map_none] at hmg
    have hg : g = false := by rcases hmg with ⟨_, h⟩ | ⟨h, _⟩; cases h; exact h
    subst hg
    have hadd : addS t l s all (o0 :: orr) = (all, (o0 :: orr)) := by simp only [addS, ha]
    have fin' := fun s' hh => fin s' cap (.inr ⟨rfl, by rw [hadd]⟩) hh
    rw [hadd] at fin'
    simp only [st46, hp46, bwL, owL3, ← hF] at fin'
    delta p46_r21 p46_r22 p46_r23 p46_r24 p46_r25 p46_r26 p46_r27 p46_r28
    simp (disch := omega) [oLt, oLe, oLtN, oLeN, nLt, nLe, nLtN, nLeN, hs, htx, htx', hs4, hs3, hm4]
    exact fin' _ (.to [0, 1, 2, 3] (by simp))
  | some q =>
    rw [ha] at hmg
    simp only [Option.map_some] at hmg
    have hg : g = true ∧ pad t q = m.set s tx := by
      rcases hmg with ⟨hg, h⟩ | ⟨_, h⟩
      · exact ⟨hg, by simpa using h⟩
      · cases h
    obtain ⟨hg, hA⟩ := hg
    subst hg
    have hvq := aft_val hv h1 ha
    have hA4 := hl4 hvq
    have hAt : (pad t q).take 4 = pad t q := List.take_of_length_le (by omega)
    have hkS := kS_ok hA4
    have hAv := val_ints (pad t q)
    have hkI := keys4_I (numA_keys (t := t) h4 (all := all) (i := 0) hI.vs)
    have hfind := numA_find hvq (all := all) (i := 0) hI.vs
    have hA' := hA.symm
    cases hpos : posL q all 0 with
    | some k =>
      rw [hpos] at hfind
      simp only [Option.map_some] at hfind
      have hadd : addS t l s all (o0 :: orr) = (all, (o0 :: orr) ++ [(k : Int)]) := by simp only [addS, ha, hpos]
      have fin' := fun s' hh => fin s' cap (.inr ⟨rfl, by rw [hadd]⟩) hh
      rw [hadd] at fin'
      simp only [st46, hp46, bwL, owL3, ← hF] at fin'
      delta p46_r21 p46_r22 p46_r23 p46_r24 p46_r25 p46_r26 p46_r27 p46_r28
      simp (disch := omega) [oLt, oLe, oLtN, oLeN, nLt, nLe, nLtN, nLeN, hs, htx, htx', hs4, hs3, hm4, hA', hA4, hAt, hkS, hAv, hkI, hfind]
      exact fin' _ (.to [0, 1, 2, 29] (by simp))
    | none =>
      rw [hpos] at hfind
      simp only [Option.map_none] at hfind
      have hadd : addS t l s all (o0 :: orr) = (all ++ [q], (o0 :: orr) ++ [(all.length : Int)]) := by simp only [addS, ha, hpos]
      have fin' := fun s' hh => fin s' none (.inl rfl) hh
      rw [hadd] at fin'
      have hvs' : ∀ x ∈ all ++ [q], val t x := fun x hx => by
        rw [List.mem_append] at hx
        rcases hx with hx | hx
        · exact hI.vs x hx
        · simp at hx; subst hx; exact hvq
      have hF' : (all ++ [q]).flatMap (pad t) = F ++ pad t q := by rw [hF]; simp
      have hFt : F.take (all.length * 4) = F := List.take_of_length_le (by omega)
      have hput : putP (pad t q) (all.length : Int) (numA t all 0) = numA t (all ++ [q]) 0 := by
        unfold putP; rw [hfind, numA_app]; simp [numA]
      have hkI' := keys4_I (numA_keys (t := t) h4 (all := all ++ [q]) (i := 0) hvs')
      have hfind' := numA_find hvq (all := all ++ [q]) (i := 0) hvs'
      rw [posL_end hpos] at hfind'
      simp only [Option.map_some, Nat.zero_add] at hfind'
      simp only [st46, hp46, bwL, owL3, hF'] at fin'
      have hal : (all ++ [q]).length = all.length + 1 := by simp
      have hcapn : ∀ n, cap = some n → n = all.length := fun n hn => by rcases hcap with h | h <;> rw [h] at hn <;> cases hn; rfl
      generalize numA t (all ++ [q]) 0 = M' at *
      delta p46_r21 p46_r22 p46_r23 p46_r24 p46_r25 p46_r26 p46_r27 p46_r28
      rcases hcap with rfl | rfl
      · simp (disch := omega) [oLt, oLe, oLtN, oLeN, nLt, nLe, nLtN, nLeN, hs, htx, htx', hs4, hs3, hm4, hA', hA4, hAt, hkS, hAv, hkI, hfind, hput, hkI', hfind', hFt, hFl]
        exact fin' _ (.to [32, 1, 2, 39] (by simp))
      · simp (disch := omega) [oLt, oLe, oLtN, oLeN, nLt, nLe, nLtN, nLeN, hs, htx, htx', hs4, hs3, hm4, hA', hA4, hAt, hkS, hAv, hkI, hfind, hput, hkI', hfind', hFt, hFl]
        exact fin' _ (.to [32, 1, 2, 39] (by simp))
end Go.Sx.Wk
