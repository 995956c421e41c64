/- WalkNamed's walk. No conditions. -/
import Derived.Test.YtmakepdccccmaaaSxNB
import Derived.Test.YtmakepdccccmaaaSxNC
import Derived.Test.YtmakepdccccmaaaSxR9
import Derived.Test.YtmakepdccccmaaaSxO6
import Derived.Test.YtmakepdccccmaaaSxJPd12toPd72
set_option linter.unusedVariables false
set_option linter.unusedSimpArgs false
set_option maxRecDepth 4000
namespace Go.Sx.Wk
open Go Go.Sx Go.Proofs

/-- Small numbers in a row. -/
def u8s (l : List Int) : List AV := l.map fun n => .v (.int .u8 n)
@[simp] theorem u8s_len (l : List Int) : (u8s l).length = l.length := by simp [u8s]
@[simp] theorem u8s_get? (l : List Int) (i : Nat) : (u8s l)[i]? = (l[i]?).map fun n => .v (.int .u8 n) := by simp [u8s]
@[simp] theorem u8s_ren (g : Nat → Nat) (l : List Int) : renL g (u8s l) = u8s l := by induction l with | nil => rfl | cons a l ih => simpa [u8s] using ih
@[simp] theorem u8s_clo (l : List Int) : cloL (u8s l) = true := by induction l with | nil => rfl | cons a l ih => simpa [u8s] using ih
@[simp] theorem u8s_flat (l : List Int) : flatL (u8s l) = true := by induction l with | nil => rfl | cons a l ih => simpa [u8s] using ih
/-- The order of the swap, taken out of the text. -/
noncomputable def anc12 : List (List Nat) := match p12_l0 with
  | .seq _ (.seq _ (.seq (.block _ (.seq _ (.seq _ (.draw _ a _)))) _)) => a
  | _ => []
theorem l012 : p12_l0 = (.seq (.reg p12_r4 [2, 4, 7, 8, 32, 33, 34]) (.seq (.cond (Operand.tmp 34) .skip (.exit 0)) (.seq (.block 1 (.seq (.reg p12_r5 [2, 4, 7, 8, 9, 32, 33]) (.seq (.reg p12_r6 [2, 4, 7, 8, 9, 10, 32, 33]) (.draw p12_r7 anc12 [2, 4, 7, 8, 32, 33])))) (.reg p12_r8 [2, 4, 7, 8, 32, 33])))) := rfl
/-- What the law's walk asks. -/
structure NamedF (T O : List Int) (i : Nat) (x : Int) : Prop where
  c1 : canF T = .tup [vB (canB T), vI 0]
  c2 : canF O = .tup [vB (canB T), vI 0]
  c3 : ∃ d, canF (T.set i (x + 1)) = .tup [vB d, vI 0] ∧ (canB T = true → d = true)
  l1 : longF O = longF T
  l2 : ∃ a e, longF T = .tup [vI a, vI e]
  g1 : grpV T = .tup [.il (ints (best T).1) (best T).1.length false, vI 0]
  g2 : grpV O = .tup [.il (ints (best O).1) (best O).1.length false, vI 0]
  g3 : (best T).1.length = T.length
  g4 : (best O).1.length = O.length
  m : ∃ z : Int, maxF (best T).1 = some (vI z, [], 0) ∧ maxF (best O).1 = some (vI z, [], 0) ∧ (T.eraseIdx i ≠ [] → ∃ d w, canF (T.eraseIdx i) = .tup [vB d, vI 0] ∧ (canB T = true → d = true) ∧
    grpV (T.eraseIdx i) = .tup [.il (ints (best (T.eraseIdx i)).1) (best (T.eraseIdx i)).1.length false, vI 0] ∧ (best (T.eraseIdx i)).1.length = (T.eraseIdx i).length ∧ maxF (best (T.eraseIdx i)).1 = some (vI w, [], 0) ∧ w ≤ z)
theorem chk0 {t : List Int} (hne : t ≠ []) (h4 : t.length ≤ 4) (h8 : ∀ y ∈ t, 1 ≤ y ∧ y ≤ 8) : chk t = 0 := by
  have := List.length_pos_iff.2 hne
  have h1 : t.all (within 1 · 8) = true := List.all_eq_true.2 fun y hy => by simpa using h8 y hy
  unfold chk
  rw [if_neg (by omega), if_neg (by omega), if_pos h1]
theorem best_len {t : List Int} (hne : t ≠ []) (h4 : t.length ≤ 4) (ht : ok8 t = true) : (best t).1.length = t.length := by
  obtain ⟨d1, -, -⟩ := divs_ok t.length (n14 hne h4)
  exact (d1 _ (best_facts ht h4 hne).1).2.2.2
theorem best_max {t : List Int} (hne : t ≠ []) (h4 : t.length ≤ 4) (ht : ok8 t = true) : maxF (best t).1 = some (vI ((best t).2 - 1), [], 0) := by
  have hl := best_len hne h4 ht
  obtain ⟨b1, b2, b3, -⟩ := best_facts ht h4 hne
  have hm := divs_mem _ (n14 hne h4) _ b1
  rw [b3]
  generalize (best t).1 = d at *
  have hpos := List.length_pos_iff.2 hne
  rcases d with _ | ⟨x, r⟩
  · simp at hl; omega
  · have h0 := (hm x (by simp)).1
    have hs : small (x :: r) = true := by simp only [small, decide_eq_true_eq]; omega
    rw [maxL_top h0]
    simp only [maxF, res, hs, if_true]
    congr 3; omega
theorem named_facts {T O : List Int} {i : Nat} {x : Int} (hp : T.Perm O) (hne : T ≠ []) (h4 : T.length ≤ 4) (h7 : ∀ y ∈ T, 1 ≤ y ∧ y ≤ 7) (hx : T[i]? = some x) : NamedF T O i x := by
  have hl := hp.length_eq
  have hO : O ≠ [] := fun e => by rw [e] at hl; exact hne (List.length_eq_zero_iff.1 hl)
  have T8 : ∀ y ∈ T, 1 ≤ y ∧ y ≤ 8 := fun y hy => by have := h7 y hy; omega
  have O8 : ∀ y ∈ O, 1 ≤ y ∧ y ≤ 8 := fun y hy => T8 y (hp.symm.subset hy)
  have t8 := ok8_iff.2 T8
  have o8 := ok8_iff.2 O8
  have cT := chk0 hne h4 T8
  have cO := chk0 hO (by omega) O8
  have hcan := can_perm hp t8 h4
  have halv := alive_perm hp t8 h4
  have hil : i < T.length := (List.getElem?_eq_some_iff.1 hx).1
  have hbO := fewest_part (t := T) (u := O) (r := []) (by simpa using hp) hO t8 h4
  have hbT := fewest_part (t := O) (u := T) (r := []) (by simpa using hp.symm) hne o8 (by omega)
  have hx7 := h7 x (List.mem_of_getElem? hx)
  refine ⟨by simp only [canF, cT, if_true], by simp only [canF, cO, if_true, hcan], ?_, ?_, ?_, by simp only [grpV, cT, if_true], by simp only [grpV, cO, if_true], best_len hne h4 t8, best_len hO (by omega) o8, ?_⟩
  · have hs8 : ∀ y ∈ T.set i (x + 1), 1 ≤ y ∧ y ≤ 8 := fun y hy => by
      rcases List.mem_or_eq_of_mem_set hy with h | h
      · exact T8 y h
      · omega
    have hsl : (T.set i (x + 1)).length = T.length := by simp
    have hsn : T.set i (x + 1) ≠ [] := fun e => by rw [e] at hsl; simp at hsl; exact hne (List.length_eq_zero_iff.1 hsl.symm)
    have cS := chk0 hsn (by omega) hs8
    exact ⟨_, by simp only [canF, cS, if_true], fun h => can_more (leP_set hx) t8 (ok8_iff.2 hs8) h4 h⟩
  · simp only [longF, cT, cO, if_true, hcan, halv]
  · simp only [longF, cT, if_true]
    split
    · exact ⟨_, _, rfl⟩
    · exact ⟨_, _, rfl⟩
  · refine ⟨(best T).2 - 1, best_max hne h4 t8, ?_, fun hE => ?_⟩
    · rw [best_max hO (by omega) o8]; congr 3; omega
    · have hpe : T.Perm (T.eraseIdx i ++ [x]) := by
        have e : T = T.take i ++ x :: T.drop (i + 1) := by
          conv => lhs; rw [← List.take_append_drop i T, List.drop_eq_getElem_cons hil, (List.getElem?_eq_some_iff.1 hx).2]
        rw [List.eraseIdx_eq_take_drop_succ]
        conv => lhs; rw [e]
        rw [List.append_assoc]
        exact List.Perm.append_left _ (List.perm_append_comm (l₁ := [x]))
      have el : (T.eraseIdx i).length ≤ 4 := by rw [List.length_eraseIdx]; split <;> omega
      have e8 : ∀ y ∈ T.eraseIdx i, 1 ≤ y ∧ y ≤ 8 := fun y hy => T8 y (List.mem_of_mem_eraseIdx hy)
      have ce := chk0 hE el e8
      have hbE := fewest_part hpe hE t8 h4
      exact ⟨_, _, by simp only [canF, ce, if_true], fun h => can_part hpe hE t8 h4 h, by simp only [grpV, ce, if_true], best_len hE el (ok8_iff.2 e8), best_max hE el (ok8_iff.2 e8), by omega⟩
set_option maxHeartbeats 8000000 in
theorem walkNamed_runs (s b0 b1 b2 b3 which : Int) (l : List Int) (hs : 0 ≤ s ∧ s ≤ 255) (hb : ∀ x ∈ [b0, b1, b2, b3], 0 ≤ x ∧ x ≤ 255) (hl : l.length = 4) (hlb : ∀ x ∈ l, 0 ≤ x ∧ x ≤ 255) (hwh : 0 ≤ which ∧ which ≤ 255) :
    Runs Try.prog 12 0 [.agg [vU s, vU b0, vU b1, vU b2, vU b3], .agg (u8s l), vU which] (hpF []) (vB true) 0 (hpF []) := by
  have hg : g42 s b0 b1 b2 b3 4 7 = true := by
    simp only [g42, Bool.and_eq_true, List.all_eq_true, within_iff]
    exact ⟨⟨fun x hx => by rw [List.mem_cons] at hx; rcases hx with rfl | hx; exact hs; exact hb x hx, by omega⟩, by omega⟩
  obtain ⟨hne, h4', h7⟩ := made_facts hg
  generalize hT : madeL s 4 7 [b0, b1, b2, b3] = T at *
  have h4 : T.length ≤ 4 := by omega
  have hpos := List.length_pos_iff.2 hne
  have hsT : small T = true := by simp [small]; omega
  have hpc : ¬ (T.length : Int) = 0 := by omega
  obtain ⟨w, hw⟩ := Int.eq_ofNat_of_zero_le (Int.emod_nonneg which hpc)
  have hwT : w < T.length := by
    have := Int.emod_lt_of_pos which (show (0 : Int) < T.length by omega)
    omega
  obtain ⟨x, hx⟩ : ∃ x, T[w]? = some x := ⟨T[w], by simp⟩
  have hx' : T[w] = x := (List.getElem?_eq_some_iff.1 hx).2
  refine P12.rz (ss := [s16, s19, s21, s36, s42, s45b, s49, s50]) ⟨s16_ok, s19_ok, s21_ok, s36_ok, s42_ok, s45b_ok, s49_ok, s50_ok, trivial⟩ (by simp) fun Q hQ => ?_
  delta p12 p12_r0 p12_r1 p12_r2 p12_r3
  simp (disch := omega) [oLt, oLe, oLtN, oLeN, nLt, nLe, nLtN, nLeN, f42, hg, hT, hl, f45b, hpos, hsT]
  refine XZ_for (fun p : Nat × List Int => ⟨[(2, vU which), (4, .ptr 0 0), (7, .il (ints T) T.length false), (8, .ref 1 0 T.length 1 none), (32, vI T.length), (33, vI p.1)], [(0, .cells (u8s l)), (1, .cells (ints p.2))], 2⟩) (fun p => T.length - p.1) (fun p => p.1 ≤ T.length ∧ T.Perm p.2) (0, T) (by simp) (.tot [4, 8] (by simp)) ?_
  rintro ⟨i, O⟩ ⟨hi, hp⟩ N Q' hN hE
  simp only at hi hp ⊢
  have hOl := hp.length_eq
  rcases Nat.lt_or_ge i T.length with h | h
  · obtain ⟨y, hy⟩ : ∃ y, l[i]? = some y := ⟨l[i]'(by omega), by simp⟩
    have hil : i < l.length := by omega
    have hi4 : i < 4 := by omega
    have hy' : l[i] = y := (List.getElem?_eq_some_iff.1 hy).2
    have hic : ¬ ((i : Int) + 1) = 0 := by omega
    obtain ⟨k, hk⟩ := Int.eq_ofNat_of_zero_le (Int.emod_nonneg y hic)
    have hkl : k < i + 1 := by
      have := Int.emod_lt_of_pos y (show (0 : Int) < (i : Int) + 1 by omega)
      omega
    have hyb := hlb y (List.mem_of_getElem? hy)
    have hiO : i < O.length := by omega
    have hkO : k < O.length := by omega
    have hkT : k < T.length := by omega
    obtain ⟨u, hu⟩ : ∃ u, O[i]? = some u := ⟨O[i], by simp⟩
    obtain ⟨v, hv⟩ : ∃ v, O[k]? = some v := ⟨O[k], by simp⟩
    have hu' : O[i] = u := (List.getElem?_eq_some_iff.1 hu).2
    have hv' : O[k] = v := (List.getElem?_eq_some_iff.1 hv).2
    have hsw : O.Perm ((O.set i v).set k u) := by
      have hw : ((O.set i O[k]).set k O[i]).Perm O := List.set_set_perm hiO hkO
      rw [hu', hv'] at hw
      exact hw.symm
    have hsp := splice_ints (O.set i v) k u (by simp; omega)
    have fin : ∀ s', ChgT 0 s' ⟨[(2, vU which), (4, .ptr 0 0), (7, .il (ints T) T.length false), (8, .ref 1 0 T.length 1 none), (32, vI T.length), (33, vI ((i + 1 : Nat) : Int))], [(0, .cells (u8s l)), (1, .cells (ints ((O.set i v).set k u)))], 2⟩ → N s' := fun s' hh =>
      hN s' (i + 1, (O.set i v).set k u) (by simp only; omega) ⟨h, hp.trans hsw⟩ hh
    rw [l012]
    delta p12_r4 p12_r5 p12_r6 p12_r7 p12_r8
    simp (disch := omega) [oLt, oLe, oLtN, oLeN, nLt, nLe, nLtN, nLeN, h, hil, hi4, hy, hy', hic, hk, hiO, hkO, hkT, hu, hv, hu', hv']
    refine ⟨fun _ => ?_, by decide⟩
    exact fin _ (.tot [4, 8] (by simp [hsp]))
  · have h' : ¬ i < T.length := by omega
    obtain ⟨c1, c2, ⟨d3, c3, c3'⟩, l1, ⟨la, le, l2⟩, g1, g2, g3, g4, z, m1, m2, m3⟩ := named_facts hp hne h4 h7 hx
    have hsO : small O = true := by simp [small]; omega
    have hsM : small (T.set w (x + 1)) = true := by simp [small]; omega
    have hx8 := h7 x (List.mem_of_getElem? hx)
    have hts : List.take T.length (T.set w (x + 1)) = T.set w (x + 1) := List.take_of_length_le (by simp)
    have hto : List.take T.length O = O := List.take_of_length_le (by omega)
    have hOl' := hOl.symm
    have hel : (T.eraseIdx w).length = T.length - 1 := by rw [List.length_eraseIdx, if_pos hwT]
    have hsE : small (T.eraseIdx w) = true := by simp [small]; omega
    have hte : List.take (T.length - 1) (ints (T.eraseIdx w) ++ [vI 0]) = ints (T.eraseIdx w) := List.take_left' (by simp [hel])
    have hf50 : f50 [.ref 0 0 T.length 1 none, vI w, vI ((w : Int) + 1)] [(0, .cells (ints T))] 1 = some (.ref 0 0 (T.length - 1) 1 none, [(0, .cells (ints (T.eraseIdx w ++ [0])))], 1) := by
      simp only [f50, unints_ints]
      simp [hsT, hwT]
    have hf50n : f50 [.il (ints T) T.length false, vI w, vI ((w : Int) + 1)] [] 0 = none := rfl
    generalize hm : T.length - 1 = m at *
    generalize hEE : T.eraseIdx w = E at *
    generalize hBT : (best T).1 = BT at *
    generalize hBO : (best O).1 = BO at *
    rw [l2] at l1
    delta p12_l0 p12_r4 p12_r5 p12_r6 p12_r7 p12_r8
    simp (disch := omega) [oLt, oLe, oLtN, oLeN, nLt, nLe, nLtN, nLeN, h']
    refine hE _ _ _ .refl ?_
    simp only [inBE, thenE, if_true]
    refine XZ_step ?_ (fun N Q_ hN => ?_) ?_
    rotate_left
    · delta p12_r9; simp (disch := omega) [oLt, oLe, oLtN, oLeN, nLt, nLe, nLtN, nLeN, hw, hne]
      exact hN
    refine XZ_step ?_ (fun N Q_ hN => ?_) ?_
    rotate_left
    · delta p12_r10; simp (disch := omega) [oLt, oLe, oLtN, oLeN, nLt, nLe, nLtN, nLeN, f45b, hpos, hsT]
      exact hN
    refine XZ_step ?_ (fun N Q_ hN => ?_) ?_
    rotate_left
    · delta p12_r11; simp (disch := omega) [oLt, oLe, oLtN, oLeN, nLt, nLe, nLtN, nLeN, hwT, hx, hx']
      exact hN
    refine XZ_step ?_ (fun N Q_ hN => ?_) ?_
    rotate_left
    · delta p12_r12; simp (disch := omega) [oLt, oLe, oLtN, oLeN, nLt, nLe, nLtN, nLeN, c1, hsT]
      exact hN
    refine XZ_step ?_ (fun N Q_ hN => ?_) ?_
    rotate_left
    · delta p12_r13; simp (disch := omega) [oLt, oLe, oLtN, oLeN, nLt, nLe, nLtN, nLeN, c2, hsO, hto, hOl']
      exact hN
    refine XZ_step ?_ (fun N Q_ hN => ?_) ?_
    rotate_left
    · delta p12_r14; simp (disch := omega) [oLt, oLe, oLtN, oLeN, nLt, nLe, nLtN, nLeN, c3, hsM, hts]
      exact hN
    cases hcb : canB T with
    | true =>
      have hd3 := c3' hcb
      subst hd3
      rw [hcb] at c1 c2
      refine XZ_step ?_ (fun N Q_ hN => ?_) ?_
      rotate_left
      · delta p12_r15 p12_r16; simp (disch := omega) [oLt, oLe, oLtN, oLeN, nLt, nLe, nLtN, nLeN]
        exact hN
      refine XZ_step ?_ (fun N Q_ hN => ?_) ?_
      rotate_left
      · delta p12_r17; simp (disch := omega) [oLt, oLe, oLtN, oLeN, nLt, nLe, nLtN, nLeN, l2, hsT]
        exact hN
      refine XZ_step ?_ (fun N Q_ hN => ?_) ?_
      rotate_left
      · delta p12_r18; simp (disch := omega) [oLt, oLe, oLtN, oLeN, nLt, nLe, nLtN, nLeN, l1, hsO, hto, hOl']
        exact hN
      refine XZ_step ?_ (fun N Q_ hN => ?_) ?_
      rotate_left
      · delta p12_r19; simp (disch := omega) [oLt, oLe, oLtN, oLeN, nLt, nLe, nLtN, nLeN, g1, hsT]
        exact hN
      refine XZ_step ?_ (fun N Q_ hN => ?_) ?_
      rotate_left
      · delta p12_r20; simp (disch := omega) [oLt, oLe, oLtN, oLeN, nLt, nLe, nLtN, nLeN, g2, hsO, hto, hOl']
        exact hN
      refine XZ_step ?_ (fun N Q_ hN => ?_) ?_
      rotate_left
      · refine XZ_regG ?_
        delta p12_r21
        refine zOps_cut 12 ?_ (fun K_ hK => ?_) ?_
        rotate_left
        · simp only [List.take_succ_cons, List.take_zero]
          simp (disch := omega) [oLt, oLe, oLtN, oLeN, nLt, nLe, nLtN, nLeN, g3, g4, hOl']
          exact hK
        simp only [List.drop_succ_cons, List.drop_zero]
        refine zOps_cut 14 ?_ (fun K_ hK => ?_) ?_
        rotate_left
        · simp only [List.take_succ_cons, List.take_zero]
          simp (disch := omega) [oLt, oLe, oLtN, oLeN, nLt, nLe, nLtN, nLeN, g3, g4, hOl']
          exact hK
        simp only [List.drop_succ_cons, List.drop_zero]
        delta p12_r22
        simp (disch := omega) [oLt, oLe, oLtN, oLeN, nLt, nLe, nLtN, nLeN, g3, g4, m1, m2, hOl']
        exact hN
      refine XZ_step ?_ (fun N Q_ hN => ?_) ?_
      rotate_left
      · delta p12_r23; simp (disch := omega) [oLt, oLe, oLtN, oLeN, nLt, nLe, nLtN, nLeN, f45b, hpos, hsT, hf50, hf50n]
        exact hN
      by_cases hEe : E = []
      · have hm0 : m = 0 := by rw [hEe] at hel; simpa using hel.symm
        subst hm0
        delta p12_r24 p12_r25
        simp (disch := omega) [oLt, oLe, oLtN, oLeN, nLt, nLe, nLtN, nLeN]
        exact hQ _ _ (.p (.inl rfl) (by simp) rfl)
      · obtain ⟨d, w', e1, e2, e3, e4, e5, e6⟩ := m3 hEe
        have hm0 : ¬ (m : Int) = 0 := by
          have := List.length_pos_iff.2 hEe
          omega
        have hm0' : ¬ m = 0 := by omega
        rw [hel] at e4
        generalize (best E).1 = BE at *
        have hd := e2 hcb
        subst hd
        refine XZ_step ?_ (fun N Q_ hN => ?_) ?_
        rotate_left
        · delta p12_r24 p12_r25; simp (disch := omega) [oLt, oLe, oLtN, oLeN, nLt, nLe, nLtN, nLeN, hm0, hm0']
          exact hN
        refine XZ_step ?_ (fun N Q_ hN => ?_) ?_
        rotate_left
        · delta p12_r26; simp (disch := omega) [oLt, oLe, oLtN, oLeN, nLt, nLe, nLtN, nLeN, e1, hsE, hte, hel]
          exact hN
        refine XZ_step ?_ (fun N Q_ hN => ?_) ?_
        rotate_left
        · delta p12_r27; simp (disch := omega) [oLt, oLe, oLtN, oLeN, nLt, nLe, nLtN, nLeN, e3, hsE, hte, hel]
          exact hN
        refine XZ_regG ?_
        delta p12_r28
        refine zOps_cut 12 ?_ (fun K_ hK => ?_) ?_
        rotate_left
        · simp only [List.take_succ_cons, List.take_zero]
          simp (disch := omega) [oLt, oLe, oLtN, oLeN, nLt, nLe, nLtN, nLeN, e4, hel]
          exact hK
        simp only [List.drop_succ_cons, List.drop_zero]
        refine zOps_cut 7 ?_ (fun K_ hK => ?_) ?_
        rotate_left
        · simp only [List.take_succ_cons, List.take_zero]
          simp (disch := omega) [oLt, oLe, oLtN, oLeN, nLt, nLe, nLtN, nLeN, e4, hel]
          exact hK
        simp only [List.drop_succ_cons, List.drop_zero]
        have e7 : ¬ z < w' := by omega
        simp (disch := omega) [oLt, oLe, oLtN, oLeN, nLt, nLe, nLtN, nLeN, e4, e5, m1, e6, e7, g3]
        exact hQ _ _ (.p (.inl rfl) (by simp) rfl)
    | false =>
      rw [hcb] at c1 c2
      refine XZ_step ?_ (fun N Q_ hN => ?_) ?_
      rotate_left
      · delta p12_r15 p12_r16; simp (disch := omega) [oLt, oLe, oLtN, oLeN, nLt, nLe, nLtN, nLeN]
        exact hN
      refine XZ_step ?_ (fun N Q_ hN => ?_) ?_
      rotate_left
      · delta p12_r17; simp (disch := omega) [oLt, oLe, oLtN, oLeN, nLt, nLe, nLtN, nLeN, l2, hsT]
        exact hN
      refine XZ_step ?_ (fun N Q_ hN => ?_) ?_
      rotate_left
      · delta p12_r18; simp (disch := omega) [oLt, oLe, oLtN, oLeN, nLt, nLe, nLtN, nLeN, l1, hsO, hto, hOl']
        exact hN
      refine XZ_step ?_ (fun N Q_ hN => ?_) ?_
      rotate_left
      · delta p12_r19; simp (disch := omega) [oLt, oLe, oLtN, oLeN, nLt, nLe, nLtN, nLeN, g1, hsT]
        exact hN
      refine XZ_step ?_ (fun N Q_ hN => ?_) ?_
      rotate_left
      · delta p12_r20; simp (disch := omega) [oLt, oLe, oLtN, oLeN, nLt, nLe, nLtN, nLeN, g2, hsO, hto, hOl']
        exact hN
      refine XZ_step ?_ (fun N Q_ hN => ?_) ?_
      rotate_left
      · refine XZ_regG ?_
        delta p12_r21
        refine zOps_cut 12 ?_ (fun K_ hK => ?_) ?_
        rotate_left
        · simp only [List.take_succ_cons, List.take_zero]
          simp (disch := omega) [oLt, oLe, oLtN, oLeN, nLt, nLe, nLtN, nLeN, g3, g4, hOl']
          exact hK
        simp only [List.drop_succ_cons, List.drop_zero]
        refine zOps_cut 14 ?_ (fun K_ hK => ?_) ?_
        rotate_left
        · simp only [List.take_succ_cons, List.take_zero]
          simp (disch := omega) [oLt, oLe, oLtN, oLeN, nLt, nLe, nLtN, nLeN, g3, g4, hOl']
          exact hK
        simp only [List.drop_succ_cons, List.drop_zero]
        delta p12_r22
        simp (disch := omega) [oLt, oLe, oLtN, oLeN, nLt, nLe, nLtN, nLeN, g3, g4, m1, m2, hOl']
        exact hN
      refine XZ_step ?_ (fun N Q_ hN => ?_) ?_
      rotate_left
      · delta p12_r23; simp (disch := omega) [oLt, oLe, oLtN, oLeN, nLt, nLe, nLtN, nLeN, f45b, hpos, hsT, hf50, hf50n]
        exact hN
      by_cases hEe : E = []
      · have hm0 : m = 0 := by rw [hEe] at hel; simpa using hel.symm
        subst hm0
        delta p12_r24 p12_r25
        simp (disch := omega) [oLt, oLe, oLtN, oLeN, nLt, nLe, nLtN, nLeN]
        exact hQ _ _ (.p (.inl rfl) (by simp) rfl)
      · obtain ⟨d, w', e1, e2, e3, e4, e5, e6⟩ := m3 hEe
        have hm0 : ¬ (m : Int) = 0 := by
          have := List.length_pos_iff.2 hEe
          omega
        have hm0' : ¬ m = 0 := by omega
        rw [hel] at e4
        generalize (best E).1 = BE at *
        refine XZ_step ?_ (fun N Q_ hN => ?_) ?_
        rotate_left
        · delta p12_r24 p12_r25; simp (disch := omega) [oLt, oLe, oLtN, oLeN, nLt, nLe, nLtN, nLeN, hm0, hm0']
          exact hN
        refine XZ_step ?_ (fun N Q_ hN => ?_) ?_
        rotate_left
        · delta p12_r26; simp (disch := omega) [oLt, oLe, oLtN, oLeN, nLt, nLe, nLtN, nLeN, e1, hsE, hte, hel]
          exact hN
        refine XZ_step ?_ (fun N Q_ hN => ?_) ?_
        rotate_left
        · delta p12_r27; simp (disch := omega) [oLt, oLe, oLtN, oLeN, nLt, nLe, nLtN, nLeN, e3, hsE, hte, hel]
          exact hN
        refine XZ_regG ?_
        delta p12_r28
        refine zOps_cut 12 ?_ (fun K_ hK => ?_) ?_
        rotate_left
        · simp only [List.take_succ_cons, List.take_zero]
          simp (disch := omega) [oLt, oLe, oLtN, oLeN, nLt, nLe, nLtN, nLeN, e4, hel]
          exact hK
        simp only [List.drop_succ_cons, List.drop_zero]
        refine zOps_cut 7 ?_ (fun K_ hK => ?_) ?_
        rotate_left
        · simp only [List.take_succ_cons, List.take_zero]
          simp (disch := omega) [oLt, oLe, oLtN, oLeN, nLt, nLe, nLtN, nLeN, e4, hel]
          exact hK
        simp only [List.drop_succ_cons, List.drop_zero]
        have e7 : ¬ z < w' := by omega
        simp (disch := omega) [oLt, oLe, oLtN, oLeN, nLt, nLe, nLtN, nLeN, e4, e5, m1, e6, e7, g3]
        exact hQ _ _ (.p (.inl rfl) (by simp) rfl)
end Go.Sx.Wk
