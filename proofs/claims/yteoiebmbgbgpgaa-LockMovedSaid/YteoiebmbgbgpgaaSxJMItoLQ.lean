/- What functions of the lock layer return: barges leave as far as they may, told to a builder. No conditions. -/
import Derived.Test.YteoiebmbgbgpgaaSxJLCtoMH
set_option linter.unusedVariables false
set_option linter.unusedSimpArgs false
set_option maxRecDepth 4000
namespace Go.Sx.Lk
open Go Go.Sx Go.Proofs
section
def mvR (b : Int) : Nat → List Int → List Int → List Int × List Int
  | 0, st, out => (st, out)
  | n + 1, st, out => if st = [] then (st, out) else if st.getLastD 0 < b then mvR b n st.dropLast (out ++ [111]) else (st, out)
def hpB (j : Nat) (st out : List Int) : HL := [(0, .cells [.ref 1 0 st.length 1 none]), (1, .cells (ints st)), (2, .cells [.fn (.func 64) [] [.ptr 3 0]]), (3, .bld false (bA 3 j out))] ++ bH j out
def hpBN : HL := [(0, .cells [nS]), (1, .cells [.fn (.func 64) [] [.ptr 2 0]]), (2, .bld false [pN, nS])]
def pat97b : Int × Option (List Int × List Int) → List AV × HL × Nat
  | (b, some (st, out)) => ([vI b, .ptr 0 0, .ptr 2 0], hpB 4 st out, 4 + outK out)
  | (b, none) => ([vI b, .ptr 0 0, .ptr 1 0], hpBN, 3)
def out97b : Int × Option (List Int × List Int) → AV × HL × Nat
  | (b, some (st, out)) => (.tup [], hpB (newJ out (mvR b st.length st out).2) (mvR b st.length st out).1 (mvR b st.length st out).2, newJ out (mvR b st.length st out).2 + outK (mvR b st.length st out).2)
  | (b, none) => (.tup [], hpBN, 3)
def ok97b : Int × Option (List Int × List Int) → Prop
  | (_, some (st, out)) => st.length + out.length ≤ 600
  | (_, none) => True
theorem hpB_inj {j : Nat} {st out st' out' : List Int} (h : hpB j st out = hpB j st' out') : st = st' ∧ out = out' := by
  simp only [hpB, List.cons_append, List.nil_append, List.cons.injEq, Prod.mk.injEq, Blk.cells.injEq, Blk.bld.injEq, true_and, and_true] at h
  obtain ⟨h1, h2, h3, h4⟩ := h
  refine ⟨ints_inj h2, ?_⟩
  cases out with
  | nil => cases out' with
    | nil => rfl
    | cons y r => simp at h4
  | cons x r => cases out' with
    | nil => simp at h4
    | cons y r' =>
      simp only [bH_cons, List.cons.injEq, Prod.mk.injEq, Blk.bld.injEq, true_and, and_true, AV.v.injEq, Value.int.injEq] at h4
      rw [h4.1, u8s_inj h4.2]
theorem pat97b_inj (a b : Int × Option (List Int × List Int)) (h : pat97b a = pat97b b) : out97b a = out97b b := by
  obtain ⟨x, a⟩ := a
  obtain ⟨y, b⟩ := b
  cases a with
  | none => cases b with
    | none => rfl
    | some q => obtain ⟨st, out⟩ := q; simp [pat97b] at h
  | some p =>
    obtain ⟨st, out⟩ := p
    cases b with
    | none => simp [pat97b] at h
    | some q =>
      obtain ⟨st', out'⟩ := q
      simp only [pat97b, Prod.mk.injEq, List.cons.injEq, AV.v.injEq, Value.int.injEq, true_and, and_true] at h
      obtain ⟨rfl, h2, h3⟩ := h
      obtain ⟨rfl, rfl⟩ := hpB_inj h2
      rfl
noncomputable def f97b := famF ok97b pat97b out97b
noncomputable def s97b : Sp := ⟨97, f97b⟩
@[simp] theorem s97b_g : s97b.g = 97 := rfl
@[simp] theorem s97b_f : s97b.f = f97b := rfl
theorem mvR_le (b : Int) : ∀ n st out, (mvR b n st out).1.length ≤ st.length
  | 0, st, out => Nat.le_refl _
  | n + 1, st, out => by
    simp only [mvR]
    split
    · exact Nat.le_refl _
    · split
      · have := mvR_le b n st.dropLast (out ++ [111])
        have e : st.dropLast.length = st.length - 1 := by simp
        omega
      · exact Nat.le_refl _
theorem mvR_len (b : Int) : ∀ n st out, (mvR b n st out).1.length + (mvR b n st out).2.length = st.length + out.length
  | 0, st, out => rfl
  | n + 1, st, out => by
    simp only [mvR]
    split
    · rfl
    · rename_i h
      have : 0 < st.length := List.length_pos_iff.2 h
      split
      · rw [mvR_len b n]; simp; omega
      · rfl
def mk97b (b : Int) (j : Nat) (st out : List Int) : ST := ⟨[(0, vI b), (1, .ptr 0 0), (2, .ptr 2 0), (4, vI (st.getLastD 0)), (5, vB (!st.isEmpty))], hpB j st out, j + outK out⟩
set_option maxHeartbeats 4000000 in
theorem s97b_ok : s97b.ok Try.prog := by
  refine famF_ok ?_
  rintro ⟨b, _ | ⟨st, out⟩⟩ hok
  · simp only [pat97b, out97b, hp_eq, hpBN]
    refine P97.rz (ss := [s68, s69, s64]) ⟨s68_ok, s69_ok, s64_ok, trivial⟩ (by simp) fun Q hQ => ?_
    delta p97 p97_r0
    simp (disch := omega) [oLt, oLe, oLtN, oLeN, nLt, nLe, nLtN, nLeN, f68]
    refine XZ_for (fun _ : Nat => ⟨[(0, vI b), (1, .ptr 0 0), (2, .ptr 1 0), (4, vI 0), (5, vB false)], hpBN, 3⟩) (fun i => i) (fun i => True) 0 trivial (.to [0, 1, 2] (by simp [hpBN])) ?_
    rintro i _ N Q' hN hE
    delta p97_l0 p97_r1 p97_r2 p97_r3 p97_r4
    simp (disch := omega) [oLt, oLe, oLtN, oLeN, nLt, nLe, nLtN, nLeN]
    exact hE _ _ _ .refl (hQ _ _ (EndsP_at [0, 1, 2] (.inr rfl) (by simp) rfl (by simp) rfl (by simp [hpBN])))
  · simp only [ok97b] at hok
    simp only [pat97b, out97b, hp_eq]
    refine P97.rz (ss := [s68, s69, s64]) ⟨s68_ok, s69_ok, s64_ok, trivial⟩ (by simp) fun Q hQ => ?_
    have hss : small st = true := by simp [small]; omega
    have h1 : f68 [.ptr 0 0] [(0, .cells [.ref 1 0 st.length 1 none]), (1, .cells (ints st))] 2 = some (.tup [vI (st.getLastD 0), vB (!st.isEmpty)], basH st, 2) := by simp [f68, hss]
    cases out with
    | nil =>
      simp only [hpB, bA_nil, bH_nil, List.append_nil, outK_nil]
      delta p97 p97_r0
      simp (disch := omega) [oLt, oLe, oLtN, oLeN, nLt, nLe, nLtN, nLeN, h1, basH]
      refine XZ_for (fun p : List Int × List Int => mk97b b 4 p.1 p.2) (fun p => p.1.length) (fun p => p.1.length + p.2.length ≤ 600 ∧ mvR b p.1.length p.1 p.2 = mvR b st.length st []) (st, []) ⟨by simpa using hok, rfl⟩ (.to [0, 1, 2, 3] (by simp [mk97b, hpB])) ?_
      rintro ⟨T, O⟩ ⟨hl, hinv⟩ N Q' hN hE
      simp only at hl hinv
      simp only [mk97b]
      have stop : mvR b T.length T O = (T, O) → XZ (rZ (spc [s68, s69, s64])) 4 p97_l0 ⟨[(0, vI b), (1, .ptr 0 0), (2, .ptr 2 0), (4, vI (T.getLastD 0)), (5, vB (!T.isEmpty))], hpB 4 T O, 4 + outK O⟩ (thenE N Q') := fun e => by
        have hj : newJ [] O = 4 := rfl
        rw [← hinv, e] at hQ
        simp only [hj] at hQ
        have hcb : T.isEmpty = true ∨ (T.isEmpty = false ∧ ¬ T.getLastD 0 < b) := by
          rcases step97 T (Nat.le_trans hl (by omega)) with rfl | ⟨c, D, hne, hD, hc, hlen, hem, h4, h5⟩
          · exact .inl rfl
          · refine .inr ⟨hem, fun hlt => ?_⟩
            rw [hlen] at e
            simp only [mvR] at e
            rw [if_neg hne, if_pos hlt] at e
            have := congrArg (fun q => q.1.length + q.2.length) e
            have h2 := congrArg (fun q => q.1.length) e
            have h3 := mvR_le b D.length T.dropLast (O ++ [111])
            simp only at h2
            rw [hD] at h2 h3
            omega
        rcases hcb with hem | ⟨hem, hnb⟩
        · cases O with
          | nil =>
            simp only [hpB, bA_nil, bH_nil, List.append_nil, outK_nil] at hQ ⊢
            delta p97_l0 p97_r1 p97_r2 p97_r3 p97_r4
            simp (disch := omega) [oLt, oLe, oLtN, oLeN, nLt, nLe, nLtN, nLeN, hem]
            exact hE _ _ _ .refl (hQ _ _ (EndsP_at [0, 1, 2, 3] (.inr rfl) (by simp) rfl (by simp) rfl (by simp)))
          | cons x r =>
            simp only [hpB, bA_cons, bH_cons, List.append_nil, outK_cons] at hQ ⊢
            delta p97_l0 p97_r1 p97_r2 p97_r3 p97_r4
            simp (disch := omega) [oLt, oLe, oLtN, oLeN, nLt, nLe, nLtN, nLeN, hem]
            exact hE _ _ _ .refl (hQ _ _ (EndsP_at [0, 1, 2, 3, 4] (.inr rfl) (by simp) rfl (by simp) rfl (by simp)))
        · obtain ⟨c, hc⟩ : ∃ c, T.getLastD 0 = c := ⟨_, rfl⟩
          rw [hc] at hnb ⊢
          cases O with
          | nil =>
            simp only [hpB, bA_nil, bH_nil, List.append_nil, outK_nil] at hQ ⊢
            delta p97_l0 p97_r1 p97_r2 p97_r3 p97_r4
            simp (disch := omega) [oLt, oLe, oLtN, oLeN, nLt, nLe, nLtN, nLeN, hem, hnb]
            exact hE _ _ _ .refl (hQ _ _ (EndsP_at [0, 1, 2, 3] (.inr rfl) (by simp) rfl (by simp) rfl (by simp)))
          | cons x r =>
            simp only [hpB, bA_cons, bH_cons, List.append_nil, outK_cons] at hQ ⊢
            delta p97_l0 p97_r1 p97_r2 p97_r3 p97_r4
            simp (disch := omega) [oLt, oLe, oLtN, oLeN, nLt, nLe, nLtN, nLeN, hem, hnb]
            exact hE _ _ _ .refl (hQ _ _ (EndsP_at [0, 1, 2, 3, 4] (.inr rfl) (by simp) rfl (by simp) rfl (by simp)))
      rcases step97 T (Nat.le_trans hl (by omega)) with rfl | ⟨c, D, hne, hD, hc, hlen, hem, h4, h5⟩
      · exact stop rfl
      · by_cases hcb : c < b
        · have hst : mvR b T.length T O = mvR b D.length D (O ++ [111]) := by
            rw [hlen, mvR, if_neg hne, hc, if_pos hcb, hD]
          rw [hst] at hinv
          have fin : ∀ s', ChgT 4 s' (mk97b b 4 D (O ++ [111])) → N s' := fun s' hh => hN s' (D, O ++ [111]) (by simp only; omega) ⟨by simp; omega, hinv⟩ hh
          clear stop hN hE hQ
          rw [hc]
          have h6 := f64n 111 c
          cases O with
          | nil =>
            simp only [hpB, bA_nil, bH_nil, List.append_nil, outK_nil]
            delta p97_l0 p97_r1 p97_r2 p97_r3 p97_r4
            simp (disch := omega) [oLt, oLe, oLtN, oLeN, nLt, nLe, nLtN, nLeN, hem, hcb, h4, h5, h6, basH]
            exact fin _ (.to [0, 1, 2, 3, 12] (by simp [mk97b, hpB]))
          | cons x r =>
            have h7 := f64c 111 c x r (by simp at hl; omega)
            simp only [hpB, bA_cons, bH_cons, List.append_nil, outK_cons]
            delta p97_l0 p97_r1 p97_r2 p97_r3 p97_r4
            simp (disch := omega) [oLt, oLe, oLtN, oLeN, nLt, nLe, nLtN, nLeN, hem, hcb, h4, h5, h7, basH]
            exact fin _ (.to [0, 1, 2, 3, 13] (by simp [mk97b, hpB]))
        · refine stop ?_
          rw [hlen, mvR, if_neg hne, hc, if_neg hcb]
    | cons y out =>
      simp only [hpB, bA_cons, bH_cons, List.cons_append, List.nil_append, outK_cons]
      delta p97 p97_r0
      simp (disch := omega) [oLt, oLe, oLtN, oLeN, nLt, nLe, nLtN, nLeN, h1, basH]
      refine XZ_for (fun p : Nat × List Int × List Int => mk97b b p.1 p.2.1 p.2.2) (fun p => p.2.1.length) (fun p => p.2.1.length + p.2.2.length ≤ 600 ∧ mvR b p.2.1.length p.2.1 p.2.2 = mvR b st.length st (y :: out) ∧ ((p.1 = 4 ∧ p.2.2.length = out.length + 1) ∨ (p.1 = 5 ∧ out.length + 1 < p.2.2.length))) (4, st, y :: out) ⟨by simpa using hok, rfl, .inl ⟨rfl, rfl⟩⟩ (.to [0, 1, 2, 3, 4] (by simp [mk97b, hpB])) ?_
      rintro ⟨j, T, O⟩ ⟨hl, hinv, hj⟩ N Q' hN hE
      simp only at hl hinv hj
      simp only [mk97b]
      obtain ⟨x, r, rfl⟩ : ∃ x r, O = x :: r := by
        cases O with
        | nil => simp at hj
        | cons x r => exact ⟨x, r, rfl⟩
      have stop : mvR b T.length T (x :: r) = (T, x :: r) → XZ (rZ (spc [s68, s69, s64])) 5 p97_l0 ⟨[(0, vI b), (1, .ptr 0 0), (2, .ptr 2 0), (4, vI (T.getLastD 0)), (5, vB (!T.isEmpty))], hpB j T (x :: r), j + outK (x :: r)⟩ (thenE N Q') := fun e => by
        have hjn : newJ (y :: out) (x :: r) = j := by
          simp only [newJ, List.length_cons]
          rcases hj with ⟨rfl, h⟩ | ⟨rfl, h⟩
          · rw [if_neg (by simp), if_pos (by simpa using h)]
          · rw [if_neg (by simp), if_neg (by simp at h; omega)]
        rw [← hinv, e] at hQ
        simp only [hjn] at hQ
        have hcb : T.isEmpty = true ∨ (T.isEmpty = false ∧ ¬ T.getLastD 0 < b) := by
          rcases step97 T (Nat.le_trans hl (by omega)) with rfl | ⟨c, D, hne, hD, hc, hlen, hem, h4, h5⟩
          · exact .inl rfl
          · refine .inr ⟨hem, fun hlt => ?_⟩
            rw [hlen] at e
            simp only [mvR] at e
            rw [if_neg hne, if_pos hlt] at e
            have h2 := congrArg (fun q => q.1.length) e
            have h3 := mvR_le b D.length T.dropLast (x :: r ++ [111])
            simp only at h2
            rw [hD] at h2 h3
            omega
        rcases hcb with hem | ⟨hem, hnb⟩
        · rcases hj with ⟨rfl, h⟩ | ⟨rfl, h⟩
          · simp only [hpB, bA_cons, bH_cons, List.append_nil, outK_cons] at hQ ⊢
            delta p97_l0 p97_r1 p97_r2 p97_r3 p97_r4
            simp (disch := omega) [oLt, oLe, oLtN, oLeN, nLt, nLe, nLtN, nLeN, hem]
            exact hE _ _ _ .refl (hQ _ _ (EndsP_at [0, 1, 2, 3, 4] (.inr rfl) (by simp) rfl (by simp) rfl (by simp)))
          · simp only [hpB, bA_cons, bH_cons, List.append_nil, outK_cons] at hQ ⊢
            delta p97_l0 p97_r1 p97_r2 p97_r3 p97_r4
            simp (disch := omega) [oLt, oLe, oLtN, oLeN, nLt, nLe, nLtN, nLeN, hem]
            exact hE _ _ _ .refl (hQ _ _ (EndsP_at [0, 1, 2, 3, 4, 5] (.inr rfl) (by simp) rfl (by simp) rfl (by simp)))
        · obtain ⟨c, hc⟩ : ∃ c, T.getLastD 0 = c := ⟨_, rfl⟩
          rw [hc] at hnb ⊢
          rcases hj with ⟨rfl, h⟩ | ⟨rfl, h⟩
          · simp only [hpB, bA_cons, bH_cons, List.append_nil, outK_cons] at hQ ⊢
            delta p97_l0 p97_r1 p97_r2 p97_r3 p97_r4
            simp (disch := omega) [oLt, oLe, oLtN, oLeN, nLt, nLe, nLtN, nLeN, hem, hnb]
            exact hE _ _ _ .refl (hQ _ _ (EndsP_at [0, 1, 2, 3, 4] (.inr rfl) (by simp) rfl (by simp) rfl (by simp)))
          · simp only [hpB, bA_cons, bH_cons, List.append_nil, outK_cons] at hQ ⊢
            delta p97_l0 p97_r1 p97_r2 p97_r3 p97_r4
            simp (disch := omega) [oLt, oLe, oLtN, oLeN, nLt, nLe, nLtN, nLeN, hem, hnb]
            exact hE _ _ _ .refl (hQ _ _ (EndsP_at [0, 1, 2, 3, 4, 5] (.inr rfl) (by simp) rfl (by simp) rfl (by simp)))
      rcases step97 T (Nat.le_trans hl (by omega)) with rfl | ⟨c, D, hne, hD, hc, hlen, hem, h4, h5⟩
      · exact stop rfl
      · by_cases hcb : c < b
        · have hst : mvR b T.length T (x :: r) = mvR b D.length D (x :: r ++ [111]) := by
            rw [hlen, mvR, if_neg hne, hc, if_pos hcb, hD]
          rw [hst] at hinv
          have fin : ∀ s', ChgT 5 s' (mk97b b 5 D (x :: r ++ [111])) → N s' := fun s' hh => hN s' (5, D, x :: r ++ [111]) (by simp only; omega) ⟨by simp at hl ⊢; omega, hinv, .inr ⟨rfl, by simp at hj ⊢; omega⟩⟩ hh
          clear stop hN hE hQ
          rw [hc]
          have h7 := f64c 111 c x r (by simp at hl; omega)
          rcases hj with ⟨rfl, h⟩ | ⟨rfl, h⟩
          · simp only [hpB, bA_cons, bH_cons, List.append_nil, outK_cons]
            delta p97_l0 p97_r1 p97_r2 p97_r3 p97_r4
            simp (disch := omega) [oLt, oLe, oLtN, oLeN, nLt, nLe, nLtN, nLeN, hem, hcb, h4, h5, h7, basH]
            exact fin _ (.to [0, 1, 2, 3, 4, 13] (by simp [mk97b, hpB]))
          · simp only [hpB, bA_cons, bH_cons, List.append_nil, outK_cons]
            delta p97_l0 p97_r1 p97_r2 p97_r3 p97_r4
            simp (disch := omega) [oLt, oLe, oLtN, oLeN, nLt, nLe, nLtN, nLeN, hem, hcb, h4, h5, h7, basH]
            exact fin _ (.to [0, 1, 2, 3, 4, 14] (by simp [mk97b, hpB]))
        · refine stop ?_
          rw [hlen, mvR, if_neg hne, hc, if_neg hcb]
theorem f97b_at {b : Int} {st out : List Int} (h : st.length + out.length ≤ 600) {args : List AV} {H : HL} {k : Nat} (e : pat97b (b, some (st, out)) = (args, H, k)) : f97b args H k = some (out97b (b, some (st, out))) := famF_at pat97b_inj (b, some (st, out)) h e
theorem f97b_nil (b : Int) : f97b [vI b, .ptr 0 0, .ptr 1 0] hpBN 3 = some (.tup [], hpBN, 3) := famF_at pat97b_inj (b, none) trivial rfl
end
section
def psR : List Int → List Int → List Int → List Int × List Int
  | [], st, out => (st, out)
  | x :: r, st, out => psR r ((popR x st.length st out).1 ++ [x]) (popR x st.length st out).2
def psd (l : List Int) : List Int := (popR l.length (psR l [] []).1.length (psR l [] []).1 (psR l [] []).2).2
def pat63 (a : List Int × Bool) : List AV × HL × Nat := ([.il (ints a.1) a.1.length a.2, .fn (.func 96) [] [.ptr 0 0]], [(0, .cells [nS])], 1)
def out63 (a : List Int × Bool) : AV × HL × Nat := (.tup [], (0, .cells [outA 1 (psd a.1)]) :: outH 1 (psd a.1), 1 + outK (psd a.1))
theorem pat63_inj (a b : List Int × Bool) (h : pat63 a = pat63 b) : out63 a = out63 b := by
  obtain ⟨a, u⟩ := a
  obtain ⟨b, v⟩ := b
  simp only [pat63, Prod.mk.injEq, List.cons.injEq, AV.il.injEq, true_and, and_true] at h
  rw [ints_inj h.1]
  rfl
noncomputable def f63 := famF (fun a : List Int × Bool => a.1.length ≤ 1000) pat63 out63
noncomputable def s63 : Sp := ⟨63, f63⟩
@[simp] theorem s63_g : s63.g = 63 := rfl
@[simp] theorem s63_f : s63.f = f63 := rfl
def mk63 (l : List Int) (u : Bool) (st out : List Int) : Nat → ST
  | 0 => ⟨[(0, .il (ints l) l.length u), (3, .ptr 1 0), (4, .ptr 2 0), (5, .fn (.func 97) [] [.ptr 2 0, .ptr 1 0]), (9, .il (ints l) l.length u), (10, vI l.length), (11, vI (0 : Nat))], [(0, .cells [nS]), (1, .cells [.fn (.func 96) [] [.ptr 0 0]]), (2, .cells [nS])], 3⟩
  | i + 1 => ⟨[(0, .il (ints l) l.length u), (3, .ptr 1 0), (4, .ptr 2 0), (5, .fn (.func 97) [] [.ptr 2 0, .ptr 1 0]), (9, .il (ints l) l.length u), (10, vI l.length), (11, vI (i + 1 : Nat))], [(0, .cells [outA 4 out]), (1, .cells [.fn (.func 96) [] [.ptr 0 0]]), (2, .cells [.ref 3 0 st.length 1 none]), (3, .cells (ints st))] ++ outH 4 out, 4 + outK out⟩
set_option maxHeartbeats 4000000 in
theorem s63_ok : s63.ok Try.prog := by
  refine famF_ok ?_
  rintro ⟨l, u⟩ hok
  simp only at hok
  simp only [pat63, out63, hp_eq]
  refine P63.rz (ss := [s97, s67, s96]) ⟨s97_ok, s67_ok, s96_ok, trivial⟩ (by simp) fun Q hQ => ?_
  delta p63 p63_r0 p63_r1 p63_r2 p63_r3
  simp (disch := omega) [oLt, oLe, oLtN, oLeN, nLt, nLe, nLtN, nLeN, effMkfn]
  refine XZ_for (fun p : Nat × List Int × List Int => mk63 l u p.2.1 p.2.2 p.1) (fun p => l.length - p.1) (fun p => p.1 ≤ l.length ∧ p.2.1.length + p.2.2.length ≤ p.1 ∧ psR (l.drop p.1) p.2.1 p.2.2 = psR l [] []) (0, [], []) ⟨by simp, by simp, rfl⟩ (.to [0, 1, 2] ?_) ?_
  · simp [mk63]
  rintro ⟨i, st, out⟩ ⟨hi, hle, hinv⟩ N Q' hN hE
  simp only at hi hle hinv
  simp only
  rcases Nat.lt_or_ge i l.length with h | h
  · have hic : (i : Int) < l.length := by omega
    obtain ⟨x, r, e1, e2, e3, e4, e5⟩ := drop_split h
    rw [e1] at hinv
    simp only [psR] at hinv
    have hpl := popR_len x st.length st out
    obtain ⟨S, O, hSO⟩ : ∃ S O, popR x st.length st out = (S, O) := ⟨_, _, rfl⟩
    have hfa : st.length + out.length ≤ 1000 → ∀ {args : List AV} {H : HL} {k : Nat}, pat97 (x, some (st, out)) = (args, H, k) → f97 args H k = some (.tup [], hpP (newJ out O) S O, newJ out O + outK O) := fun h1 args H k e => by
      have := f97_at h1 e; simpa only [out97, hSO] using this
    rw [hSO] at hinv hpl
    simp only at hinv hpl
    have fin := fun s' hh => hN s' (i + 1, S ++ [x], O) (by simp only; omega) ⟨h, by simp; omega, by rw [e4]; exact hinv⟩ hh
    clear hN hE hQ hinv
    have hf : ∀ S : List Int, S.length ≤ 1000 → f67 [.ptr 0 0, vI x] [(0, .cells [.ref 1 0 S.length 1 none]), (1, .cells (ints S))] 2 = some (.tup [], [(0, .cells [.ref 2 0 (S.length + 1) 1 none]), (2, .cells (ints (S ++ [x])))], 3) := fun S h => by
      have : small S = true := by simp [small]; omega
      simp [f67, this]
    have hfn : f67 [.ptr 0 0, vI x] [(0, .cells [nS])] 1 = some (.tup [], [(0, .cells [.ref 1 0 1 1 none]), (1, .cells [vI x])], 2) := by simp [f67]
    have hgn : f96 [.v (.int .u8 105), vI x, .ptr 0 0] [(0, .cells [nS])] 1 = some (.tup [], [(0, .cells [nS])], 1) := by simp [f96, f67]
    have hg : ∀ (y : Int) (O : List Int), O.length ≤ 1000 → f96 [.v (.int .u8 105), vI x, .ptr 0 0] [(0, .cells [.ref 1 0 (O.length + 1) 1 none]), (1, .cells (vI y :: ints O))] 2 = some (.tup [], [(0, .cells [.ref 1 0 (O.length + 1) 1 none]), (1, .cells (vI y :: ints O))], 2) := fun y O h => by
      have : small (y :: O) = true := by simp [small]; omega
      simp [f96, f67, this]
    rcases i with _ | i
    · have h1 : st = [] := List.length_eq_zero_iff.1 (by omega)
      have h2 : out = [] := List.length_eq_zero_iff.1 (by omega)
      subst h1 h2
      have h3 : ([] : List Int) = S ∧ ([] : List Int) = O := by simpa [popR] using hSO
      obtain ⟨rfl, rfl⟩ := h3
      simp only [mk63, outA_nil, outH_nil, outK_nil] at fin ⊢
      have hf97 := f97_nil x
      simp only [hpN] at hf97
      delta p63_l0 p63_r4 p63_r5 p63_r6 p63_r7 p63_r8 p63_r9
      simp (disch := omega) [oLt, oLe, oLtN, oLeN, nLt, nLe, nLtN, nLeN, hic, h, e2, e3, hf97, hfn, hgn]
      exact fin _ (.to [0, 1, 2, 10] (by simp))
    · have hls : st.length + out.length ≤ 1000 := by omega
      cases out with
      | nil =>
        have hf97 := hfa hls (rfl : pat97 (x, some (st, [])) = ([vI x, .ptr 0 0, .ptr 2 0], hpP 4 st [], 4 + outK []))
        have hj : newJ [] O = 4 := rfl
        have hp := hf S (by omega)
        cases O with
        | nil =>
          simp only [hj, hpP, outA_nil, outH_nil, outK_nil, List.append_nil, List.cons_append, List.nil_append, mk63] at hf97 fin ⊢
          delta p63_l0 p63_r4 p63_r5 p63_r6 p63_r7 p63_r8 p63_r9
          simp (disch := omega) [oLt, oLe, oLtN, oLeN, nLt, nLe, nLtN, nLeN, hic, h, e2, e3, hf97, hp, hgn]
          exact fin _ (.toF (fun h => [0, 1, 2, via h 2]) (by simp))
        | cons y O =>
          have hgy := hg y O (by simp at hpl; omega)
          simp only [hj, hpP, outA_nil, outH_nil, outK_nil, outA_cons, outH_cons, outK_cons, List.append_nil, List.cons_append, List.nil_append, mk63] at hf97 fin ⊢
          delta p63_l0 p63_r4 p63_r5 p63_r6 p63_r7 p63_r8 p63_r9
          simp (disch := omega) [oLt, oLe, oLtN, oLeN, nLt, nLe, nLtN, nLeN, hic, h, e2, e3, hf97, hp, hgy]
          exact fin _ (.toF (fun h => [0, 1, 2, via h 2, via h 0]) (by simp))
      | cons z o =>
        have hf97 := hfa hls (rfl : pat97 (x, some (st, z :: o)) = ([vI x, .ptr 0 0, .ptr 2 0], hpP 4 st (z :: o), 4 + outK (z :: o)))
        have hp := hf S (by omega)
        have hpe := popR_le x st.length st (z :: o)
        rw [hSO] at hpe
        simp only [List.length_cons] at hpe hpl hls
        cases O with
        | nil => simp at hpl; omega
        | cons y O =>
          simp only [List.length_cons] at hpl
          have hgy := hg y O (by omega)
          by_cases hjl : (y :: O).length = (z :: o).length
          · have hj : newJ (z :: o) (y :: O) = 4 := by simp only [newJ]; rw [if_neg (by simp), if_pos hjl]
            simp only [hj, hpP, outA_nil, outH_nil, outK_nil, outA_cons, outH_cons, outK_cons, List.append_nil, List.cons_append, List.nil_append, mk63] at hf97 fin ⊢
            delta p63_l0 p63_r4 p63_r5 p63_r6 p63_r7 p63_r8 p63_r9
            simp (disch := omega) [oLt, oLe, oLtN, oLeN, nLt, nLe, nLtN, nLeN, hic, h, e2, e3, hf97, hp, hgy]
            exact fin _ (.toF (fun h => [0, 1, 2, via h 2, via h 0]) (by simp))
          · have hj : newJ (z :: o) (y :: O) = 5 := by simp only [newJ]; rw [if_neg (by simp), if_neg hjl]
            simp only [hj, hpP, outA_nil, outH_nil, outK_nil, outA_cons, outH_cons, outK_cons, List.append_nil, List.cons_append, List.nil_append, mk63] at hf97 fin ⊢
            delta p63_l0 p63_r4 p63_r5 p63_r6 p63_r7 p63_r8 p63_r9
            simp (disch := omega) [oLt, oLe, oLtN, oLeN, nLt, nLe, nLtN, nLeN, hic, h, e2, e3, hf97, hp, hgy]
            exact fin _ (.toF (fun h => [0, 1, 2, via h 2, via h 0]) (by simp))
  · obtain rfl : i = l.length := by omega
    have hic : ¬ (l.length : Int) < l.length := by omega
    rw [List.drop_eq_nil_of_le (Nat.le_refl _)] at hinv
    simp only [psR] at hinv
    have hpd : psd l = (popR l.length st.length st out).2 := by unfold psd; rw [← hinv]
    rw [hpd] at hQ
    clear hpd hinv
    rcases hl0 : l.length with _ | i
    · have hlc : (l.length : Int) = 0 := by omega
      have h1 : st = [] := List.length_eq_zero_iff.1 (by omega)
      have h2 : out = [] := List.length_eq_zero_iff.1 (by omega)
      subst h1 h2
      have hf97 := f97_nil 0
      simp only [hpN] at hf97
      simp only [popR, List.length_nil, outA_nil, outH_nil, outK_nil] at hQ
      simp only [mk63]
      delta p63_l0 p63_r4 p63_r5 p63_r6 p63_r7 p63_r8 p63_r9
      simp (disch := omega) [oLt, oLe, oLtN, oLeN, nLt, nLe, nLtN, nLeN, hlc]
      refine hE _ _ _ .refl ?_
      delta p63_r10
      simp (disch := omega) [oLt, oLe, oLtN, oLeN, nLt, nLe, nLtN, nLeN, hf97, hlc]
      exact hQ _ _ (EndsP_F (fun h => [0]) (.inr rfl) rfl (by simp))
    · have hlc : (l.length : Int) = i + 1 := by omega
      have hpl := popR_len l.length st.length st out
      obtain ⟨S, O, hSO⟩ : ∃ S O, popR l.length st.length st out = (S, O) := ⟨_, _, rfl⟩
      have hfa : st.length + out.length ≤ 1000 → ∀ {args : List AV} {H : HL} {k : Nat}, pat97 ((l.length : Int), some (st, out)) = (args, H, k) → f97 args H k = some (.tup [], hpP (newJ out O) S O, newJ out O + outK O) := fun h1 args H k e => by
        have := f97_at h1 e; simpa only [out97, hSO] using this
      rw [hSO] at hQ hpl
      simp only at hQ hpl
      have hls : st.length + out.length ≤ 1000 := by omega
      cases out with
      | nil =>
        have hf97 := hfa hls (rfl : pat97 ((l.length : Int), some (st, [])) = ([vI l.length, .ptr 0 0, .ptr 2 0], hpP 4 st [], 4 + outK []))
        have hj : newJ [] O = 4 := rfl
        cases O with
        | nil =>
          simp only [hj, hpP, outA_nil, outH_nil, outK_nil, List.append_nil, List.cons_append, List.nil_append, mk63] at hf97 hQ ⊢
          delta p63_l0 p63_r4 p63_r5 p63_r6 p63_r7 p63_r8 p63_r9
          simp (disch := omega) [oLt, oLe, oLtN, oLeN, nLt, nLe, nLtN, nLeN, hlc]
          refine hE _ _ _ .refl ?_
          delta p63_r10
          rw [hlc] at hf97
          simp (disch := omega) [oLt, oLe, oLtN, oLeN, nLt, nLe, nLtN, nLeN, hf97, hlc]
          exact hQ _ _ (EndsP_F (fun h => [0]) (.inr rfl) rfl (by simp))
        | cons y O =>
          simp only [hj, hpP, outA_nil, outH_nil, outK_nil, outA_cons, outH_cons, outK_cons, List.append_nil, List.cons_append, List.nil_append, mk63] at hf97 hQ ⊢
          delta p63_l0 p63_r4 p63_r5 p63_r6 p63_r7 p63_r8 p63_r9
          simp (disch := omega) [oLt, oLe, oLtN, oLeN, nLt, nLe, nLtN, nLeN, hlc]
          refine hE _ _ _ .refl ?_
          delta p63_r10
          rw [hlc] at hf97
          simp (disch := omega) [oLt, oLe, oLtN, oLeN, nLt, nLe, nLtN, nLeN, hf97, hlc]
          exact hQ _ _ (EndsP_F (fun h => [0, via h 0]) (.inr rfl) rfl (by simp))
      | cons z o =>
        have hf97 := hfa hls (rfl : pat97 ((l.length : Int), some (st, z :: o)) = ([vI l.length, .ptr 0 0, .ptr 2 0], hpP 4 st (z :: o), 4 + outK (z :: o)))
        have hpe := popR_le l.length st.length st (z :: o)
        rw [hSO] at hpe
        simp only [List.length_cons] at hpe hpl hls
        cases O with
        | nil => simp at hpl; omega
        | cons y O =>
          by_cases hjl : (y :: O).length = (z :: o).length
          · have hj : newJ (z :: o) (y :: O) = 4 := by simp only [newJ]; rw [if_neg (by simp), if_pos hjl]
            simp only [hj, hpP, outA_nil, outH_nil, outK_nil, outA_cons, outH_cons, outK_cons, List.append_nil, List.cons_append, List.nil_append, mk63] at hf97 hQ ⊢
            delta p63_l0 p63_r4 p63_r5 p63_r6 p63_r7 p63_r8 p63_r9
            simp (disch := omega) [oLt, oLe, oLtN, oLeN, nLt, nLe, nLtN, nLeN, hlc]
            refine hE _ _ _ .refl ?_
            delta p63_r10
            rw [hlc] at hf97
            simp (disch := omega) [oLt, oLe, oLtN, oLeN, nLt, nLe, nLtN, nLeN, hf97, hlc]
            exact hQ _ _ (EndsP_F (fun h => [0, via h 0]) (.inr rfl) rfl (by simp))
          · have hj : newJ (z :: o) (y :: O) = 5 := by simp only [newJ]; rw [if_neg (by simp), if_neg hjl]
            simp only [hj, hpP, outA_nil, outH_nil, outK_nil, outA_cons, outH_cons, outK_cons, List.append_nil, List.cons_append, List.nil_append, mk63] at hf97 hQ ⊢
            delta p63_l0 p63_r4 p63_r5 p63_r6 p63_r7 p63_r8 p63_r9
            simp (disch := omega) [oLt, oLe, oLtN, oLeN, nLt, nLe, nLtN, nLeN, hlc]
            refine hE _ _ _ .refl ?_
            delta p63_r10
            rw [hlc] at hf97
            simp (disch := omega) [oLt, oLe, oLtN, oLeN, nLt, nLe, nLtN, nLeN, hf97, hlc]
            exact hQ _ _ (EndsP_F (fun h => [0, via h 0]) (.inr rfl) rfl (by simp))
end
section
set_option maxHeartbeats 2000000
theorem f63_at (l : List Int) (u : Bool) (h : l.length ≤ 1000) : f63 [.il (ints l) l.length u, .fn (.func 96) [] [.ptr 0 0]] [(0, .cells [nS])] 1 = some (.tup [], (0, .cells [outA 1 (psd l)]) :: outH 1 (psd l), 1 + outK (psd l)) := famF_at pat63_inj (l, u) h rfl
def sml (l : List Int) : Bool := decide (l.length ≤ 1000)
@[simp] theorem f63_il (a b c d e f : AV) (h : HL) (k : Nat) : f63 [a] h k = none := by
  unfold f63 famF
  rw [dif_neg]
  rintro ⟨a, _, e⟩
  simp [pat63] at e
def s61 : Sp := spT 61 [.l] fun (l : List Int) => res (sml l) (.il (ints (psd l)) (psd l).length false)
@[simp] theorem s61_g : s61.g = 61 := rfl
@[simp] theorem s61_f : s61.f = (spT 61 [.l] fun (l : List Int) => res (sml l) (.il (ints (psd l)) (psd l).length false)).f := rfl
theorem s61_ok : s61.ok Try.prog := by
  apply spT_ok
  simp only [OkT, Ty.all, List.nil_append, List.cons_append]
  intro (l : List Int) u
  apply okT_res; intro hg
  refine P61.rz (ss := [s63, s96]) ⟨s63_ok, s96_ok, trivial⟩ (by simp) fun Q hQ => ?_
  delta p61 p61_r0 p61_r1 p61_r2 p61_r3
  have hf := f63_at l u (by simpa [sml] using hg)
  cases hp : psd l with
  | nil =>
    rw [hp] at hf
    simp only [outA_nil, outH_nil, outK_nil] at hf
    simp (disch := omega) [oLt, oLe, oLtN, oLeN, nLt, nLe, nLtN, nLeN, hf]
    exact hQ _ _ (.fz [2] _ (.inl rfl) (by simp; rfl) (by simp [hp]) (by simp))
  | cons x r =>
    rw [hp] at hf
    simp only [outA_cons, outH_cons, outK_cons] at hf
    simp (disch := omega) [oLt, oLe, oLtN, oLeN, nLt, nLe, nLtN, nLeN, hf]
    exact hQ _ _ (.fz [2] _ (.inl rfl) (by simp; rfl) (by simp [hp]) (by simp))
theorem chkF_len {l : List Int} (h : chkF l = 0) : 0 < l.length ∧ l.length ≤ 7 := by
  unfold chkF at h
  split at h
  · simp at h
  · omega
theorem chkF_sml {l : List Int} (h : chkF l = 0) : sml l = true := by have := chkF_len h; simp [sml]; omega
def s16 : Sp := spT 16 [.l] fun (l : List Int) => res (small l) (if chkF l = 0 then .tup [.il (ints (psd l)) (psd l).length false, vI 0] else .tup [.il [] 0 false, vI (chkF l)])
@[simp] theorem s16_g : s16.g = 16 := rfl
@[simp] theorem s16_f : s16.f = (spT 16 [.l] fun (l : List Int) => res (small l) (if chkF l = 0 then .tup [.il (ints (psd l)) (psd l).length false, vI 0] else .tup [.il [] 0 false, vI (chkF l)])).f := rfl
theorem s16_ok : s16.ok Try.prog := by
  apply spT_ok
  simp only [OkT, Ty.all, List.nil_append, List.cons_append]
  intro (l : List Int) u
  apply okT_res; intro hg
  refine P16.rz (ss := [s23, s61]) ⟨s23_ok, s61_ok, trivial⟩ (by simp) fun Q hQ => ?_
  delta p16 p16_r0 p16_r1 p16_r2 p16_r3 p16_r4
  by_cases h : chkF l = 0
  · have hs := chkF_sml h
    rw [if_pos h] at hQ
    simp (disch := omega) [oLt, oLe, oLtN, oLeN, nLt, nLe, nLtN, nLeN, hg, h, hs]
    exact hQ _ _ (.p (.inl rfl) (by simp) rfl)
  · rw [if_neg h] at hQ
    simp (disch := omega) [oLt, oLe, oLtN, oLeN, nLt, nLe, nLtN, nLeN, hg, h]
    exact hQ _ _ (.fz [2, 3] _ (.inl rfl) (by simp; rfl) (by simp) (by simp))
end
section
def mvS : List Int → List Int → List Int → List Int × List Int
  | [], st, out => (st, out)
  | x :: r, st, out => mvS r ((mvR x st.length st out).1 ++ [x]) ((mvR x st.length st out).2 ++ [105])
def mvF (l : List Int) : List Int := (mvR l.length (mvS l [] []).1.length (mvS l [] []).1 (mvS l [] []).2).2
def pat63b (a : List Int × Bool) : List AV × HL × Nat := ([.il (ints a.1) a.1.length a.2, .fn (.func 64) [] [.ptr 0 0]], [(0, .bld false [pN, nS])], 1)
def out63b (a : List Int × Bool) : AV × HL × Nat := (.tup [], bHp (mvF a.1), 1 + outK (mvF a.1))
theorem pat63b_inj (a b : List Int × Bool) (h : pat63b a = pat63b b) : out63b a = out63b b := by
  obtain ⟨a, u⟩ := a
  obtain ⟨b, v⟩ := b
  simp only [pat63b, Prod.mk.injEq, List.cons.injEq, AV.il.injEq, true_and, and_true] at h
  rw [ints_inj h.1]
  rfl
noncomputable def f63b := famF (fun a : List Int × Bool => a.1.length ≤ 250) pat63b out63b
noncomputable def s63b : Sp := ⟨63, f63b⟩
@[simp] theorem s63b_g : s63b.g = 63 := rfl
@[simp] theorem s63b_f : s63b.f = f63b := rfl
def mk63b (l : List Int) (u : Bool) (st out : List Int) : Nat → ST
  | 0 => ⟨[(0, .il (ints l) l.length u), (3, .ptr 1 0), (4, .ptr 2 0), (5, .fn (.func 97) [] [.ptr 2 0, .ptr 1 0]), (9, .il (ints l) l.length u), (10, vI l.length), (11, vI (0 : Nat))], [(0, .bld false [pN, nS]), (1, .cells [.fn (.func 64) [] [.ptr 0 0]]), (2, .cells [nS])], 3⟩
  | i + 1 => ⟨[(0, .il (ints l) l.length u), (3, .ptr 1 0), (4, .ptr 2 0), (5, .fn (.func 97) [] [.ptr 2 0, .ptr 1 0]), (9, .il (ints l) l.length u), (10, vI l.length), (11, vI (i + 1 : Nat))], [(0, .bld false (bA 0 4 out)), (1, .cells [.fn (.func 64) [] [.ptr 0 0]]), (2, .cells [.ref 3 0 st.length 1 none]), (3, .cells (ints st))] ++ bH 4 out, 4 + outK out⟩
set_option maxHeartbeats 4000000 in
theorem s63b_ok : s63b.ok Try.prog := by
  refine famF_ok ?_
  rintro ⟨l, u⟩ hok
  simp only at hok
  simp only [pat63b, out63b, hp_eq]
  refine P63.rz (ss := [s97b, s67, s64]) ⟨s97b_ok, s67_ok, s64_ok, trivial⟩ (by simp) fun Q hQ => ?_
  delta p63 p63_r0 p63_r1 p63_r2 p63_r3
  simp (disch := omega) [oLt, oLe, oLtN, oLeN, nLt, nLe, nLtN, nLeN, effMkfn]
  refine XZ_for (fun p : Nat × List Int × List Int => mk63b l u p.2.1 p.2.2 p.1) (fun p => l.length - p.1) (fun p => p.1 ≤ l.length ∧ p.2.1.length + p.2.2.length ≤ 2 * p.1 ∧ (p.1 ≠ 0 → p.2.2 ≠ []) ∧ mvS (l.drop p.1) p.2.1 p.2.2 = mvS l [] []) (0, [], []) ⟨by simp, by simp, by simp, rfl⟩ (.to [0, 1, 2] ?_) ?_
  · simp [mk63b]
  rintro ⟨i, st, out⟩ ⟨hi, hle, hne, hinv⟩ N Q' hN hE
  simp only at hi hle hne hinv
  simp only
  rcases Nat.lt_or_ge i l.length with h | h
  · have hic : (i : Int) < l.length := by omega
    obtain ⟨x, r, e1, e2, e3, e4, e5⟩ := drop_split h
    rw [e1] at hinv
    simp only [mvS] at hinv
    have hpl := mvR_len x st.length st out
    obtain ⟨S, O, hSO⟩ : ∃ S O, mvR x st.length st out = (S, O) := ⟨_, _, rfl⟩
    have hfa : st.length + out.length ≤ 600 → ∀ {args : List AV} {H : HL} {k : Nat}, pat97b (x, some (st, out)) = (args, H, k) → f97b args H k = some (.tup [], hpB (newJ out O) S O, newJ out O + outK O) := fun h1 args H k e => by
      have := f97b_at h1 e; simpa only [out97b, hSO] using this
    rw [hSO] at hinv hpl
    simp only at hinv hpl
    have fin := fun s' hh => hN s' (i + 1, S ++ [x], O ++ [105]) (by simp only; omega) ⟨h, by simp; omega, by simp, by rw [e4]; exact hinv⟩ hh
    clear hN hE hQ hinv
    have hf : ∀ S : List Int, S.length ≤ 1000 → f67 [.ptr 0 0, vI x] [(0, .cells [.ref 1 0 S.length 1 none]), (1, .cells (ints S))] 2 = some (.tup [], [(0, .cells [.ref 2 0 (S.length + 1) 1 none]), (2, .cells (ints (S ++ [x])))], 3) := fun S h => by
      have : small S = true := by simp [small]; omega
      simp [f67, this]
    have hfn : f67 [.ptr 0 0, vI x] [(0, .cells [nS])] 1 = some (.tup [], [(0, .cells [.ref 1 0 1 1 none]), (1, .cells [vI x])], 2) := by simp [f67]
    have hgn := f64n 105 x
    rcases i with _ | i
    · have h1 : st = [] := List.length_eq_zero_iff.1 (by omega)
      have h2 : out = [] := List.length_eq_zero_iff.1 (by omega)
      subst h1 h2
      have h3 : ([] : List Int) = S ∧ ([] : List Int) = O := by simpa [mvR] using hSO
      obtain ⟨rfl, rfl⟩ := h3
      simp only [mk63b, List.nil_append, bA_cons, bH_cons, outK_cons] at fin ⊢
      have hf97 := f97b_nil x
      simp only [hpBN] at hf97
      delta p63_l0 p63_r4 p63_r5 p63_r6 p63_r7 p63_r8 p63_r9
      simp (disch := omega) [oLt, oLe, oLtN, oLeN, nLt, nLe, nLtN, nLeN, hic, h, e2, e3, hf97, hfn, hgn]
      exact fin _ (.toF (fun h => [0, 1, 2, via h 2, viaB h 0]) (by simp))
    · have hls : st.length + out.length ≤ 600 := by omega
      cases out with
      | nil => exact absurd rfl (hne (by omega))
      | cons z o =>
        have hf97 := hfa hls (rfl : pat97b (x, some (st, z :: o)) = ([vI x, .ptr 0 0, .ptr 2 0], hpB 4 st (z :: o), 4 + outK (z :: o)))
        have hp := hf S (by omega)
        have hpe := mvR_le x st.length st (z :: o)
        rw [hSO] at hpe
        simp only [List.length_cons] at hpe hpl hls
        cases O with
        | nil => simp at hpl; omega
        | cons y O =>
          simp only [List.length_cons] at hpl
          have hgy := f64c 105 x y O (by omega)
          by_cases hjl : (y :: O).length = (z :: o).length
          · have hj : newJ (z :: o) (y :: O) = 4 := by simp only [newJ]; rw [if_neg (by simp), if_pos hjl]
            simp only [hj, hpB, bA_nil, bH_nil, outK_nil, bA_cons, bH_cons, outK_cons, List.append_nil, List.cons_append, List.nil_append, mk63b] at hf97 fin ⊢
            delta p63_l0 p63_r4 p63_r5 p63_r6 p63_r7 p63_r8 p63_r9
            simp (disch := omega) [oLt, oLe, oLtN, oLeN, nLt, nLe, nLtN, nLeN, hic, h, e2, e3, hf97, hp, hgy]
            exact fin _ (.toF (fun h => [0, 1, 2, via h 2, viaB h 0]) (by simp))
          · have hj : newJ (z :: o) (y :: O) = 5 := by simp only [newJ]; rw [if_neg (by simp), if_neg hjl]
            simp only [hj, hpB, bA_nil, bH_nil, outK_nil, bA_cons, bH_cons, outK_cons, List.append_nil, List.cons_append, List.nil_append, mk63b] at hf97 fin ⊢
            delta p63_l0 p63_r4 p63_r5 p63_r6 p63_r7 p63_r8 p63_r9
            simp (disch := omega) [oLt, oLe, oLtN, oLeN, nLt, nLe, nLtN, nLeN, hic, h, e2, e3, hf97, hp, hgy]
            exact fin _ (.toF (fun h => [0, 1, 2, via h 2, viaB h 0]) (by simp))
  · obtain rfl : i = l.length := by omega
    have hic : ¬ (l.length : Int) < l.length := by omega
    rw [List.drop_eq_nil_of_le (Nat.le_refl _)] at hinv
    simp only [mvS] at hinv
    have hpd : mvF l = (mvR l.length st.length st out).2 := by unfold mvF; rw [← hinv]
    rw [hpd] at hQ
    clear hpd hinv
    rcases hl0 : l.length with _ | i
    · have hlc : (l.length : Int) = 0 := by omega
      have h1 : st = [] := List.length_eq_zero_iff.1 (by omega)
      have h2 : out = [] := List.length_eq_zero_iff.1 (by omega)
      subst h1 h2
      have hf97 := f97b_nil 0
      simp only [hpBN] at hf97
      simp only [mvR, List.length_nil, bHp, bA_nil, bH_nil, outK_nil] at hQ
      simp only [mk63b]
      delta p63_l0 p63_r4 p63_r5 p63_r6 p63_r7 p63_r8 p63_r9
      simp (disch := omega) [oLt, oLe, oLtN, oLeN, nLt, nLe, nLtN, nLeN, hlc]
      refine hE _ _ _ .refl ?_
      delta p63_r10
      simp (disch := omega) [oLt, oLe, oLtN, oLeN, nLt, nLe, nLtN, nLeN, hf97, hlc]
      exact hQ _ _ (EndsP_F (fun h => [0]) (.inr rfl) rfl (by simp))
    · have hlc : (l.length : Int) = i + 1 := by omega
      have hpl := mvR_len l.length st.length st out
      obtain ⟨S, O, hSO⟩ : ∃ S O, mvR l.length st.length st out = (S, O) := ⟨_, _, rfl⟩
      have hfa : st.length + out.length ≤ 600 → ∀ {args : List AV} {H : HL} {k : Nat}, pat97b ((l.length : Int), some (st, out)) = (args, H, k) → f97b args H k = some (.tup [], hpB (newJ out O) S O, newJ out O + outK O) := fun h1 args H k e => by
        have := f97b_at h1 e; simpa only [out97b, hSO] using this
      rw [hSO] at hQ hpl
      simp only at hQ hpl
      have hls : st.length + out.length ≤ 600 := by omega
      cases out with
      | nil => exact absurd rfl (hne (by omega))
      | cons z o =>
        have hf97 := hfa hls (rfl : pat97b ((l.length : Int), some (st, z :: o)) = ([vI l.length, .ptr 0 0, .ptr 2 0], hpB 4 st (z :: o), 4 + outK (z :: o)))
        have hpe := mvR_le l.length st.length st (z :: o)
        rw [hSO] at hpe
        simp only [List.length_cons] at hpe hpl hls
        cases O with
        | nil => simp at hpl; omega
        | cons y O =>
          by_cases hjl : (y :: O).length = (z :: o).length
          · have hj : newJ (z :: o) (y :: O) = 4 := by simp only [newJ]; rw [if_neg (by simp), if_pos hjl]
            simp only [hj, hpB, bHp, bA_nil, bH_nil, outK_nil, bA_cons, bH_cons, outK_cons, List.append_nil, List.cons_append, List.nil_append, mk63b] at hf97 hQ ⊢
            delta p63_l0 p63_r4 p63_r5 p63_r6 p63_r7 p63_r8 p63_r9
            simp (disch := omega) [oLt, oLe, oLtN, oLeN, nLt, nLe, nLtN, nLeN, hlc]
            refine hE _ _ _ .refl ?_
            delta p63_r10
            rw [hlc] at hf97
            simp (disch := omega) [oLt, oLe, oLtN, oLeN, nLt, nLe, nLtN, nLeN, hf97, hlc]
            exact hQ _ _ (EndsP_F (fun h => [0, viaB h 0]) (.inr rfl) rfl (by simp))
          · have hj : newJ (z :: o) (y :: O) = 5 := by simp only [newJ]; rw [if_neg (by simp), if_neg hjl]
            simp only [hj, hpB, bHp, bA_nil, bH_nil, outK_nil, bA_cons, bH_cons, outK_cons, List.append_nil, List.cons_append, List.nil_append, mk63b] at hf97 hQ ⊢
            delta p63_l0 p63_r4 p63_r5 p63_r6 p63_r7 p63_r8 p63_r9
            simp (disch := omega) [oLt, oLe, oLtN, oLeN, nLt, nLe, nLtN, nLeN, hlc]
            refine hE _ _ _ .refl ?_
            delta p63_r10
            rw [hlc] at hf97
            simp (disch := omega) [oLt, oLe, oLtN, oLeN, nLt, nLe, nLtN, nLeN, hf97, hlc]
            exact hQ _ _ (EndsP_F (fun h => [0, viaB h 0]) (.inr rfl) rfl (by simp))
end
section
set_option maxHeartbeats 4000000
abbrev vS (s : ByteArray) : AV := .v (.string s)
def strB (w : List Int) : ByteArray := ⟨(w.map fun n => n.toNat.toUInt8).toArray⟩
def letB (w : List Int) : Prop := ∀ x ∈ w, 0 ≤ x ∧ x < 256
theorem bytesA_u8s : ∀ {w : List Int}, letB w → bytesA (u8s w) = some (w.map fun n => n.toNat.toUInt8)
  | [], _ => rfl
  | x :: r, h => by
    have h1 := h x (by simp)
    have ih := bytesA_u8s (w := r) (fun y hy => h y (by simp [hy]))
    simp [bytesA, ih, h1]
def pat66 (w : List Int) : List AV × HL × Nat := ([.ptr 0 0], bHp w, 1 + outK w)
def out66 (w : List Int) : AV × HL × Nat := (vS (strB w), [], 1 + outK w)
theorem pat66_inj (a b : List Int) (h : pat66 a = pat66 b) : out66 a = out66 b := by
  simp only [pat66, Prod.mk.injEq] at h
  rw [bHp_inj h.2.1]
noncomputable def f66 := famF (fun w : List Int => w.length ≤ 1000 ∧ w ≠ [] ∧ letB w) pat66 out66
noncomputable def s66 : Sp := ⟨66, f66⟩
@[simp] theorem s66_g : s66.g = 66 := rfl
@[simp] theorem s66_f : s66.f = f66 := rfl
theorem s66_ok : s66.ok Try.prog := by
  refine famF_ok ?_
  rintro w ⟨hl, hne, hb⟩
  cases w with
  | nil => exact absurd rfl hne
  | cons x r =>
    have hby := bytesA_u8s hb
    rw [u8s_cons] at hby
    simp only [pat66, out66, hp_eq, bHp, bA_cons, bH_cons, outK_cons]
    refine P66.rz (ss := []) trivial (by simp) fun Q hQ => ?_
    have hrl : r.length ≤ 1000 := by simp at hl; omega
    delta p66 p66_r0 p66_r1
    simp (disch := omega) [oLt, oLe, oLtN, oLeN, nLt, nLe, nLtN, nLeN, effSdata, effUstr, hby]
    exact hQ _ _ (EndsP_F (fun h => [0, 1]) (.inl rfl) rfl (by simp [strB]))
theorem f66_at (x : Int) (r : List Int) (h : r.length ≤ 900) (hb : letB (x :: r)) : f66 [.ptr 0 0] [(0, .bld false [.ptr 0 0, .ref 1 0 (r.length + 1) 1 none]), (1, .bld true (vU x :: u8s r))] 2 = some (vS (strB (x :: r)), [], 2) := by
  have := famF_at pat66_inj (x :: r) (ok := fun w : List Int => w.length ≤ 1000 ∧ w ≠ [] ∧ letB w) ⟨by simp; omega, by simp, hb⟩ (by simp [pat66, bHp] : pat66 (x :: r) = ([.ptr 0 0], [(0, .bld false [.ptr 0 0, .ref 1 0 (r.length + 1) 1 none]), (1, .bld true (vU x :: u8s r))], 2))
  unfold f66
  rw [this]
  simp [out66]
theorem letB_app {w : List Int} {c : Int} (h : letB w) (hc : 0 ≤ c ∧ c < 256) : letB (w ++ [c]) := fun x hx => by
  rcases List.mem_append.1 hx with hx | hx
  · exact h x hx
  · rw [List.mem_singleton.1 hx]; exact hc
theorem mvR_let (b : Int) : ∀ n st out, letB out → letB (mvR b n st out).2
  | 0, st, out, h => h
  | n + 1, st, out, h => by
    simp only [mvR]
    split
    · exact h
    · split
      · exact mvR_let b n _ _ (letB_app h (by omega))
      · exact h
theorem mvS_let : ∀ l st out, letB out → letB (mvS l st out).2
  | [], st, out, h => h
  | x :: r, st, out, h => mvS_let r _ _ (letB_app (mvR_let x _ _ _ h) (by omega))
theorem mvF_let (l : List Int) : letB (mvF l) := mvR_let _ _ _ _ (mvS_let l [] [] (fun x h => by simp at h))
theorem mvS_len : ∀ l st out, (mvS l st out).1.length + (mvS l st out).2.length = 2 * l.length + st.length + out.length ∧ (mvS l st out).1.length ≤ st.length + l.length
  | [], st, out => by simp [mvS]
  | x :: r, st, out => by
    have h := mvR_len x st.length st out
    have h2 := mvR_le x st.length st out
    obtain ⟨h3, h4⟩ := mvS_len r ((mvR x st.length st out).1 ++ [x]) ((mvR x st.length st out).2 ++ [105])
    simp only [List.length_append, List.length_singleton] at h3 h4
    simp only [mvS, List.length_cons]
    omega
theorem mvF_len (l : List Int) : l.length ≤ (mvF l).length ∧ (mvF l).length ≤ 2 * l.length := by
  have h := mvR_len l.length (mvS l [] []).1.length (mvS l [] []).1 (mvS l [] []).2
  have h2 := mvR_le l.length (mvS l [] []).1.length (mvS l [] []).1 (mvS l [] []).2
  have h3 := mvS_len l [] []
  simp only [List.length_nil] at h3
  unfold mvF
  omega
theorem f63b_at (l : List Int) (u : Bool) (h : l.length ≤ 250) : f63b [.il (ints l) l.length u, .fn (.func 64) [] [.ptr 0 0]] [(0, .bld false [pN, nS])] 1 = some (.tup [], bHp (mvF l), 1 + outK (mvF l)) := famF_at pat63b_inj (l, u) h rfl
def s18 : Sp := spT 18 [.l] fun (l : List Int) => res (small l) (if chkF l = 0 then .tup [vS (strB (mvF l)), vI 0] else .tup [vS ⟨#[]⟩, vI (chkF l)])
@[simp] theorem s18_g : s18.g = 18 := rfl
@[simp] theorem s18_f : s18.f = (spT 18 [.l] fun (l : List Int) => res (small l) (if chkF l = 0 then .tup [vS (strB (mvF l)), vI 0] else .tup [vS ⟨#[]⟩, vI (chkF l)])).f := rfl
theorem s18_ok : s18.ok Try.prog := by
  apply spT_ok
  simp only [OkT, Ty.all, List.nil_append, List.cons_append]
  intro (l : List Int) u
  apply okT_res; intro hg
  refine P18.rz (ss := [s23, s63b, s66]) ⟨s23_ok, s63b_ok, s66_ok, trivial⟩ (by simp) fun Q hQ => ?_
  delta p18 p18_r0 p18_r1 p18_r2 p18_r3 p18_r4 p18_r5 p18_r6
  by_cases h : chkF l = 0
  · have hl := chkF_len h
    have hf := f63b_at l u (Nat.le_trans hl.2 (by omega))
    have hml := mvF_len l
    have hlet := mvF_let l
    rw [if_pos h] at hQ
    cases hp : mvF l with
    | nil => rw [hp, List.length_nil] at hml; omega
    | cons x r =>
      rw [hp] at hf hml hlet hQ
      simp only [List.length_cons] at hml
      simp only [bHp, bA_cons, bH_cons, outK_cons] at hf
      have h66 := f66_at x r (by omega) hlet
      simp (disch := omega) [oLt, oLe, oLtN, oLeN, nLt, nLe, nLtN, nLeN, hg, h, hf, h66, effAllocB]
      exact hQ _ _ (.p (.inl rfl) (by simp) rfl)
  · rw [if_neg h] at hQ
    simp (disch := omega) [oLt, oLe, oLtN, oLeN, nLt, nLe, nLtN, nLeN, hg, h]
    exact hQ _ _ (.p (.inl rfl) (by simp) rfl)
end
section
set_option maxHeartbeats 8000000
def rnR (s : ByteArray) (n : Nat) : Nat → Nat → List Int → List Int → List Int → Int × List Int
  | 0, _, _, out, _ => if out.length < n then (21, []) else (0, out)
  | f + 1, i, st, out, left => match s[i]? with
    | none => (0, [])
    | some b => if b = 105 then (match left with
        | [] => (2, [])
        | x :: r => rnR s n f (i + 1) (st ++ [x]) out r)
      else if b = 111 then (if st = [] then (4, []) else rnR s n f (i + 1) st.dropLast (out ++ [st.getLastD 0]) left) else (10, [])
def rnF (s : ByteArray) (l : List Int) : Int × List Int := rnR s l.length s.size 0 [] [] l
def rnA (q : Int × List Int) : AV := .tup [.il (ints q.2) q.2.length false, vI q.1]
theorem sz_get {s : ByteArray} {i : Nat} (h : i < s.size) : ∃ b, s[i]? = some b ∧ s[i] = b := ⟨s[i], by simp [h], rfl⟩
def mk20 (l : List Int) (u : Bool) (s : ByteArray) (p : Bool) (st out left : List Int) (v : Bool) (i : Nat) : ST := if p = true
  then ⟨[(0, .il (ints l) l.length u), (1, vS s), (7, .ptr 0 0), (8, outA 2 out), (9, .il (ints left) left.length v), (20, vI s.size), (21, vI i)], [(0, .cells [.ref 1 0 st.length 1 none]), (1, .cells (ints st))] ++ outH 2 out, 2 + outK out⟩
  else ⟨[(0, .il (ints l) l.length u), (1, vS s), (7, .ptr 0 0), (8, nS), (9, .il (ints left) left.length v), (20, vI s.size), (21, vI i)], [(0, .cells [nS])], 1⟩
theorem byte_c {b : UInt8} (h : b = 105) : (b.toNat : Int) = 105 := by subst h; rfl
theorem byte_c2 {b : UInt8} (h : b = 111) : (b.toNat : Int) = 111 := by subst h; rfl
theorem byte_n {b : UInt8} {k : Nat} (hk : k < 256) (h : ¬ b = k.toUInt8) : ¬ (b.toNat : Int) = k := fun e => h (by
  have : b.toNat = k := by omega
  rw [← UInt8.toNat_inj]
  simp; omega)
@[simp] theorem snd0 (c : Int) : (c, ([] : List Int)).2 = [] := rfl
def g20 (s : ByteArray) : Bool := decide (s.size ≤ 1000)
def s20 : Sp := spT 20 [.l, .av] fun (l : List Int) (a : AV) => match a with
  | .v (.string s) => res (small l && g20 s) (if chkF l = 0 then rnA (rnF s l) else .tup [.il [] 0 false, vI (chkF l)])
  | _ => none
@[simp] theorem s20_g : s20.g = 20 := rfl
@[simp] theorem s20_f : s20.f = (spT 20 [.l, .av] fun (l : List Int) (a : AV) => match a with
  | .v (.string s) => res (small l && g20 s) (if chkF l = 0 then rnA (rnF s l) else .tup [.il [] 0 false, vI (chkF l)])
  | _ => none).f := rfl
theorem s20_ok : s20.ok Try.prog := by
  apply spT_ok
  simp only [OkT, Ty.all, List.nil_append, List.cons_append]
  intro (l : List Int) u (a : AV)
  cases a with
  | v x =>
    cases x with
    | string s =>
      apply okT_res; intro hg
      simp only [g20, Bool.and_eq_true, decide_eq_true_eq] at hg
      obtain ⟨hg, hss⟩ := hg
      refine P20.rz (ss := [s23, s67, s68, s69]) ⟨s23_ok, s67_ok, s68_ok, s69_ok, trivial⟩ (by simp) fun Q hQ => ?_
      by_cases hc : chkF l = 0
      rotate_left
      · rw [if_neg hc] at hQ
        delta p20 p20_r0 p20_r1 p20_r2 p20_r3 p20_r4 p20_r5 p20_r6 p20_r7
        simp (disch := omega) [oLt, oLe, oLtN, oLeN, nLt, nLe, nLtN, nLeN, hg, hc]
        exact hQ _ _ (.fz [4, 5] _ (.inl rfl) (by simp; rfl) (by simp) (by simp))
      rw [if_pos hc] at hQ
      obtain ⟨hl0, hl7⟩ := chkF_len hc
      have hs0 : small ([] : List Int) = true := rfl
      delta p20 p20_r0 p20_r1 p20_r2 p20_r3 p20_r4 p20_r5 p20_r6 p20_r7
      simp (disch := omega) [oLt, oLe, oLtN, oLeN, nLt, nLe, nLtN, nLeN, hg, hc, effLenS]
      refine XZ_for (fun p : Nat × Bool × List Int × List Int × List Int × Bool => mk20 l u s p.2.1 p.2.2.1 p.2.2.2.1 p.2.2.2.2.1 p.2.2.2.2.2 p.1) (fun p => s.size - p.1) (fun p => p.1 ≤ s.size ∧ (p.2.1 = false → p.2.2.1 = [] ∧ p.2.2.2.1 = []) ∧ p.2.2.1.length + p.2.2.2.1.length + p.2.2.2.2.1.length = l.length ∧ rnR s l.length (s.size - p.1) p.1 p.2.2.1 p.2.2.2.1 p.2.2.2.2.1 = rnF s l) (0, false, [], [], l, u) ⟨by simp, by simp, by simp, by simp [rnF]⟩ (.toS (fun s => [ida s 7]) (by simp [mk20])) ?_
      rintro ⟨i, p, st, out, left, v⟩ ⟨hi, hp, hlen, hinv⟩ N Q' hN hE
      simp only at hi hp hlen hinv ⊢
      have ret0 : ∀ c : Int, (c, ([] : List Int)) = rnF s l → ∀ e s', EndsP 0 [SRes.tmp 4, SRes.tmp 5] (.tup [.il [] 0 false, vI c]) 0 [] e s' → Q e s' := fun c hcc e s' hh => hQ e s' (by rw [← hcc]; exact hh)
      rcases Nat.lt_or_ge i s.size with h | h
      · have hic : (i : Int) < s.size := by omega
        obtain ⟨b, hb, hbi⟩ := sz_get h
        rw [show s.size - i = (s.size - (i + 1)) + 1 by omega] at hinv
        simp only [rnR, hb] at hinv
        have fin : ∀ st' out' left' v', st'.length + out'.length + left'.length = l.length → rnR s l.length (s.size - (i + 1)) (i + 1) st' out' left' = rnF s l → ∀ s', ChgT 0 s' (mk20 l u s true st' out' left' v' (i + 1)) → N s' := fun st' out' left' v' h1 h2 s' hh => hN s' (i + 1, true, st', out', left', v') (by simp only; omega) ⟨h, by simp, h1, h2⟩ hh
        clear hN hQ
        by_cases hb1 : b = 105
        · rw [if_pos hb1] at hinv
          have hbc := byte_c hb1
          cases left with
          | nil =>
            simp only at hinv
            cases p with
            | false =>
              simp only [mk20, Bool.false_eq_true, if_false]
              delta p20_l0 p20_r8 p20_r9 p20_r10 p20_r11 p20_r12 p20_r13 p20_r14 p20_r15 p20_r16 p20_r17 p20_r18 p20_r19 p20_r20 p20_r21 p20_r22 p20_r23
              simp (disch := omega) [oLt, oLe, oLtN, oLeN, nLt, nLe, nLtN, nLeN, hic, hb, hbi, effIdxS, hbc]
              refine hE _ _ _ .refl ?_
              simp (disch := omega) [oLt, oLe, oLtN, oLeN, nLt, nLe, nLtN, nLeN]
              exact ret0 2 hinv _ _ (.fz [4, 5] _ (.inl rfl) (by simp; rfl) (by simp) (by simp))
            | true =>
              simp only [mk20, if_true]
              cases out with
              | nil =>
                delta p20_l0 p20_r8 p20_r9 p20_r10 p20_r11 p20_r12 p20_r13 p20_r14 p20_r15 p20_r16 p20_r17 p20_r18 p20_r19 p20_r20 p20_r21 p20_r22 p20_r23
                simp (disch := omega) [oLt, oLe, oLtN, oLeN, nLt, nLe, nLtN, nLeN, hic, hb, hbi, effIdxS, hbc]
                refine hE _ _ _ .refl ?_
                simp (disch := omega) [oLt, oLe, oLtN, oLeN, nLt, nLe, nLtN, nLeN]
                exact ret0 2 hinv _ _ (.fz [4, 5] _ (.inl rfl) (by simp; rfl) (by simp) (by simp))
              | cons y o =>
                delta p20_l0 p20_r8 p20_r9 p20_r10 p20_r11 p20_r12 p20_r13 p20_r14 p20_r15 p20_r16 p20_r17 p20_r18 p20_r19 p20_r20 p20_r21 p20_r22 p20_r23
                simp (disch := omega) [oLt, oLe, oLtN, oLeN, nLt, nLe, nLtN, nLeN, hic, hb, hbi, effIdxS, hbc]
                refine hE _ _ _ .refl ?_
                simp (disch := omega) [oLt, oLe, oLtN, oLeN, nLt, nLe, nLtN, nLeN]
                exact ret0 2 hinv _ _ (.fz [4, 5] _ (.inl rfl) (by simp; rfl) (by simp) (by simp))
          | cons x r =>
            simp only at hinv
            cases p with
            | false =>
              obtain ⟨rfl, rfl⟩ := hp rfl
              have fin := fun v => fin _ _ _ v (by simp at hlen ⊢; omega) hinv
              simp only [mk20, Bool.false_eq_true, if_false, if_true] at fin ⊢
              delta p20_l0 p20_r8 p20_r9 p20_r10 p20_r11 p20_r12 p20_r13 p20_r14 p20_r15 p20_r16 p20_r17 p20_r18 p20_r19 p20_r20 p20_r21 p20_r22 p20_r23
              simp (disch := omega) [oLt, oLe, oLtN, oLeN, nLt, nLe, nLtN, nLeN, hic, hb, hbi, effIdxS, hbc, f67]
              exact fin v _ (.toS (fun s => [ida s 7, via s.heap (ida s 7)]) (by simp))
            | true =>
              have hss : small st = true := by simp [small]; omega
              have hf67 : f67 [.ptr 0 0, vI x] [(0, .cells [.ref 1 0 st.length 1 none]), (1, .cells (ints st))] 2 = some (.tup [], [(0, .cells [.ref 2 0 (st.length + 1) 1 none]), (2, .cells (ints (st ++ [x])))], 3) := by simp [f67, hss]
              have fin := fun v => fin (st ++ [x]) out r v (by simp at hlen ⊢; omega) hinv
              simp only [mk20, if_true] at fin ⊢
              cases out with
              | nil =>
                delta p20_l0 p20_r8 p20_r9 p20_r10 p20_r11 p20_r12 p20_r13 p20_r14 p20_r15 p20_r16 p20_r17 p20_r18 p20_r19 p20_r20 p20_r21 p20_r22 p20_r23
                simp (disch := omega) [oLt, oLe, oLtN, oLeN, nLt, nLe, nLtN, nLeN, hic, hb, hbi, effIdxS, hbc, hf67]
                exact fin v _ (.toS (fun s => [ida s 7, via s.heap (ida s 7)]) (by simp))
              | cons y o =>
                delta p20_l0 p20_r8 p20_r9 p20_r10 p20_r11 p20_r12 p20_r13 p20_r14 p20_r15 p20_r16 p20_r17 p20_r18 p20_r19 p20_r20 p20_r21 p20_r22 p20_r23
                simp (disch := omega) [oLt, oLe, oLtN, oLeN, nLt, nLe, nLtN, nLeN, hic, hb, hbi, effIdxS, hbc, hf67]
                exact fin v _ (.toS (fun s => [ida s 7, via s.heap (ida s 7), ida s 8]) (by simp))
        · rw [if_neg hb1] at hinv
          have hbn := byte_n (k := 105) (by omega) hb1
          simp only [Int.cast_ofNat_Int] at hbn
          by_cases hb2 : b = 111
          · rw [if_pos hb2] at hinv
            have hbc := byte_c2 hb2
            have hbn' : ¬ (111 : Int) = 105 := by omega
            cases p with
            | false =>
              obtain ⟨rfl, rfl⟩ := hp rfl
              rw [if_pos rfl] at hinv
              simp only [mk20, Bool.false_eq_true, if_false]
              delta p20_l0 p20_r8 p20_r9 p20_r10 p20_r11 p20_r12 p20_r13 p20_r14 p20_r15 p20_r16 p20_r17 p20_r18 p20_r19 p20_r20 p20_r21 p20_r22 p20_r23
              simp (disch := omega) [oLt, oLe, oLtN, oLeN, nLt, nLe, nLtN, nLeN, hic, hb, hbi, effIdxS, hbc, f68, hs0, basH]
              refine hE _ _ _ .refl ?_
              simp (disch := omega) [oLt, oLe, oLtN, oLeN, nLt, nLe, nLtN, nLeN]
              exact ret0 4 hinv _ _ (.fz [4, 5] _ (.inl rfl) (by simp; rfl) (by simp) (by simp))
            | true =>
              rcases step97 st (n := 0) (by omega) with rfl | ⟨c, D, hne, hD, hcc, hln, hem, h4, h5⟩
              · rw [if_pos rfl] at hinv
                simp only [mk20, if_true]
                cases out with
                | nil =>
                  delta p20_l0 p20_r8 p20_r9 p20_r10 p20_r11 p20_r12 p20_r13 p20_r14 p20_r15 p20_r16 p20_r17 p20_r18 p20_r19 p20_r20 p20_r21 p20_r22 p20_r23
                  simp (disch := omega) [oLt, oLe, oLtN, oLeN, nLt, nLe, nLtN, nLeN, hic, hb, hbi, effIdxS, hbc, f68, hs0, basH]
                  refine hE _ _ _ .refl ?_
                  simp (disch := omega) [oLt, oLe, oLtN, oLeN, nLt, nLe, nLtN, nLeN]
                  exact ret0 4 hinv _ _ (.fz [4, 5] _ (.inl rfl) (by simp; rfl) (by simp) (by simp))
                | cons y o =>
                  delta p20_l0 p20_r8 p20_r9 p20_r10 p20_r11 p20_r12 p20_r13 p20_r14 p20_r15 p20_r16 p20_r17 p20_r18 p20_r19 p20_r20 p20_r21 p20_r22 p20_r23
                  simp (disch := omega) [oLt, oLe, oLtN, oLeN, nLt, nLe, nLtN, nLeN, hic, hb, hbi, effIdxS, hbc, f68, hs0, basH]
                  refine hE _ _ _ .refl ?_
                  simp (disch := omega) [oLt, oLe, oLtN, oLeN, nLt, nLe, nLtN, nLeN]
                  exact ret0 4 hinv _ _ (.fz [4, 5] _ (.inl rfl) (by simp; rfl) (by simp) (by simp))
              · rw [if_neg hne, hD, hcc] at hinv
                have hsst : small st = true := by simp [small]; omega
                have h68 : f68 [.ptr 0 0] [(0, .cells [.ref 1 0 st.length 1 none]), (1, .cells (ints st))] 2 = some (.tup [vI c, vB true], [(0, .cells [.ref 1 0 st.length 1 none]), (1, .cells (ints st))], 2) := by
                  have hcc' : st.getLast?.getD 0 = c := by simpa using hcc
                  simp [f68, hsst, basH, hcc', hne]
                have fin := fun v => fin D (out ++ [c]) left v (by simp; omega) hinv
                simp only [mk20, if_true] at fin ⊢
                cases out with
                | nil =>
                  simp only [List.nil_append, outA_cons, outH_cons, outK_cons] at fin
                  delta p20_l0 p20_r8 p20_r9 p20_r10 p20_r11 p20_r12 p20_r13 p20_r14 p20_r15 p20_r16 p20_r17 p20_r18 p20_r19 p20_r20 p20_r21 p20_r22 p20_r23
                  simp (disch := omega) [oLt, oLe, oLtN, oLeN, nLt, nLe, nLtN, nLeN, hic, hb, hbi, effIdxS, hbc, h68, h4, basH]
                  exact fin v _ (.toS (fun s => [ida s 7, via s.heap (ida s 7), ida s 8]) (by simp))
                | cons y o =>
                  have hol : o.length ≤ 7 := by simp at hlen; omega
                  simp only [List.cons_append, outA_cons, outH_cons, outK_cons] at fin
                  delta p20_l0 p20_r8 p20_r9 p20_r10 p20_r11 p20_r12 p20_r13 p20_r14 p20_r15 p20_r16 p20_r17 p20_r18 p20_r19 p20_r20 p20_r21 p20_r22 p20_r23
                  simp (disch := omega) [oLt, oLe, oLtN, oLeN, nLt, nLe, nLtN, nLeN, hic, hb, hbi, effIdxS, hbc, h68, h4, basH]
                  exact fin v _ (.toS (fun s => [ida s 7, via s.heap (ida s 7), ida s 8]) (by simp))
          · rw [if_neg hb2] at hinv
            have hbn2 := byte_n (k := 111) (by omega) hb2
            simp only [Int.cast_ofNat_Int] at hbn2
            cases p with
            | false =>
              simp only [mk20, Bool.false_eq_true, if_false]
              delta p20_l0 p20_r8 p20_r9 p20_r10 p20_r11 p20_r12 p20_r13 p20_r14 p20_r15 p20_r16 p20_r17 p20_r18 p20_r19 p20_r20 p20_r21 p20_r22 p20_r23
              simp (disch := omega) [oLt, oLe, oLtN, oLeN, nLt, nLe, nLtN, nLeN, hic, hb, hbi, effIdxS, hbn, hbn2]
              refine hE _ _ _ .refl ?_
              simp (disch := omega) [oLt, oLe, oLtN, oLeN, nLt, nLe, nLtN, nLeN]
              exact ret0 10 hinv _ _ (.fz [4, 5] _ (.inl rfl) (by simp; rfl) (by simp) (by simp))
            | true =>
              simp only [mk20, if_true]
              cases out with
              | nil =>
                delta p20_l0 p20_r8 p20_r9 p20_r10 p20_r11 p20_r12 p20_r13 p20_r14 p20_r15 p20_r16 p20_r17 p20_r18 p20_r19 p20_r20 p20_r21 p20_r22 p20_r23
                simp (disch := omega) [oLt, oLe, oLtN, oLeN, nLt, nLe, nLtN, nLeN, hic, hb, hbi, effIdxS, hbn, hbn2]
                refine hE _ _ _ .refl ?_
                simp (disch := omega) [oLt, oLe, oLtN, oLeN, nLt, nLe, nLtN, nLeN]
                exact ret0 10 hinv _ _ (.fz [4, 5] _ (.inl rfl) (by simp; rfl) (by simp) (by simp))
              | cons y o =>
                delta p20_l0 p20_r8 p20_r9 p20_r10 p20_r11 p20_r12 p20_r13 p20_r14 p20_r15 p20_r16 p20_r17 p20_r18 p20_r19 p20_r20 p20_r21 p20_r22 p20_r23
                simp (disch := omega) [oLt, oLe, oLtN, oLeN, nLt, nLe, nLtN, nLeN, hic, hb, hbi, effIdxS, hbn, hbn2]
                refine hE _ _ _ .refl ?_
                simp (disch := omega) [oLt, oLe, oLtN, oLeN, nLt, nLe, nLtN, nLeN]
                exact ret0 10 hinv _ _ (.fz [4, 5] _ (.inl rfl) (by simp; rfl) (by simp) (by simp))
      · obtain rfl : i = s.size := by omega
        have hic : ¬ (s.size : Int) < s.size := by omega
        rw [Nat.sub_self] at hinv
        simp only [rnR] at hinv
        clear hN
        cases p with
        | false =>
          obtain ⟨rfl, rfl⟩ := hp rfl
          rw [if_pos (by simpa using hl0)] at hinv
          have hlc : (0 : Int) < l.length := by omega
          simp only [mk20, Bool.false_eq_true, if_false]
          delta p20_l0 p20_r8 p20_r9 p20_r10 p20_r11 p20_r12 p20_r13 p20_r14 p20_r15 p20_r16 p20_r17 p20_r18 p20_r19 p20_r20 p20_r21 p20_r22 p20_r23
          simp (disch := omega) [oLt, oLe, oLtN, oLeN, nLt, nLe, nLtN, nLeN, hic]
          refine hE _ _ _ .refl ?_
          delta p20_r24 p20_r25 p20_r26
          simp (disch := omega) [oLt, oLe, oLtN, oLeN, nLt, nLe, nLtN, nLeN, hlc]
          exact ret0 21 hinv _ _ (.fz [4, 5] _ (.inl rfl) (by simp; rfl) (by simp) (by simp))
        | true =>
          simp only [mk20, if_true]
          cases out with
          | nil =>
            rw [if_pos (by simpa using hl0)] at hinv
            have hlc : (0 : Int) < l.length := by omega
            delta p20_l0 p20_r8 p20_r9 p20_r10 p20_r11 p20_r12 p20_r13 p20_r14 p20_r15 p20_r16 p20_r17 p20_r18 p20_r19 p20_r20 p20_r21 p20_r22 p20_r23
            simp (disch := omega) [oLt, oLe, oLtN, oLeN, nLt, nLe, nLtN, nLeN, hic]
            refine hE _ _ _ .refl ?_
            delta p20_r24 p20_r25 p20_r26
            simp (disch := omega) [oLt, oLe, oLtN, oLeN, nLt, nLe, nLtN, nLeN, hlc]
            exact ret0 21 hinv _ _ (.fz [4, 5] _ (.inl rfl) (by simp; rfl) (by simp) (by simp))
          | cons y o =>
            by_cases hol : (y :: o).length < l.length
            · rw [if_pos hol] at hinv
              have hlc : (o.length : Int) + 1 < l.length := by simp at hol; omega
              delta p20_l0 p20_r8 p20_r9 p20_r10 p20_r11 p20_r12 p20_r13 p20_r14 p20_r15 p20_r16 p20_r17 p20_r18 p20_r19 p20_r20 p20_r21 p20_r22 p20_r23
              simp (disch := omega) [oLt, oLe, oLtN, oLeN, nLt, nLe, nLtN, nLeN, hic]
              refine hE _ _ _ .refl ?_
              delta p20_r24 p20_r25 p20_r26
              simp (disch := omega) [oLt, oLe, oLtN, oLeN, nLt, nLe, nLtN, nLeN, hlc]
              exact ret0 21 hinv _ _ (.fz [4, 5] _ (.inl rfl) (by simp; rfl) (by simp) (by simp))
            · rw [if_neg hol] at hinv
              have hlc : ¬ (o.length : Int) + 1 < l.length := by simp at hol; omega
              rw [← hinv] at hQ
              have htk : (ints (y :: o)).take (o.length + 1) = ints (y :: o) := List.take_of_length_le (by simp)
              delta p20_l0 p20_r8 p20_r9 p20_r10 p20_r11 p20_r12 p20_r13 p20_r14 p20_r15 p20_r16 p20_r17 p20_r18 p20_r19 p20_r20 p20_r21 p20_r22 p20_r23
              simp (disch := omega) [oLt, oLe, oLtN, oLeN, nLt, nLe, nLtN, nLeN, hic]
              refine hE _ _ _ .refl ?_
              delta p20_r24 p20_r25 p20_r26
              simp (disch := omega) [oLt, oLe, oLtN, oLeN, nLt, nLe, nLtN, nLeN, hlc]
              exact hQ _ _ (.fz [4, 5] _ (.inl rfl) (by simp; rfl) (by simp [rnA]) (by simp [rnA]))
    | _ => intro r h' k' hh; cases hh
  | _ => intro r h' k' hh; cases hh
end
section
def idxR (x : Int) : List Int → Int → Int
  | [], _ => -1
  | y :: r, i => if y = x then i else idxR x r (i + 1)
def idxL (l : List Int) (x : Int) : Int := idxR x l 0
set_option maxHeartbeats 2000000
end
section
set_option maxHeartbeats 2000000
def mxR : Int → List Int → Int
  | m, [] => m
  | m, y :: r => mxR (if m < y then y else m) r
def mxL : List Int → Int
  | [] => 0
  | x :: r => mxR x r
end
end Go.Sx.Lk
