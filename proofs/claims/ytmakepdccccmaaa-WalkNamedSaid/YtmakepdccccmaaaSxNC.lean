/- What functions of the library return: slices.Delete of one number. No conditions. -/
import Derived.Test.YtmakepdccccmaaaSxJS29toR5
import Derived.Test.YtmakepdccccmaaaSxJPd12toPd72
set_option linter.unusedVariables false
set_option linter.unusedSimpArgs false
namespace Go.Sx.Wk
open Go Go.Sx Go.Proofs

/-- One number taken out; the list is written over. -/
def f50 : List AV → HL → Nat → Option (AV × HL × Nat) := fun args h k => match args, h, k with
  | [.ref 0 0 n 1 none, .v (.int .i64 i), .v (.int .i64 j)], [(0, .cells cs)], 1 => match unints cs with
    | some l => if n = l.length ∧ small l = true ∧ 0 ≤ i ∧ i.toNat < l.length ∧ j = i + 1 then some (.ref 0 0 (n - 1) 1 none, [(0, .cells (ints (l.eraseIdx i.toNat ++ [0])))], 1) else none
    | none => none
  | _, _, _ => none
def s50 : Sp := ⟨50, f50⟩
@[simp] theorem s50_g : s50.g = 50 := rfl
@[simp] theorem s50_f : s50.f = f50 := rfl
set_option maxHeartbeats 2000000 in
theorem s50_ok : s50.ok Try.prog := by
  intro args h k r h' k' hh
  simp only [s50_f, f50] at hh
  split at hh
  · split at hh
    · rename_i l hl
      split at hh
      · rename_i hc
        obtain ⟨rfl, hsl, h0, hi, rfl⟩ := hc
        cases hh
        rw [unints_inv hl]
        rename_i i _ _ _
        obtain ⟨i, rfl⟩ := Int.eq_ofNat_of_zero_le h0
        simp only [Int.toNat_natCast] at hi ⊢
        have hll : l.length ≤ 1000000 := by simpa [small] using hsl
        obtain ⟨A, x, B, rfl, rfl⟩ : ∃ A x B, l = A ++ x :: B ∧ i = A.length := ⟨l.take i, l[i], l.drop (i + 1), by rw [← List.drop_eq_getElem_cons hi, List.take_append_drop], by rw [List.length_take]; omega⟩
        have he : (A ++ x :: B).eraseIdx A.length = A ++ B := by
          rw [List.eraseIdx_append_of_length_le (Nat.le_refl _), Nat.sub_self]; rfl
        have hne : ¬ (A.length : Int) = A.length + 1 := by omega
        have hlen : (A ++ x :: B).length = A.length + (B.length + 1) := by simp
        rw [he, hlen, show A.length + (B.length + 1) - 1 = A.length + B.length by omega]
        rw [hlen] at hll
        clear hl hsl he hi h0
        have hne2 : A ++ x :: B ≠ [] := by simp
        simp only [hp_eq]
        rcases B with _ | ⟨y, B⟩
        · have hsp : splice (ints A ++ [vI x]) A.length [vI 0] = ints A ++ [vI 0] := by
            rw [splice_one _ _ _ (by simp)]
            rw [List.set_append_right _ _ (by simp)]
            simp
          refine P50.rz (ss := []) trivial (by simp) fun Q hQ => ?_
          delta p50 p50_r0 p50_r1 p50_r2 p50_r3 p50_r4 p50_r5 p50_r6 p50_r7
          simp only [ints_app, ints_cons, ints_nil, List.length_nil, Nat.zero_add, Nat.add_zero]
          simp (disch := omega) [oLt, oLe, oLtN, oLeN, nLt, nLe, nLtN, nLeN, hne, hsp, effClear]
          exact hQ _ _ (EndsP_at [0] (.inl rfl) (by simp) rfl (by simp) rfl (by simp))
        · obtain ⟨z, hz⟩ : ∃ z, (x :: y :: B).drop (B.length + 1) = [z] := by
            have : ((x :: y :: B).drop (B.length + 1)).length = 1 := by simp
            exact List.length_eq_one_iff.1 this
          have hz' : (vI x :: vI y :: ints B).drop (B.length + 1) = [vI z] := by
            have := congrArg ints hz
            simpa [ints, List.map_drop] using this
          have hd : List.drop (A.length + 1) (ints A ++ vI x :: vI y :: ints B) = vI y :: ints B := by
            rw [← List.drop_drop, List.drop_left' (by simp)]; rfl
          have hsp : splice (ints A ++ vI x :: vI y :: ints B) A.length (vI y :: ints B) = ints A ++ vI y :: (ints B ++ [vI z]) := by
            unfold splice
            rw [List.take_left' (by simp), ← List.drop_drop, List.drop_left' (by simp), show (vI y :: ints B).length = B.length + 1 by simp, hz']
            simp
          have hsp2 : splice (ints A ++ vI y :: (ints B ++ [vI z])) (A.length + (B.length + 1)) [vI 0] = ints A ++ vI y :: (ints B ++ [vI 0]) := by
            rw [splice_one _ _ _ (by simp)]
            rw [List.set_append_right _ _ (by simp)]
            simp [List.set_append_right]
          have hn1 : A.length + (B.length + 1 + 1) - (A.length + 1) = B.length + 1 := by omega
          have hn2 : A.length + (B.length + 1 + 1) - (A.length + (B.length + 1)) = 1 := by omega
          refine P50.rz (ss := []) trivial (by simp) fun Q hQ => ?_
          delta p50 p50_r0 p50_r1 p50_r2 p50_r3 p50_r4 p50_r5 p50_r6 p50_r7
          simp only [ints_app, ints_cons, List.length_cons]
          have ht1 : ((A.length : Int) + (B.length + 1)).toNat = A.length + (B.length + 1) := by omega
          have ht2 : ((A.length : Int) + (B.length + 1 + 1)).toNat = A.length + (B.length + 1 + 1) := by omega
          simp (disch := omega) [oLt, oLe, oLtN, oLeN, nLt, nLe, nLtN, nLeN, hne, hd, hsp, hsp2, hn1, hn2, ht1, ht2, effClear]
          exact hQ _ _ (EndsP_at [0] (.inl rfl) (by simp) rfl (by simp) rfl (by simp))
      · cases hh
    · cases hh
  · cases hh
end Go.Sx.Wk
