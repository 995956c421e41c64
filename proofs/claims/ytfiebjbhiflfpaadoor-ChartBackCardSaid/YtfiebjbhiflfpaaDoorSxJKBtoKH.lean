/- What functions of the library and of the chart layer's own statements return: slices.Min, smallest. No conditions. -/
import Derived.Test.YtfiebjbhiflfpaaDoorSxJJYktoJI
import Derived.Test.YtfiebjbhiflfpaaDoorSxJQ
import Derived.Test.YtfiebjbhiflfpaaDoorSxJCDtoHM0
import Derived.Test.YtfiebjbhiflfpaaDoorSxPCi
import Derived.Test.YtfiebjbhiflfpaaDoorSxJSttoSd
import Derived.Test.YtfiebjbhiflfpaaDoorSxJKAtoDV0
import Derived.Test.YtfiebjbhiflfpaaDoorSxJJAtoKI
import Derived.Test.YtfiebjbhiflfpaaDoorSxJHHtoHJ0
set_option linter.unusedVariables false
set_option linter.unusedSimpArgs false
set_option maxRecDepth 4000
namespace Go.Sx.Ch
open Go Go.Sx Go.Proofs
section
theorem bst_get (l : List Int) {i : Nat} (hi : i < l.length) : l.getD (bstN l (i + 1)) 0 = if l[i] < l.getD (bstN l i) 0 then l[i] else l.getD (bstN l i) 0 := by
  have e : l.getD i 0 = l[i] := by rw [List.getD_eq_getElem?_getD, List.getElem?_eq_getElem hi]; rfl
  rw [bstN_succ]; unfold bstI
  rw [e]
  split
  · exact e
  · rfl
theorem hd_bst {l : List Int} (h0 : 0 < l.length) : hd l = l.getD (bstN l l.length) 0 := by
  unfold hd
  have hb' : bstN l l.length < l.length := by
    obtain ⟨m, hm⟩ : ∃ m, l.length = m + 1 := ⟨l.length - 1, by omega⟩
    have := bstN_lt l m
    rw [hm]; omega
  rw [List.getD_eq_getElem?_getD, leastF_get h0, Nat.add_zero, Nat.mod_eq_of_lt hb', List.getD_eq_getElem?_getD]
theorem bst_first (l : List Int) : ∀ n, n ≤ l.length → ∀ j, j < bstN l n → l.getD (bstN l n) 0 < l.getD j 0
  | 0, _, j, hj => by simp [bstN] at hj
  | n + 1, h, j, hj => by
    rw [bstN_succ] at hj ⊢
    unfold bstI at hj ⊢
    by_cases c : l.getD n 0 < l.getD (bstN l n) 0
    · rw [if_pos c] at hj ⊢
      have := bstN_min l n j hj
      omega
    · rw [if_neg c] at hj ⊢
      exact bst_first l n (by omega) j hj
theorem idxR_first {x : Int} : ∀ {l : List Int} {i : Int} {k : Nat}, (∀ j, j < k → l.getD j 0 ≠ x) → k < l.length → l.getD k 0 = x → idxR x l i = i + (k : Int)
  | [], i, k, _, h, _ => by simp at h
  | y :: l, i, 0, _, _, h => by
    have : y = x := by simpa using h
    simp [idxR, this]
  | y :: l, i, k + 1, h1, h2, h3 => by
    have hy : ¬ y = x := by simpa using h1 0 (by omega)
    simp only [idxR]
    rw [if_neg hy]
    have := idxR_first (l := l) (i := i + 1) (k := k) (fun j hj => by simpa using h1 (j + 1) (by omega)) (by simpa using h2) (by simpa using h3)
    rw [this]; omega
def mnN (l : List Int) (n : Nat) : Int := l.getD (bstN l n) 0
theorem mnN_1 {l : List Int} (h : 0 < l.length) : mnN l 1 = l[0] := by
  have hb1 : bstN l 1 = 0 := by simp [bstN, bstI, List.range_succ]
  unfold mnN
  rw [hb1, List.getD_eq_getElem?_getD, List.getElem?_eq_getElem h]; rfl
theorem mnN_succ {l : List Int} {i : Nat} (hi : i < l.length) : mnN l (i + 1) = if l[i] < mnN l i then l[i] else mnN l i := bst_get l hi
theorem idx_hd {l : List Int} (h0 : 0 < l.length) : idxL l (hd l) = bstN l l.length ∧ bstN l l.length < l.length := by
  have hb' : bstN l l.length < l.length := by
    obtain ⟨m, hm⟩ : ∃ m, l.length = m + 1 := ⟨l.length - 1, by omega⟩
    have := bstN_lt l m
    rw [hm]; omega
  refine ⟨?_, hb'⟩
  rw [hd_bst h0]
  unfold idxL
  rw [idxR_first (k := bstN l l.length) (fun j hj => by have := bst_first l _ (Nat.le_refl _) j hj; omega) hb' rfl]
  simp
theorem min_eff (a b : Int) : effBig false [vI a, vI b] = ret (vI (if b < a then b else a)) := by
  by_cases h : b < a <;> simp [effBig, h]
set_option maxHeartbeats 2000000
def s93 : Sp := spT 93 [.l] fun (l : List Int) => res (small l && decide (¬ l.length = 0)) (vI (hd l))
@[simp] theorem s93_g : s93.g = 93 := rfl
@[simp] theorem s93_f : s93.f = (spT 93 [.l] fun (l : List Int) => res (small l && decide (¬ l.length = 0)) (vI (hd l))).f := rfl
theorem s93_ok : s93.ok Tryd.prog := by
  apply spT_ok
  simp only [OkT, Ty.all, List.nil_append, List.cons_append]
  intro (l : List Int) u
  apply okT_res; intro hg
  refine P93.rz (ss := []) trivial (by simp) fun Q hQ => ?_
  delta p93 p93_r0 p93_r1 p93_r2 p93_r3 p93_r4
  simp only [small, Bool.and_eq_true, decide_eq_true_eq] at hg
  obtain ⟨hsm, h0⟩ := hg
  have hc1 : ¬ (l.length : Int) < 1 := by omega
  have hc0 : 0 < l.length := by omega
  have hc2 : (0 : Int) < l.length := by omega
  have hm : hd l = mnN l l.length := hd_bst hc0
  rw [hm] at hQ
  have hg1 := mnN_1 hc0
  have hg2 : l[0]? = some l[0] := List.getElem?_eq_getElem hc0
  simp (disch := omega) [oLt, oLe, oLtN, oLeN, nLt, nLe, nLtN, nLeN, hc1, hc0, hc2, hg2]
  refine XZ_for (fun i : Nat => ⟨[(0, .il (ints l) l.length u), (3, vI (mnN l (i + 1))), (4, vI ((i + 1 : Nat) : Int))], [], 0⟩) (fun i => l.length - i) (fun i => i + 1 ≤ l.length) 0 (by omega) (.to [] (by simp [hg1])) ?_
  intro i hi N Q' hN hE
  rcases Nat.lt_or_ge (i + 1) l.length with h | h
  · have hic : (i : Int) + 1 < l.length := by omega
    have hx : l[i + 1]? = some l[i + 1] := List.getElem?_eq_getElem h
    have hb := mnN_succ h
    have fin := fun s' hh => hN s' (i + 1) (by omega) h hh
    simp only [hb] at fin
    have hme := min_eff (mnN l (i + 1)) l[i + 1]
    clear hN hE hb
    obtain ⟨x, hx'⟩ : ∃ x, l[i + 1] = x := ⟨_, rfl⟩
    rw [hx'] at hx hme
    simp only [hx'] at fin
    generalize mnN l (i + 1) = m at *
    delta p93_l0 p93_r5 p93_r6 p93_r7
    simp (disch := omega) [oLt, oLe, oLtN, oLeN, nLt, nLe, nLtN, nLeN, hic, h, hx, hx', hme]
    exact fin _ (.tot [] (by simp))
  · have e : i + 1 = l.length := by omega
    have hic : ¬ (i : Int) + 1 < l.length := by omega
    rw [e]
    delta p93_l0 p93_r5 p93_r6 p93_r7
    simp (disch := omega) [oLt, oLe, oLtN, oLeN, nLt, nLe, nLtN, nLeN, hic]
    refine hE _ _ _ .refl ?_
    delta p93_r8
    simp (disch := omega) [oLt, oLe, oLtN, oLeN, nLt, nLe, nLtN, nLeN]
    exact hQ _ _ (.p (.inl rfl) (by simp) rfl)
def s61 : Sp := spT 61 [.l] fun (l : List Int) => res (small l && decide (¬ l.length = 0)) (.il (ints (leastF l)) l.length false)
@[simp] theorem s61_g : s61.g = 61 := rfl
@[simp] theorem s61_f : s61.f = (spT 61 [.l] fun (l : List Int) => res (small l && decide (¬ l.length = 0)) (.il (ints (leastF l)) l.length false)).f := rfl
theorem s61_ok : s61.ok Tryd.prog := by
  apply spT_ok
  simp only [OkT, Ty.all, List.nil_append, List.cons_append]
  intro (l : List Int) u
  apply okT_res; intro hg
  refine P61.rz (ss := [s50, s91, s93]) ⟨s50_ok, s91_ok, s93_ok, trivial⟩ (by simp) fun Q hQ => ?_
  delta p61
  have hg0 := hg
  simp only [small, Bool.and_eq_true, decide_eq_true_eq] at hg
  obtain ⟨hsm, h0⟩ := hg
  have hs : small l = true := by simpa [small] using hsm
  obtain ⟨i1, i2⟩ := idx_hd (l := l) (by omega)
  have hll : leastF l = l.drop (bstN l l.length) ++ l.take (bstN l l.length) := rfl
  rw [hll] at hQ
  generalize bstN l l.length = k at *
  have hkc : (k : Int) ≤ l.length := by omega
  have hln : ¬ l = [] := fun e => h0 (by rw [e]; rfl)
  have hd0 : l.drop k ≠ [] := fun e => by
    have := congrArg List.length e
    simp at this; omega
  have hsd : small (l.drop k) = true := by simp only [small, decide_eq_true_eq, List.length_drop]; omega
  have hf50 : ∀ u, f50 [.il (ints (l.drop k)) (l.length - k) u] [] 0 = some (.ref 0 0 (l.length - k) 1 none, [(0, .cells (ints (l.drop k)))], 1) := fun u => by
    have := f50_at (u := u) hd0 hsd
    rw [List.length_drop] at this
    exact this
  have hdl : (l.drop k).length = l.length - k := by simp
  have htl : (l.take k).length = k := by simp; omega
  have hmin : min k l.length = k := by omega
  have hdt : (l.drop k).take (l.length - k) = l.drop k := List.take_of_length_le (by simp)
  have hkl : k ≤ l.length := by omega
  refine XZ_step ?_ (fun N Q_ hN => ?_) ?_
  rotate_left
  · delta p61_r0; simp (disch := omega) [oLt, oLe, oLtN, oLeN, nLt, nLe, nLtN, nLeN]
    exact hN
  refine XZ_step ?_ (fun N Q_ hN => ?_) ?_
  rotate_left
  · delta p61_r1; simp (disch := omega) [oLt, oLe, oLtN, oLeN, nLt, nLe, nLtN, nLeN, hg0, hs, i1, hln, h0]
    exact hN
  by_cases hk0 : k = 0
  · subst hk0
    simp only [List.drop_zero, Nat.sub_zero] at hf50
    refine XZ_step ?_ (fun N Q_ hN => ?_) ?_
    rotate_left
    · refine XZ_drawG ?_
      delta p61_r2
      refine zD_cut 3 ?_ ?_ (fun K_ hK => ?_) ?_
      rotate_left 2
      · simp only [List.take_succ_cons, List.take_zero]
        simp (disch := omega) [oLt, oLe, oLtN, oLeN, nLt, nLe, nLtN, nLeN, hkc, hdt, i2, hkl]
        exact hK
      simp only [List.drop_succ_cons, List.drop_zero]
      refine zD_cut 1 ?_ ?_ (fun K_ hK => ?_) ?_
      rotate_left 2
      · simp only [List.take_succ_cons, List.take_zero]
        simp (disch := omega) [oLt, oLe, oLtN, oLeN, nLt, nLe, nLtN, nLeN, hf50]
        exact hK
      simp only [List.drop_succ_cons, List.drop_zero]
      refine zD_cut 4 ?_ ?_ (fun K_ hK => ?_) ?_
      rotate_left 2
      · simp only [List.take_succ_cons, List.take_zero]
        simp (disch := omega) [oLt, oLe, oLtN, oLeN, nLt, nLe, nLtN, nLeN, h0]
        exact hK
      simp only [List.drop_succ_cons, List.drop_zero]
      refine zD_cut 1 ?_ ?_ (fun K_ hK => ?_) ?_
      rotate_left 2
      · simp only [List.take_succ_cons, List.take_zero]
        simp (disch := omega) [oLt, oLe, oLtN, oLeN, nLt, nLe, nLtN, nLeN]
        exact hK
      simp only [List.drop_succ_cons, List.drop_zero]
      refine goD_ok (by decide) ?_
      simp (disch := omega) [oLt, oLe, oLtN, oLeN, nLt, nLe, nLtN, nLeN]
      exact hN
    have htk1 : (ints l).take l.length = ints l := List.take_of_length_le (by simp)
    simp (disch := omega) [oLt, oLe, oLtN, oLeN, nLt, nLe, nLtN, nLeN]
    exact hQ _ _ (.fz [2] _ (.inl rfl) (by simp [htk1]; rfl) (by simp) (by simp))
  · skip
    refine XZ_step ?_ (fun N Q_ hN => ?_) ?_
    rotate_left
    · refine XZ_drawG ?_
      delta p61_r2
      refine zD_cut 3 ?_ ?_ (fun K_ hK => ?_) ?_
      rotate_left 2
      · simp only [List.take_succ_cons, List.take_zero]
        simp (disch := omega) [oLt, oLe, oLtN, oLeN, nLt, nLe, nLtN, nLeN, hkc, hdt, i2, hkl]
        exact hK
      simp only [List.drop_succ_cons, List.drop_zero]
      refine zD_cut 1 ?_ ?_ (fun K_ hK => ?_) ?_
      rotate_left 2
      · simp only [List.take_succ_cons, List.take_zero]
        simp (disch := omega) [oLt, oLe, oLtN, oLeN, nLt, nLe, nLtN, nLeN, hf50]
        exact hK
      simp only [List.drop_succ_cons, List.drop_zero]
      refine zD_cut 4 ?_ ?_ (fun K_ hK => ?_) ?_
      rotate_left 2
      · simp only [List.take_succ_cons, List.take_zero]
        simp (disch := omega) [oLt, oLe, oLtN, oLeN, nLt, nLe, nLtN, nLeN, hk0, htl, hdl, hkl]
        exact hK
      simp only [List.drop_succ_cons, List.drop_zero]
      refine zD_cut 1 ?_ ?_ (fun K_ hK => ?_) ?_
      rotate_left 2
      · simp only [List.take_succ_cons, List.take_zero]
        simp (disch := omega) [oLt, oLe, oLtN, oLeN, nLt, nLe, nLtN, nLeN]
        exact hK
      simp only [List.drop_succ_cons, List.drop_zero]
      refine goD_ok (by decide) ?_
      simp (disch := omega) [oLt, oLe, oLtN, oLeN, nLt, nLe, nLtN, nLeN]
      exact hN
    have htk1 : l.length - k + k = l.length := by omega
    have htk2 : (ints (l.drop k) ++ ints (l.take k)).take l.length = ints (l.drop k) ++ ints (l.take k) := List.take_of_length_le (by simp; omega)
    simp (disch := omega) [oLt, oLe, oLtN, oLeN, nLt, nLe, nLtN, nLeN]
    exact hQ _ _ (.fz [2] _ (.inl rfl) (by simp [htk1, hmin, hdt, htk2]; rfl) (by simp) (by simp))
end
section
/-! ### Nothing is sorted -/
def f104n : List AV → HL → Nat → Option (AV × HL × Nat) := fun args h k => match args, h, k with
  | [.il [] 0 _, .v (.int .i64 0), .v (.int .i64 0), .fn (.func _) [] []], [], 0 => some (.tup [], [], 0)
  | _, _, _ => none
def s104n : Sp := ⟨104, f104n⟩
@[simp] theorem s104n_g : s104n.g = 104 := rfl
@[simp] theorem s104n_f : s104n.f = f104n := rfl
def f94n : List AV → HL → Nat → Option (AV × HL × Nat) := fun args h k => match args, h, k with
  | [.il [] 0 _, .v (.int .i64 0), .v (.int .i64 0), .v (.int .i64 0), .fn (.func _) [] []], [], 0 => some (.tup [], [], 0)
  | _, _, _ => none
def s94n : Sp := ⟨94, f94n⟩
@[simp] theorem s94n_g : s94n.g = 94 := rfl
@[simp] theorem s94n_f : s94n.f = f94n := rfl
def f62n : List AV → HL → Nat → Option (AV × HL × Nat) := fun args h k => match args, h, k with
  | [.il [] 0 _, .fn (.func _) [] []], [], 0 => some (.tup [], [], 0)
  | _, _, _ => none
def s62n : Sp := ⟨62, f62n⟩
@[simp] theorem s62n_g : s62n.g = 62 := rfl
@[simp] theorem s62n_f : s62n.f = f62n := rfl
set_option maxHeartbeats 4000000
theorem s104n_ok : s104n.ok Tryd.prog := by
  intro args h k r h' k' hh
  simp only [s104n_f, f104n] at hh
  split at hh
  · cases hh
    simp only [hp_eq]
    refine P104.rz (ss := []) trivial (by simp) fun Q hQ => ?_
    delta p104 p104_r0
    simp (disch := omega) [oLt, oLe, oLtN, oLeN, nLt, nLe, nLtN, nLeN]
    refine XZ_for (fun _ : Nat => ⟨[(8, vI (1 : Nat)), (2, vI (0 : Nat))], [], 0⟩) (fun _ => 0) (fun _ => True) 0 trivial (.to [] (by simp)) ?_
    intro k _ N Q' _ hE
    delta p104_l1 p104_r1 p104_r2
    simp (disch := omega) [oLt, oLe, oLtN, oLeN, nLt, nLe, nLtN, nLeN]
    refine hE _ _ _ .refl ?_
    skip
    simp (disch := omega) [oLt, oLe, oLtN, oLeN, nLt, nLe, nLtN, nLeN]
    exact hQ _ _ (.p (.inr rfl) (by simp) rfl)
  · cases hh
theorem s94n_ok : s94n.ok Tryd.prog := by
  intro args h k r h' k' hh
  simp only [s94n_f, f94n] at hh
  split at hh
  · rename_i u cf
    cases hh
    simp only [hp_eq]
    refine P94.rz (ss := [s104n]) ⟨s104n_ok, trivial⟩ (by simp) fun Q hQ => ?_
    delta p94
    refine XZ_step ?_ (fun N Q_ hN => ?_) ?_
    rotate_left
    · delta p94_r0; simp (disch := omega) [oLt, oLe, oLtN, oLeN, nLt, nLe, nLtN, nLeN]
      exact hN
    refine XZ_step ?_ (fun N Q_ hN => ?_) ?_
    rotate_left
    · delta p94_r1; simp (disch := omega) [oLt, oLe, oLtN, oLeN, nLt, nLe, nLtN, nLeN]
      exact hN
    refine XZ_block9 ?_
    refine XZ_for (fun _ : Nat => ⟨[(0, .il [] 0 u), (1, vI (0 : Nat)), (2, vI (0 : Nat)), (4, .fn (.func cf) [] [])], [], 0⟩) (fun _ => 0) (fun _ => True) 0 trivial (.to [] (by simp)) ?_
    intro k _ N Q' _ hE
    delta p94_l0
    refine XZ_block9 ?_
    refine XZ_step ?_ (fun N Q_ hN => ?_) ?_
    rotate_left
    · delta p94_r2; simp (disch := omega) [oLt, oLe, oLtN, oLeN, nLt, nLe, nLtN, nLeN]
      exact hN
    refine XZ_seqG (XZ_seqG ?_)
    delta p94_r3
    simp (disch := omega) [oLt, oLe, oLtN, oLeN, nLt, nLe, nLtN, nLeN]
    delta p94_r4
    simp (disch := omega) [oLt, oLe, oLtN, oLeN, nLt, nLe, nLtN, nLeN, f104n]
    exact hE _ _ _ .refl (hQ _ _ (.p (.inl rfl) (by simp) rfl))
  · cases hh
theorem s62n_ok : s62n.ok Tryd.prog := by
  intro args h k r h' k' hh
  simp only [s62n_f, f62n] at hh
  split at hh
  · cases hh
    simp only [hp_eq]
    refine P62.rz (ss := [s95, s94n]) ⟨s95_ok, s94n_ok, trivial⟩ (by simp) fun Q hQ => ?_
    delta p62
    refine XZ_step ?_ (fun N Q_ hN => ?_) ?_
    rotate_left
    · delta p62_r0; simp (disch := omega) [oLt, oLe, oLtN, oLeN, nLt, nLe, nLtN, nLeN]
      exact hN
    delta p62_r1
    have k95 : f95 [.v (.int .u64 0)] [] 0 = some (vI 0, [], 0) := by
      simp only [f95]; rw [if_pos ⟨by omega, by omega⟩]; rfl
    have hw : wrapF IntKind.u64 0 = 0 := rfl
    simp (disch := omega) [oLt, oLe, oLtN, oLeN, nLt, nLe, nLtN, nLeN, k95, hw, f94n]
    exact hQ _ _ (.p (.inr rfl) (by simp) rfl)
  · cases hh
/-! ### SortFunc, of nothing too -/
open Classical in
noncomputable def f62a : List AV → HL → Nat → Option (AV × HL × Nat) := fun args h k => match f62n args h k with
  | some x => some x
  | none => f62 args h k
noncomputable def s62a : Sp := ⟨62, f62a⟩
@[simp] theorem s62a_g : s62a.g = 62 := rfl
@[simp] theorem s62a_f : s62a.f = f62a := rfl
theorem s62a_ok : s62a.ok Tryd.prog := by
  intro args h k r h' k' hh
  simp only [s62a_f, f62a] at hh
  split at hh
  · rename_i x hx
    cases hh
    exact s62n_ok args h k r h' k' hx
  · exact s62_ok args h k r h' k' hh
theorem f62a_nil (u : Bool) (cf : Nat) : f62a [.il [] 0 u, .fn (.func cf) [] []] [] 0 = some (.tup [], [], 0) := rfl
theorem f62a_fz {c : List AV} {n : Nat} {u : Bool} {x : AV} (h0 : n ≠ 0) : f62a [.il c n u, x] [] 0 = none := by
  have h1 : f62n [.il c n u, x] [] 0 = none := by
    unfold f62n
    split
    · rename_i h _ _; cases h; exact absurd rfl h0
    · rfl
  simp only [f62a, h1]; rfl
theorem f62a_at {n : Nat} {M : List (List Int)} {cf : Nat} (hcm : cmpN cf = true) (hn : n = M.length) (hg : gM M = true) (hd : Dst M) (h16 : n ≤ 16) :
    f62a [.ref 0 0 n 1 none, .fn (.func cf) [] []] [(0, .cells (lls M))] 1 = some (.tup [], [(0, .cells (lls (srtOn 0 n M)))], 1) := by
  have h1 : f62n [.ref 0 0 n 1 none, .fn (.func cf) [] []] [(0, .cells (lls M))] 1 = none := rfl
  simp only [f62a, h1, f62, unlls_lls]
  rw [if_pos ⟨hcm, hn, hg, hd, h16⟩]
end
section
set_option maxHeartbeats 4000000
def st57 (L : List (List Int)) (u : Bool) (i : Nat) (out : List (List Int)) : ST :=
  ⟨[(3, fA 0 out), (7, .il (lls L) L.length u), (8, vI L.length), (9, vI i)], fH 0 out, fN out⟩
theorem tdM_gM {L : List (List Int)} (h16 : L.length ≤ 64) (h0 : ∀ l ∈ L, l.length ≠ 0) (hin : ∀ l ∈ L, ∀ x ∈ l, 0 ≤ x ∧ x ≤ 100) : gM (tdM L) = true := by
  simp only [gM, Bool.and_eq_true, decide_eq_true_eq, List.all_eq_true]
  refine ⟨by rw [tdM_len]; exact h16, fun l hl => ?_⟩
  obtain ⟨l0, h1, rfl⟩ := List.mem_map.1 hl
  have hl0 := h0 l0 h1
  obtain ⟨-, d2, -⟩ := hd_facts (l := l0) (by omega)
  have := hin l0 h1 _ d2
  simp only [hdB, Bool.and_eq_true, decide_eq_true_eq, within_iff]
  refine ⟨by rw [leastF_len]; exact hl0, ?_⟩
  have e : (leastF l0).getD 0 0 = hd l0 := rfl
  rw [e]; omega
def s57 : Sp := spT 57 [.mp] fun (L : List (List Int)) => res (gdM L) (.il (lls (tidL L)) L.length false)
@[simp] theorem s57_g : s57.g = 57 := rfl
@[simp] theorem s57_f : s57.f = (spT 57 [.mp] fun (L : List (List Int)) => res (gdM L) (.il (lls (tidL L)) L.length false)).f := rfl
theorem s57_ok : s57.ok Tryd.prog := by
  apply spT_ok
  simp only [OkT, Ty.all, List.nil_append, List.cons_append]
  intro (L : List (List Int)) u
  apply okT_res; intro hg
  refine P57.rz (ss := [s61, s62a]) ⟨s61_ok, s62a_ok, trivial⟩ (by simp) fun Q hQ => ?_
  delta p57
  simp only [gdM, Bool.and_eq_true, decide_eq_true_eq] at hg
  obtain ⟨hsm, hc⟩ := hg
  have hcv := chk_cov hc
  have hne := chk_ne hc
  obtain ⟨h16, -, hev⟩ := chk_zero hc
  obtain ⟨-, -, -, hL16, -⟩ := tab_pts hc
  have hl16 : ∀ l ∈ L, l.length ≤ 16 := fun l hl => Nat.le_trans (total_mem hl) h16
  refine XZ_step ?_ (fun N Q_ hN => ?_) ?_
  rotate_left
  · delta p57_r0; simp (disch := omega) [oLt, oLe, oLtN, oLeN, nLt, nLe, nLtN, nLeN]
    exact hN
  refine XZ_step ?_ (fun N Q_ hN => ?_) ?_
  rotate_left
  · delta p57_r1; simp (disch := omega) [oLt, oLe, oLtN, oLeN, nLt, nLe, nLtN, nLeN]
    exact hN
  refine XZ_seqG (XZ_seqG ?_)
  delta p57_r2
  simp (disch := omega) [oLt, oLe, oLtN, oLeN, nLt, nLe, nLtN, nLeN]
  refine XZ_for (fun i : Nat => st57 L u i ((tdM L).take i)) (fun i => L.length - i) (fun i => i ≤ L.length) 0 (by simp) (.tot [] (by simp [st57, fA, fH, fN])) ?_
  intro i hi N Q' hN hE
  rcases Nat.lt_or_ge i L.length with h | h
  · have hic : (i : Int) < L.length := by omega
    obtain ⟨l, r, -, e2, e3, -, e5⟩ := drop_split h
    have hl0 := hne l e5
    have hln : ¬ l = [] := fun e => hl0 (by rw [e]; rfl)
    have hsl : small l = true := by simp only [small, decide_eq_true_eq]; have := hl16 l e5; omega
    have hlen := leastF_len l
    have hnext : (tdM L).take (i + 1) = (tdM L).take i ++ [leastF l] := by
      unfold tdM
      rw [List.take_succ_eq_append_getElem (by simpa using h), List.getElem_map, e3]
    have hal : ((tdM L).take i).length ≤ 16 := by simp; omega
    have fin : ∀ s', ChgT 0 s' (st57 L u (i + 1 : Nat) ((tdM L).take i ++ [leastF l])) → N s' := fun s' hh => hN s' (i + 1) (by omega) h (by rw [hnext]; exact hh)
    clear hN hnext hE
    generalize (tdM L).take i = out at *
    obtain ⟨l', hl'⟩ : ∃ l', leastF l = l' := ⟨_, rfl⟩
    rw [hl'] at hlen fin
    rcases out with _ | ⟨o, orr⟩
    · simp only [st57, fA, fH, fN, List.nil_append] at fin ⊢
      delta p57_l0 p57_r3 p57_r4 p57_r5 p57_r6
      simp (disch := omega) [oLt, oLe, oLtN, oLeN, nLt, nLe, nLtN, nLeN, hic, h, e2, e3, hsl, hln, hl0, hlen]
      exact fin _ (.tot [3] (by simp [eL, hlen, hl']))
    · simp only [List.length_cons] at hal
      simp only [st57, fA, fH, fN, List.cons_append] at fin ⊢
      delta p57_l0 p57_r3 p57_r4 p57_r5 p57_r6
      simp (disch := omega) [oLt, oLe, oLtN, oLeN, nLt, nLe, nLtN, nLeN, hic, h, e2, e3, hsl, hln, hl0, hlen]
      exact fin _ (.tot [3] (by simp [eL, hlen, hl']))
  · obtain rfl : i = L.length := by omega
    have hic : ¬ (L.length : Int) < L.length := by omega
    have htk : (tdM L).take L.length = tdM L := List.take_of_length_le (by rw [tdM_len]; exact Nat.le_refl _)
    rw [htk]
    have htd := tdW_eq hc
    have hgM := tdM_gM (L := L) (by omega) hne fun l hl x hx => by have := hcv.rng x (List.mem_flatten.2 ⟨l, hl, hx⟩); omega
    have hds := hcv.dst hne
    have hlM := tdM_len L
    have hlT : (tidL L).length = L.length := by rw [← htd]; unfold tdW; rw [(srtOn_ok hds (by omega)).1.len, hlM]
    unfold tdW at htd
    generalize tidL L = T at *
    generalize tdM L = M at *
    rcases M with _ | ⟨o, orr⟩
    · have hLe : L = [] := List.length_eq_zero_iff.1 (by simpa using hlM.symm)
      subst hLe
      have hT : T = [] := by simpa using hlT
      subst hT
      simp only [st57, fA, fH, fN]
      delta p57_l0 p57_r3 p57_r4 p57_r5 p57_r6
      simp (disch := omega) [oLt, oLe, oLtN, oLeN, nLt, nLe, nLtN, nLeN, hic]
      refine hE _ _ _ .refl ?_
      refine XZ_step ?_ (fun N Q_ hN => ?_) ?_
      rotate_left
      · delta p57_r7; simp (disch := omega) [oLt, oLe, oLtN, oLeN, nLt, nLe, nLtN, nLeN, f62a_nil]
        exact hN
      delta p57_r8
      simp (disch := omega) [oLt, oLe, oLtN, oLeN, nLt, nLe, nLtN, nLeN]
      exact hQ _ _ (.fz [2] _ (.inl rfl) (by simp; rfl) (by simp) (by simp))
    · skip
      have h62 := f62a_at (n := L.length) (cf := 92) rfl hlM.symm hgM hds (by omega)
      rw [htd] at h62
      have hn0 : ¬ L.length = 0 := by simp at hlM; omega
      simp only [List.length_cons] at hlM
      have hlM' : orr.length + 1 = L.length := hlM
      simp only [st57, fA, fH, fN, hlM']
      have hfz := fun (c : List AV) (u : Bool) (x : AV) => f62a_fz (c := c) (u := u) (x := x) hn0
      generalize L.length = n at *
      have hct : List.take n (AV.il (ints o) o.length false :: lls orr) = AV.il (ints o) o.length false :: lls orr := List.take_of_length_le (by simp [hlM'])
      have hlo : lls (o :: orr) = AV.il (ints o) o.length false :: lls orr := lls_cons _ _
      rw [hlo] at h62
      have hTt : (lls T).take n = lls T := List.take_of_length_le (by simp [hlT])
      delta p57_l0 p57_r3 p57_r4 p57_r5 p57_r6
      simp (disch := omega) [oLt, oLe, oLtN, oLeN, nLt, nLe, nLtN, nLeN, hic]
      refine hE _ _ _ .refl ?_
      refine XZ_step ?_ (fun N Q_ hN => ?_) ?_
      rotate_left
      · delta p57_r7; simp (disch := omega) [oLt, oLe, oLtN, oLeN, nLt, nLe, nLtN, nLeN, h62, hfz, hct]
        exact hN
      delta p57_r8
      simp (disch := omega) [oLt, oLe, oLtN, oLeN, nLt, nLe, nLtN, nLeN]
      exact hQ _ _ (.fz [2] _ (.inl rfl) (by simp [hTt, hlT]; rfl) (by simp) (by simp))
end
section
theorem lbI_0 {P : Nat} (h : P ≤ 16) : (labI 0).take P = List.replicate P 0 := by
  have : labI 0 = List.replicate 16 0 := by decide
  rw [this, List.take_replicate, Nat.min_eq_left h]
theorem lbI_get {P i p : Nat} (h : P ≤ 16) (hp : p < P) : ((labI i).take P)[p]? = some (if p < i then (p : Int) else 0) := by
  rw [List.getElem?_take, if_pos hp]
  simp [labI, show p < 16 by omega]
theorem lbI_succ {P i : Nat} (h : P ≤ 16) (hi : i < P) : ((labI i).take P).set i (i : Int) = (labI (i + 1)).take P := by
  have hl : ((labI i).take P).length = P := by simp [labI]; omega
  apply List.ext_getElem?
  intro p
  by_cases hp : p < P
  · rw [lbI_get h hp]
    by_cases e : i = p
    · subst e
      rw [List.getElem?_set_self (by omega), if_pos (by omega)]
    · rw [List.getElem?_set_ne e, lbI_get h hp]
      by_cases c : p < i
      · rw [if_pos c, if_pos (by omega)]
      · rw [if_neg c, if_neg (by omega)]
  · rw [List.getElem?_eq_none (by rw [List.length_set, hl]; omega), List.getElem?_eq_none (by simp; omega)]
def rlb (a b : Int) (x : Int) : Int := if x = a then b else x
theorem relab_take {P : Nat} {a b : Int} {l : List Int} (h : P ≤ l.length) : (relab P a b l).take P = (l.take P).map (rlb a b) := by
  unfold relab
  rw [List.take_left' (by simp; omega)]
  rfl
theorem rlb_id {a : Int} (l : List Int) : l.map (rlb a a) = l := by
  have : rlb a a = id := funext fun x => by unfold rlb; split <;> simp_all
  rw [this, List.map_id]
theorem labN_next {at' : Nat → Nat} {P k : Nat} (hl : (labN at' P k).1.length = 16) (h16 : P ≤ 16) :
    (labN at' P (k + 1)).1.take P = ((labN at' P k).1.take P).map (rlb ((labN at' P k).1.getD (at' (2 * k)) 0) ((labN at' P k).1.getD (at' (2 * k + 1)) 0)) ∧
    (labN at' P (k + 1)).2 = if (labN at' P k).1.getD (at' (2 * k)) 0 = (labN at' P k).1.getD (at' (2 * k + 1)) 0 then (labN at' P k).2 else (labN at' P k).2 - 1 := by
  rw [labN_succ]; unfold labS
  by_cases h : (labN at' P k).1.getD (at' (2 * k)) 0 = (labN at' P k).1.getD (at' (2 * k + 1)) 0
  · rw [if_pos h, if_pos h, ← h, rlb_id]; exact ⟨rfl, rfl⟩
  · rw [if_neg h, if_neg h]
    exact ⟨relab_take (by omega), rfl⟩
def en58 (A : List Int) (n P e : Nat) (m a b : Int) (i : Nat) : List (Nat × AV) :=
  [(4, .il (ints A) n false), (5, .ref 0 0 P 1 (some P)), (7, vI m), (8, vI e), (9, vI a), (10, vI b), (60, .ref 0 0 P 1 (some P)), (61, vI P), (62, vI i)]
set_option maxHeartbeats 4000000
theorem in58_ok {ss : List Sp} {A l : List Int} {n P e : Nat} {m a b : Int} {s0 : ST} {Q : Exit → ST → Prop} (hl : l.length = P) (hP : P ≤ 16)
    (hs0 : ChgT 0 s0 ⟨en58 A n P e m a b 0, [(0, .cells (ints l))], 1⟩) (hQ : Q (.exit 4) ⟨en58 A n P e m a b P, [(0, .cells (ints (l.map (rlb a b))))], 1⟩) : XZ (rZ (spc ss)) 0 (.loop p58_l1) s0 Q := by
  refine XZ_for (fun i : Nat => ⟨en58 A n P e m a b i, [(0, .cells (ints ((l.take i).map (rlb a b) ++ l.drop i)))], 1⟩) (fun i => P - i) (fun i => i ≤ P) 0 (Nat.zero_le _) (by simpa using hs0) ?_
  intro i hi N Q' hN hE
  have hXl : ((l.take i).map (rlb a b) ++ l.drop i).length = P := by simp; omega
  rcases Nat.lt_or_ge i P with h | h
  · have hic : (i : Int) < P := by omega
    have hil : i < l.length := by omega
    have hg : ((l.take i).map (rlb a b) ++ l.drop i)[i]? = some l[i] := by
      rw [List.getElem?_append_right (by simp; omega)]
      simp [show i ≤ l.length by omega, hil]
    have hnx : ((l.take i).map (rlb a b) ++ l.drop i).set i (rlb a b l[i]) = (l.take (i + 1)).map (rlb a b) ++ l.drop (i + 1) := by
      have e0 : i - ((l.take i).map (rlb a b)).length = 0 := by simp; omega
      rw [List.set_append_right _ _ (by simp; omega), List.drop_eq_getElem_cons hil, List.take_succ_eq_append_getElem hil, e0, List.set_cons_zero, List.map_append, List.append_assoc]
      rfl
    have fin : ∀ s', ChgT 0 s' ⟨en58 A n P e m a b (i + 1 : Nat), [(0, .cells (ints (((l.take i).map (rlb a b) ++ l.drop i).set i (rlb a b l[i]))))], 1⟩ → N s' := fun s' hh => hN s' (i + 1) (by omega) h (by rw [← hnx]; exact hh)
    clear hN hnx hE hs0
    generalize (l.take i).map (rlb a b) ++ l.drop i = X at *
    generalize l[i] = x at *
    have hg' := (List.getElem?_eq_some_iff.1 hg).2
    have hiX : i < X.length := by omega
    simp only [en58] at fin ⊢
    by_cases hxa : x = a
    · have hr : rlb a b x = b := by unfold rlb; rw [if_pos hxa]
      rw [hr] at fin
      have sx : splice (ints X) i [vI b] = ints (X.set i b) := by rw [splice_one _ _ _ (by simp; omega)]; simp [ints, List.map_set]
      subst hxa
      delta p58_l1 p58_r15 p58_r16 p58_r17 p58_r18 p58_r19
      simp (disch := omega) [oLt, oLe, oLtN, oLeN, nLt, nLe, nLtN, nLeN, hic, h, hg, hg', hXl, hiX]
      exact fin _ (.tot [5] (by simp [sx]))
    · have hr : rlb a b x = x := by unfold rlb; rw [if_neg hxa]
      have hset : X.set i x = X := by rw [← hg', List.set_getElem_self]
      rw [hr, hset] at fin
      delta p58_l1 p58_r15 p58_r16 p58_r17 p58_r18 p58_r19
      simp (disch := omega) [oLt, oLe, oLtN, oLeN, nLt, nLe, nLtN, nLeN, hic, h, hg, hg', hXl, hiX, hxa]
      exact fin _ (.tot [5] (by simp))
  · obtain rfl : i = P := by omega
    have hic : ¬ (i : Int) < i := by omega
    have e1 : (l.take i).map (rlb a b) ++ l.drop i = l.map (rlb a b) := by
      rw [List.take_of_length_le (by omega), List.drop_of_length_le (by omega), List.append_nil]
    rw [e1]
    simp only [en58]
    delta p58_l1 p58_r15 p58_r16 p58_r17 p58_r18 p58_r19
    simp (disch := omega) [oLt, oLe, oLtN, oLeN, nLt, nLe, nLtN, nLeN, hic]
    exact hE _ _ _ (.tot [5] (by simp [en58])) hQ
end
section
def mts (S : List Int) : List (Value × AV) := S.map fun x => (.int .i64 x, vB true)
@[simp] theorem mts_len (S : List Int) : (mts S).length = S.length := by simp [mts]
@[simp] theorem mts_ids (S : List Int) : (mts S).flatMap (fun p => ids p.2) = [] := by
  induction S with
  | nil => rfl
  | cons a S ih => simp only [mts, List.map_cons, List.flatMap_cons] at *; simp [ids, ih]
@[simp] theorem mts_ren (g : Nat → Nat) (S : List Int) : (mts S).map (fun p => (p.1, ren g p.2)) = mts S := by simp [mts]
@[simp] theorem mts_in (q : Nat → Bool) (S : List Int) : Go.Sx.inM q (mts S) = true := by
  induction S with
  | nil => rfl
  | cons a S ih => simp only [mts, List.map_cons, Go.Sx.inM] at *; simp [Go.Sx.inA, ih]
@[simp] theorem mts_fr (id : Nat) (cs : List AV) (S : List Int) : (mts S).map (fun p => (p.1, frA id cs p.2)) = mts S := by simp [mts]
theorem mts_keys (S : List Int) : keysOk (.sc (.int .i64)) (mts S) = true := by
  induction S with
  | nil => rfl
  | cons a S ih => simp only [mts, List.map_cons, keysOk] at *; simp [KTy.ok, ih]
theorem mts_out {x : Int} : ∀ {S : List Int} {i : Nat}, x ∉ S → findK (.int .i64 x) (mts S) i = none
  | [], _, _ => rfl
  | a :: S, i, h => by
    have h1 : ¬ x = a := fun e => h (by simp [e])
    have h2 : x ∉ S := fun e => h (by simp [e])
    have ih := mts_out (S := S) (i := i + 1) h2
    simp only [mts, List.map_cons, findK] at *
    simp [kEq, h1, ih]
theorem mts_mem {x : Int} : ∀ {S : List Int} {i : Nat}, x ∈ S → ∃ j, findK (.int .i64 x) (mts S) i = some (j, vB true)
  | [], _, h => by cases h
  | a :: S, i, h => by
    by_cases e : x = a
    · exact ⟨i, by simp [mts, findK, kEq, e]⟩
    · obtain ⟨j, hj⟩ := mts_mem (S := S) (i := i + 1) (by simpa [e] using h)
      refine ⟨j, ?_⟩
      simp only [mts, List.map_cons, findK] at *
      simp [kEq, e, hj]
theorem mts_put {x : Int} {S : List Int} (h : x ∉ S) : putK (.int .i64 x) (vB true) (mts S) = mts (S ++ [x]) := by
  unfold putK
  rw [mts_out h]
  simp [mts]
theorem look_i (id : Nat) (x : Int) : effLook (.sc (.int .i64)) (.bool false) false (.map id) (.v (.int .i64 x)) = some ⟨[id], [], fun bs _ => match bs with
    | [.map es] => if keysOk (.sc (.int .i64)) es = true then (match findK (.int .i64 x) es 0 with
      | some (_, y) => some ⟨y, [], none⟩
      | none => some ⟨.v (.bool false), [], none⟩) else none
    | _ => none⟩ := by
  show some (Eff.mk [id] [] _) = some (Eff.mk [id] [] _)
  congr 2
  funext bs i
  split
  · rename_i b
    cases b with
    | cells cs => rfl
    | bld cs => rfl
    | map es =>
      simp only [look, Bool.false_eq_true, if_false]
      by_cases hk : keysOk (.sc (.int .i64)) es = true
      · rw [if_pos hk, if_pos hk]
        cases findK (.int .i64 x) es 0 <;> rfl
      · rw [if_neg hk, if_neg hk]; rfl
  · rename_i h
    split
    · rename_i es; exact absurd rfl (h _)
    · rfl
theorem mset_i (id : Nat) (x : Int) (y : AV) : effMset (.sc (.int .i64)) (.map id) (.v (.int .i64 x)) y = some ⟨[id], [id], fun bs _ => match bs with
    | [.map es] => if keysOk (.sc (.int .i64)) es = true then some ⟨.any, [some (.map (putK (.int .i64 x) y es))], none⟩ else none
    | _ => none⟩ := rfl
def in56 (X : List Int) (n k : Nat) (met : List Int) (out : List (List Int)) (acc : List Int) (x : Int) : ST :=
  ⟨[(3, .il (ints X) n false), (5, fA 1 out), (6, .map 0), (8, gA (1 + fN out) acc), (9, vI x), (17, vI n), (18, vI k)], (0, .map (mts (met ++ acc))) :: (fH 1 out ++ gH (1 + fN out) acc), 1 + fN out + gN acc⟩
def ex56 (X : List Int) (n k : Nat) (S : List Int) (out : List (List Int)) (F : List Int) : ST :=
  ⟨[(3, .il (ints X) n false), (5, fA 1 out), (6, .map 0), (8, .il (ints F) F.length false), (17, vI n), (18, vI k)], (0, .map (mts S)) :: fH 1 out, 1 + fN out⟩
attribute [local simp] evCall reach idsB idsL ids Go.Sx.inA Go.Sx.inL Go.Sx.inM inB allHp enumH gl renB look_i mset_i
set_option maxHeartbeats 4000000
theorem in56_ok {ss : List Sp} {σ : Int → Int} {X : List Int} {n k : Nat} {met : List Int} {out : List (List Int)} {F : List Int} {s0 : ST} {Q : Exit → ST → Prop} (hn : n ≤ 16) (hX : ∀ m : Nat, m < n → onat m < n ∧ X[onat m]? = some (σ m))
    (hσ : Prm σ n) (hk : k < n) (hF : orb σ k 16 k = some F) (hnd : (met ++ F).Nodup) (hXl : X.length = n) (ho : out.length ≤ 16)
    (hs0 : ChgT 0 s0 (in56 X n k met out [] k)) (hQ : Q (.exit 2) (ex56 X n k (met ++ F) out F)) : XZ (rZ (spc ss)) 0 (.loop p56_l0) s0 Q := by
  refine XZ_for (fun p : Nat × List Int × Int => in56 X n k met out p.2.1 p.2.2) (fun p => p.1)
    (fun p => (∃ m : Nat, p.2.2 = m ∧ m < n) ∧ p.2.1.length + p.1 ≤ 17 ∧ ((p.1 = 0 ∧ p.2.2 = k ∧ p.2.1 = F) ∨ ∃ h r, p.1 = h + 1 ∧ orb σ k h p.2.2 = some r ∧ p.2.1 ++ r = F)) (17, [], (k : Int)) ⟨⟨k, rfl, hk⟩, by simp, .inr ⟨16, F, rfl, hF, rfl⟩⟩ hs0 ?_
  rintro ⟨f, acc, x⟩ ⟨⟨m, hxm, hm⟩, hlen, hinv⟩ N Q' hN hE
  simp only at hxm hlen hinv ⊢
  subst hxm
  rcases hinv with ⟨rfl, hmk, rfl⟩ | ⟨h, r, rfl, hr, hacc⟩
  · have hmk' : m = k := by omega
    subst hmk'
    obtain ⟨f1, -, -, -⟩ := orb_facts hF
    have hmem : (m : Int) ∈ met ++ acc := List.mem_append_right _ (List.mem_of_getElem? f1)
    obtain ⟨j, hj⟩ := mts_mem (i := 0) hmem
    have hks := mts_keys (met ++ acc)
    clear hN
    rcases acc with _ | ⟨a, ar⟩
    · simp at f1
    · rcases out with _ | ⟨o, orr⟩
      · simp only [in56, fA, fH, fN, gA, gH, gN]
        generalize met ++ a :: ar = S at *
        delta p56_l0 p56_r9 p56_r10 p56_r11 p56_r12
        simp (disch := omega) [oLt, oLe, oLtN, oLeN, nLt, nLe, nLtN, nLeN, hks, hj]
        exact hE _ _ _ (.frz 1 (by simp; rfl) (by simp) (.tot [6] (by simp [ex56, fA, fH, fN]))) hQ
      · simp only [List.length_cons] at ho
        simp only [in56, fA, fH, fN, gA, gH, gN]
        generalize met ++ a :: ar = S at *
        delta p56_l0 p56_r9 p56_r10 p56_r11 p56_r12
        simp (disch := omega) [oLt, oLe, oLtN, oLeN, nLt, nLe, nLtN, nLeN, hks, hj]
        exact hE _ _ _ (.frz 2 (by simp; rfl) (by simp) (.tot [6, 5] (by simp [ex56, fA, fH, fN]))) hQ
  · rcases h with _ | h
    · cases hr
    have hrr := hr
    simp only [orb] at hr
    obtain ⟨o1, o2⟩ := hX m hm
    have hv := hσ.rng m hm
    obtain ⟨v, hve⟩ : ∃ v, σ m = v := ⟨_, rfl⟩
    rw [hve] at hr hv o2
    have hrm : (m : Int) ∈ r := List.mem_of_getElem? (orb_facts hrr).1
    have hnm : (m : Int) ∉ met ++ acc := fun hmm => by
      rw [← hacc, ← List.append_assoc] at hnd
      exact (List.nodup_append.1 hnd).2.2 _ hmm _ hrm rfl
    have hks := mts_keys (met ++ acc)
    have hks2 := mts_keys (met ++ (acc ++ [(m : Int)]))
    have hfd := mts_out (i := 0) hnm
    have hput := mts_put hnm
    rw [List.append_assoc] at hput
    obtain ⟨q, hq⟩ := Int.eq_ofNat_of_zero_le hv.1
    have fin : ∀ s', ChgT 0 s' (in56 X n k met out (acc ++ [(m : Int)]) v) → N s' := fun s' hh => by
      by_cases hvk : v = k
      · rw [if_pos hvk] at hr
        cases hr
        exact hN s' (0, acc ++ [(m : Int)], v) (by simp) ⟨⟨k, hvk, hk⟩, by simp; omega, .inl ⟨rfl, hvk, hacc⟩⟩ hh
      · rw [if_neg hvk] at hr
        obtain ⟨r', hr', e⟩ := Option.map_eq_some_iff.1 hr
        exact hN s' (h + 1, acc ++ [(m : Int)], v) (by simp) ⟨⟨q, hq, by omega⟩, by simp; omega, .inr ⟨h, r', rfl, hr', by rw [← hacc, ← e]; simp⟩⟩ hh
    clear hN hE
    have hm16 : m < 16 := by omega
    have hxo := fun x y => xor64 x y hm16
    have hoc : ((onat m : Nat) : Int) < n := by omega
    have o3 := (List.getElem?_eq_some_iff.1 o2).2
    generalize onat m = w at *
    rcases out with _ | ⟨o, orr⟩
    · rcases acc with _ | ⟨a, ar⟩
      · simp only [in56, fA, fH, fN, gA, gH, gN, List.nil_append] at fin hks2 hput ⊢
        generalize hS2 : met ++ [(m : Int)] = S2 at *
        generalize met ++ [] = S at *
        delta p56_l0 p56_r9 p56_r10 p56_r11 p56_r12
        simp (disch := omega) [oLt, oLe, oLtN, oLeN, nLt, nLe, nLtN, nLeN, hks, hfd, hput, hks2, hxo, hoc, o1, o2, o3]
        exact fin _ (.tot [6, 8] (by simp))
      · simp only [List.length_cons] at hlen
        simp only [in56, fA, fH, fN, gA, gH, gN, List.cons_append] at fin hks2 hput ⊢
        generalize hS2 : met ++ a :: (ar ++ [(m : Int)]) = S2 at *
        generalize met ++ a :: ar = S at *
        delta p56_l0 p56_r9 p56_r10 p56_r11 p56_r12
        simp (disch := omega) [oLt, oLe, oLtN, oLeN, nLt, nLe, nLtN, nLeN, hks, hfd, hput, hks2, hxo, hoc, o1, o2, o3]
        exact fin _ (.tot [6, 8] (by simp))
    · simp only [List.length_cons] at ho
      rcases acc with _ | ⟨a, ar⟩
      · simp only [in56, fA, fH, fN, gA, gH, gN, List.nil_append] at fin hks2 hput ⊢
        generalize hS2 : met ++ [(m : Int)] = S2 at *
        generalize met ++ [] = S at *
        delta p56_l0 p56_r9 p56_r10 p56_r11 p56_r12
        simp (disch := omega) [oLt, oLe, oLtN, oLeN, nLt, nLe, nLtN, nLeN, hks, hfd, hput, hks2, hxo, hoc, o1, o2, o3]
        exact fin _ (.tot [6, 5, 8] (by simp))
      · simp only [List.length_cons] at hlen
        simp only [in56, fA, fH, fN, gA, gH, gN, List.cons_append] at fin hks2 hput ⊢
        generalize hS2 : met ++ a :: (ar ++ [(m : Int)]) = S2 at *
        generalize met ++ a :: ar = S at *
        delta p56_l0 p56_r9 p56_r10 p56_r11 p56_r12
        simp (disch := omega) [oLt, oLe, oLtN, oLeN, nLt, nLe, nLtN, nLeN, hks, hfd, hput, hks2, hxo, hoc, o1, o2, o3]
        exact fin _ (.tot [6, 5, 8] (by simp))
end
section
attribute [local simp] evCall reach idsB idsL ids Go.Sx.inA Go.Sx.inL Go.Sx.inM inB allHp enumH gl renB look_i mset_i effMkmap
def st56 (X : List Int) (n k : Nat) (S : List Int) (out : List (List Int)) : ST :=
  ⟨[(3, .il (ints X) n false), (5, fA 1 out), (6, .map 0), (17, vI n), (18, vI k)], (0, .map (mts S)) :: fH 1 out, 1 + fN out⟩
set_option maxHeartbeats 4000000
def s56 : Sp := spT 56 [.mp] fun (L : List (List Int)) => res (gdM L) (.il (lls (faceL L)) (faceL L).length false)
@[simp] theorem s56_g : s56.g = 56 := rfl
@[simp] theorem s56_f : s56.f = (spT 56 [.mp] fun (L : List (List Int)) => res (gdM L) (.il (lls (faceL L)) (faceL L).length false)).f := rfl
theorem s56_ok : s56.ok Tryd.prog := by
  apply spT_ok
  simp only [OkT, Ty.all, List.nil_append, List.cons_append]
  intro (L : List (List Int)) u
  apply okT_res; intro hg
  refine P56.rz (ss := [s90]) ⟨s90_ok, trivial⟩ (by simp) fun Q hQ => ?_
  delta p56
  have hg0 := hg
  simp only [gdM, Bool.and_eq_true, decide_eq_true_eq] at hg
  obtain ⟨hsm, hc⟩ := hg
  have hcv := chk_cov hc
  obtain ⟨h34, h16, hev, -, -⟩ := tab_pts hc
  have hσ := hcv.along hev
  have hX : ∀ m : Nat, m < total L → onat m < total L ∧ (nextT (total L) (tabF L))[onat m]? = some (alongC (tabF L) m) := fun m hm => by
    have ho := onat_lt hev hm
    refine ⟨ho, ?_⟩
    rw [nextT_get ho]
    unfold alongC afterC
    rw [oth_onat m (by omega), Int.toNat_natCast, List.getD_eq_getElem?_getD, List.getElem?_eq_getElem (by omega)]; rfl
  have hXl := nextT_len h34 h16
  have hface : faceL L = (facN (alongC (tabF L)) (total L)).2 := by
    unfold faceL
    rw [if_pos hc]
    exact (cyc_fac hσ h16 _ (Nat.le_refl _)).1
  rw [hface] at hQ
  have hYt := atT_len h34 h16
  obtain ⟨X, hXe⟩ : ∃ X, nextT (total L) (tabF L) = X := ⟨_, rfl⟩
  obtain ⟨Y, hYe⟩ : ∃ Y, atT (total L) (tabF L) = Y := ⟨_, rfl⟩
  rw [hXe] at hX hXl
  generalize alongC (tabF L) = σ at *
  obtain ⟨n, hn⟩ : ∃ n, total L = n := ⟨_, rfl⟩
  rw [hn] at hX hXl hσ hQ h16 hXe hYe
  have hok := hσ.ok h16
  refine XZ_step ?_ (fun N Q_ hN => ?_) ?_
  rotate_left
  · delta p56_r0; simp (disch := omega) [oLt, oLe, oLtN, oLeN, nLt, nLe, nLtN, nLeN]
    exact hN
  refine XZ_step ?_ (fun N Q_ hN => ?_) ?_
  rotate_left
  · delta p56_r1; simp (disch := omega) [oLt, oLe, oLtN, oLeN, nLt, nLe, nLtN, nLeN, hg0, hXe, hYe, hn]
    exact hN
  refine XZ_step ?_ (fun N Q_ hN => ?_) ?_
  rotate_left
  · delta p56_r2; simp (disch := omega) [oLt, oLe, oLtN, oLeN, nLt, nLe, nLtN, nLeN]
    exact hN
  refine XZ_step ?_ (fun N Q_ hN => ?_) ?_
  rotate_left
  · delta p56_r3; simp (disch := omega) [oLt, oLe, oLtN, oLeN, nLt, nLe, nLtN, nLeN]
    exact hN
  refine XZ_seqG (XZ_seqG ?_)
  delta p56_r4
  simp (disch := omega) [oLt, oLe, oLtN, oLeN, nLt, nLe, nLtN, nLeN]
  refine XZ_for (fun k : Nat => st56 X n k (facN σ k).1 (facN σ k).2) (fun k => n - k) (fun k => k ≤ n) 0 (Nat.zero_le _) (.tot [6] (by simp [st56, facN, fA, fH, fN, mts])) ?_
  intro k hk N Q' hN hE
  obtain ⟨i1, i2, i3, -, -⟩ := fac_inv hσ h16 k hk
  have hol : (facN σ k).2.length ≤ 16 := by
    rw [← (cyc_fac hσ h16 k hk).1]
    have := (cycN_len σ k).2
    omega
  rcases Nat.lt_or_ge k n with h | h
  · have hkc : (k : Int) < n := by omega
    obtain ⟨-, F, hF⟩ := (okS_iff.1 hok).2 k h
    have hnext := facN_succ σ k
    obtain ⟨j1, j2, -, -, -⟩ := fac_inv hσ h16 (k + 1) h
    rw [hnext] at j2
    unfold facS at hnext j2
    rw [hF, Option.getD_some] at hnext j2
    generalize hM : (facN σ k).1 = met at *
    generalize hO : (facN σ k).2 = out at *
    by_cases hmem : (k : Int) ∈ met
    · rw [if_pos hmem] at hnext
      have fin : ∀ s', ChgT 0 s' (st56 X n ((k + 1 : Nat)) met out) → N s' := fun s' hh => hN s' (k + 1) (by omega) h (by rw [hnext, hM, hO]; exact hh)
      obtain ⟨j, hj⟩ := mts_mem (i := 0) hmem
      have hks := mts_keys met
      clear hN hE hQ i1 hO
      rcases out with _ | ⟨o, orr⟩
      · simp only [st56, fA, fH, fN] at fin ⊢
        delta p56_l1 p56_r5 p56_r6 p56_r7 p56_r8
        simp (disch := omega) [oLt, oLe, oLtN, oLeN, nLt, nLe, nLtN, nLeN, hkc]
        refine XZ_for (fun _ : Nat => ⟨[(3, .il (ints X) n false), (5, .v (.slice none 0 0)), (6, .map 0), (8, .v (.slice none 0 0)), (9, vI k), (17, vI n), (18, vI k)], [(0, .map (mts met))], 1⟩) (fun _ => 0) (fun _ => True) 0 trivial (.tot [6] (by simp)) ?_
        intro q _ N3 Q3 _ hE3
        delta p56_l0 p56_r9 p56_r10 p56_r11 p56_r12
        simp (disch := omega) [oLt, oLe, oLtN, oLeN, nLt, nLe, nLtN, nLeN, hks, hj]
        refine hE3 _ _ _ .refl ?_
        simp only [inBE, thenE, if_true]
        delta p56_r13 p56_r14 p56_r15
        simp (disch := omega) [oLt, oLe, oLtN, oLeN, nLt, nLe, nLtN, nLeN, effEqn, Go.Sx.nilA, fits, nilOf]
        exact fin _ (.tot [6] (by simp))
      · simp only [st56, fA, fH, fN] at fin ⊢
        delta p56_l1 p56_r5 p56_r6 p56_r7 p56_r8
        simp (disch := omega) [oLt, oLe, oLtN, oLeN, nLt, nLe, nLtN, nLeN, hkc]
        refine XZ_for (fun _ : Nat => ⟨[(3, .il (ints X) n false), (5, .ref 1 0 (orr.length + 1) 1 none), (6, .map 0), (8, .v (.slice none 0 0)), (9, vI k), (17, vI n), (18, vI k)], [(0, .map (mts met)), (1, .cells (lls (o :: orr)))], 2⟩) (fun _ => 0) (fun _ => True) 0 trivial (.tot [6, 5] (by simp)) ?_
        intro q _ N3 Q3 _ hE3
        delta p56_l0 p56_r9 p56_r10 p56_r11 p56_r12
        simp (disch := omega) [oLt, oLe, oLtN, oLeN, nLt, nLe, nLtN, nLeN, hks, hj]
        refine hE3 _ _ _ .refl ?_
        simp only [inBE, thenE, if_true]
        delta p56_r13 p56_r14 p56_r15
        simp (disch := omega) [oLt, oLe, oLtN, oLeN, nLt, nLe, nLtN, nLeN, effEqn, Go.Sx.nilA, fits, nilOf]
        exact fin _ (.tot [6, 5] (by simp))
    · rw [if_neg hmem] at hnext j2
      have fin : ∀ s', ChgT 0 s' (st56 X n ((k + 1 : Nat)) (met ++ F) (out ++ [F])) → N s' := fun s' hh => hN s' (k + 1) (by omega) h (by rw [hnext]; exact hh)
      obtain ⟨f0, fr, rfl⟩ := List.exists_cons_of_ne_nil (orb_len hF).2
      clear hN hE hQ i1 hO hnext j1
      rcases out with _ | ⟨o, orr⟩
      · simp only [st56, fA, fH, fN] at fin ⊢
        delta p56_l1 p56_r5 p56_r6 p56_r7 p56_r8
        simp (disch := omega) [oLt, oLe, oLtN, oLeN, nLt, nLe, nLtN, nLeN, hkc]
        refine in56_ok (out := []) h16 hX hσ h hF j2 hXl (by simp) (.tot [6] (by simp [in56, fA, fH, fN, gA, gH, gN])) ?_
        simp only [inBE, thenE, if_true, ex56, fA, fH, fN]
        delta p56_r13 p56_r14 p56_r15
        simp (disch := omega) [oLt, oLe, oLtN, oLeN, nLt, nLe, nLtN, nLeN, effEqn, Go.Sx.nilA, fits, nilOf]
        exact fin _ (.tot [6, 5] (by simp))
      · simp only [List.length_cons] at hol
        simp only [st56, fA, fH, fN] at fin ⊢
        delta p56_l1 p56_r5 p56_r6 p56_r7 p56_r8
        simp (disch := omega) [oLt, oLe, oLtN, oLeN, nLt, nLe, nLtN, nLeN, hkc]
        refine in56_ok (out := o :: orr) h16 hX hσ h hF j2 hXl (by simp; omega) (.tot [6, 5] (by simp [in56, fA, fH, fN, gA, gH, gN])) ?_
        simp only [inBE, thenE, if_true, ex56, fA, fH, fN]
        delta p56_r13 p56_r14 p56_r15
        simp (disch := omega) [oLt, oLe, oLtN, oLeN, nLt, nLe, nLtN, nLeN, effEqn, Go.Sx.nilA, fits, nilOf]
        exact fin _ (.tot [6, 5] (by simp))
  · obtain rfl : k = n := by omega
    have hkc : ¬ (k : Int) < k := by omega
    generalize (facN σ k).1 = met at *
    generalize (facN σ k).2 = out at *
    rcases out with _ | ⟨o, orr⟩
    · simp only [st56, fA, fH, fN]
      delta p56_l1 p56_r5 p56_r6 p56_r7 p56_r8
      simp (disch := omega) [oLt, oLe, oLtN, oLeN, nLt, nLe, nLtN, nLeN, hkc]
      refine hE _ _ _ .refl ?_
      simp only [inBE, thenE, if_true]
      delta p56_r16
      simp (disch := omega) [oLt, oLe, oLtN, oLeN, nLt, nLe, nLtN, nLeN]
      exact hQ _ _ (.fz [2] _ (.inl rfl) (by simp; rfl) (by simp) (by simp))
    · simp only [st56, fA, fH, fN]
      delta p56_l1 p56_r5 p56_r6 p56_r7 p56_r8
      simp (disch := omega) [oLt, oLe, oLtN, oLeN, nLt, nLe, nLtN, nLeN, hkc]
      refine hE _ _ _ .refl ?_
      simp only [inBE, thenE, if_true]
      delta p56_r16
      simp (disch := omega) [oLt, oLe, oLtN, oLeN, nLt, nLe, nLtN, nLeN]
      exact hQ _ _ (.fz [2] _ (.inl rfl) (by simp; rfl) (by simp) (by simp))
end
section
theorem XZ_stepS {R : Rsv} {k0 : Nat} {a b : PCode} {s : ST} {Q : Exit → ST → Prop} (s1 : ST) (h1 : ∀ (N : ST → Prop) (Q' : Exit → ST → Prop), N s1 → XZ R k0 a s (thenE N Q')) (h2 : XZ R k0 b s1 Q) : XZ R k0 (.seq a b) s Q := h1 _ _ h2
theorem XZ_blk {R : Rsv} {k0 id : Nat} {a : PCode} {s : ST} {Q : Exit → ST → Prop} (h : XZ R k0 a s (inBE id Q)) : XZ R k0 (.block id a) s Q := h
open Classical in
theorem cls_le (n : Nat) (R : Nat → Nat → Prop) : cls n R ≤ n := by
  unfold cls
  have := List.length_filter_le (fun p => decide (Low R p)) (List.range n)
  simpa using this
def st58 (A : List Int) (at' : Nat → Nat) (n P k : Nat) : ST :=
  ⟨[(4, .il (ints A) n false), (5, .ref 0 0 P 1 (some P)), (7, vI (labN at' P k).2), (8, vI ((2 * k : Nat) : Int))], [(0, .cells (ints ((labN at' P k).1.take P)))], 1⟩
set_option maxHeartbeats 8000000
def s58 : Sp := spT 58 [.mp] fun (L : List (List Int)) => res (gdM L) (vI (partR L))
@[simp] theorem s58_g : s58.g = 58 := rfl
@[simp] theorem s58_f : s58.f = (spT 58 [.mp] fun (L : List (List Int)) => res (gdM L) (vI (partR L))).f := rfl
theorem s58_ok : s58.ok Tryd.prog := by
  apply spT_ok
  simp only [OkT, Ty.all, List.nil_append, List.cons_append]
  intro (L : List (List Int)) u
  apply okT_res; intro hg
  refine P58.rz (ss := [s90]) ⟨s90_ok, trivial⟩ (by simp) fun Q hQ => ?_
  delta p58
  have hg0 := hg
  simp only [gdM, Bool.and_eq_true, decide_eq_true_eq] at hg
  obtain ⟨hsm, hc⟩ := hg
  obtain ⟨h34, h16, hev, hP, h0, h33, hpt⟩ := tab_pts hc
  have hat : ∀ m, m < total L → atN L m < L.length ∧ (atT (total L) (tabF L))[m]? = some (atN L m : Int) := fun m hm => by
    obtain ⟨k, hk, k1, k2, k3⟩ := hpt m hm
    have e : atN L m = k := by unfold atN; rw [k3]; simp
    rw [e, atT_get hm]; exact ⟨hk, k1⟩
  have hpart := part_eq hc
  unfold partN at hpart
  rw [← hpart] at hQ
  have hlab := lab_ok (at' := atN L) hP (fun m hm => (hat m hm).1)
  obtain ⟨X, hXe⟩ : ∃ X, nextT (total L) (tabF L) = X := ⟨_, rfl⟩
  obtain ⟨A, hAe⟩ : ∃ A, atT (total L) (tabF L) = A := ⟨_, rfl⟩
  have hAl := atT_len h34 h16
  obtain ⟨n, hn⟩ : ∃ n, total L = n := ⟨_, rfl⟩
  obtain ⟨P, hPe⟩ : ∃ P, L.length = P := ⟨_, rfl⟩
  rw [hn] at hQ h16 hev hat hlab hXe hAe hAl
  rw [hPe] at hQ hP hat hlab
  rw [hAe] at hat hAl
  generalize atN L = at' at *
  have hP9 : (P : Int) * 9 ≤ 1099511627776 := by omega
  have hrep : List.replicate P (AV.v (.int .i64 0)) = ints ((labI 0).take P) := by rw [lbI_0 hP]; simp [ints]
  refine XZ_step ?_ (fun N Q_ hN => ?_) ?_
  rotate_left
  · delta p58_r0; simp (disch := omega) [oLt, oLe, oLtN, oLeN, nLt, nLe, nLtN, nLeN]
    exact hN
  refine XZ_step ?_ (fun N Q_ hN => ?_) ?_
  rotate_left
  · delta p58_r1; simp (disch := omega) [oLt, oLe, oLtN, oLeN, nLt, nLe, nLtN, nLeN, hg0, hXe, hAe, hn]
    exact hN
  refine XZ_step ?_ (fun N Q_ hN => ?_) ?_
  rotate_left
  · delta p58_r2; simp (disch := omega) [oLt, oLe, oLtN, oLeN, nLt, nLe, nLtN, nLeN, hPe, hP9, hrep]
    exact hN
  refine XZ_stepS ⟨[(4, .il (ints A) n false), (5, .ref 0 0 P 1 (some P))], [(0, .cells (ints ((labI P).take P)))], 1⟩ (fun N Q_ hN => ?_) ?_
  · refine XZ_seqG ?_
    delta p58_r3
    simp (disch := omega) [oLt, oLe, oLtN, oLeN, nLt, nLe, nLtN, nLeN]
    refine XZ_for (fun i : Nat => ⟨[(4, .il (ints A) n false), (5, .ref 0 0 P 1 (some P)), (23, vI P), (24, vI i)], [(0, .cells (ints ((labI i).take P)))], 1⟩) (fun i => P - i) (fun i => i ≤ P) 0 (Nat.zero_le _) (.tot [5] (by simp)) ?_
    intro i hi N1 Q1 hN1 hE1
    have hl : ((labI i).take P).length = P := by simp [labI]; omega
    rcases Nat.lt_or_ge i P with h | h
    · have hic : (i : Int) < P := by omega
      have fin : ∀ s', ChgT 0 s' ⟨[(4, .il (ints A) n false), (5, .ref 0 0 P 1 (some P)), (23, vI P), (24, vI ((i + 1 : Nat) : Int))], [(0, .cells (ints (((labI i).take P).set i (i : Int))))], 1⟩ → N1 s' := fun s' hh => hN1 s' (i + 1) (by omega) h (by rw [← lbI_succ hP h]; exact hh)
      clear hN1 hE1
      generalize (labI i).take P = Y at *
      have sx : splice (ints Y) i [vI (i : Int)] = ints (Y.set i (i : Int)) := by rw [splice_one _ _ _ (by simp [hl]; omega)]; simp [ints, List.map_set]
      delta p58_l0 p58_r4 p58_r5 p58_r6 p58_r7
      simp (disch := omega) [oLt, oLe, oLtN, oLeN, nLt, nLe, nLtN, nLeN, hic, h, hl]
      exact fin _ (.tot [5] (by simp [sx]))
    · obtain rfl : i = P := by omega
      have hic : ¬ (i : Int) < i := by omega
      delta p58_l0 p58_r4 p58_r5 p58_r6 p58_r7
      simp (disch := omega) [oLt, oLe, oLtN, oLeN, nLt, nLe, nLtN, nLeN, hic]
      refine hE1 _ _ ⟨[(4, .il (ints A) n false), (5, .ref 0 0 i 1 (some i))], [(0, .cells (ints ((labI i).take i)))], 1⟩ (.tot [5] (by simp)) ?_
      simp only [inBE, thenE, if_true]
      exact hN
  refine XZ_step ?_ (fun N Q_ hN => ?_) ?_
  rotate_left
  · delta p58_r8; simp (disch := omega) [oLt, oLe, oLtN, oLeN, nLt, nLe, nLtN, nLeN]
    exact hN
  refine XZ_seqG (XZ_seqG ?_)
  delta p58_r9
  simp (disch := omega) [oLt, oLe, oLtN, oLeN, nLt, nLe, nLtN, nLeN]
  refine XZ_for (fun k : Nat => st58 A at' n P k) (fun k => n / 2 - k) (fun k => 2 * k ≤ n) 0 (by simp) (.tot [5] (by simp [st58, labN])) ?_
  intro k hk N Q' hN hE
  have ok := hlab k hk
  have hlen := ok.len
  have hcnt := ok.cnt
  have hcl := cls_le P (Lab at' P k)
  rcases Nat.lt_or_ge (2 * k) n with h | h
  · have hkc : 2 * (k : Int) < n := by omega
    obtain ⟨a1, a2⟩ := hat (2 * k) h
    obtain ⟨b1, b2⟩ := hat (2 * k + 1) (by omega)
    have h1c : 2 * (k : Int) + 1 < n := by omega
    have h1k : 2 * k + 1 < n := by omega
    obtain ⟨n1, n2⟩ := labN_next (at' := at') (k := k) hlen hP
    have fin : ∀ s', ChgT 0 s' ⟨[(4, .il (ints A) n false), (5, .ref 0 0 P 1 (some P)), (7, vI (labN at' P (k + 1)).2), (8, vI (2 * (k : Int) + 2))], [(0, .cells (ints ((labN at' P (k + 1)).1.take P)))], 1⟩ → N s' := fun s' hh => hN s' (k + 1) (by omega) (by omega) (by
      have e : ((2 * (k + 1) : Nat) : Int) = 2 * (k : Int) + 2 := by omega
      unfold st58; rw [e]; exact hh)
    have gl : ∀ p, p < P → ((labN at' P k).1.take P)[p]? = some ((labN at' P k).1.getD p 0) := fun p hp => by
      rw [List.getElem?_take, if_pos hp, List.getD_eq_getElem?_getD, List.getElem?_eq_getElem (by omega)]; rfl
    have ga := gl _ a1
    have gb := gl _ b1
    have hXl : ((labN at' P k).1.take P).length = P := by simp; omega
    rw [n1, n2] at fin
    clear hN hE gl n1 n2 ok
    generalize (labN at' P k).1.getD (at' (2 * k)) 0 = a at *
    generalize (labN at' P k).1.getD (at' (2 * k + 1)) 0 = b at *
    generalize at' (2 * k) = pa at *
    generalize at' (2 * k + 1) = pb at *
    obtain ⟨q, hq⟩ : ∃ q, (labN at' P k).2 = q := ⟨_, rfl⟩
    have hq0 : 0 ≤ q := by omega
    have hq1 : q ≤ 16 := by omega
    have hst : st58 A at' n P k = ⟨[(4, .il (ints A) n false), (5, .ref 0 0 P 1 (some P)), (7, vI q), (8, vI ((2 * k : Nat) : Int))], [(0, .cells (ints ((labN at' P k).1.take P)))], 1⟩ := by unfold st58; rw [hq]
    rw [hst]
    rw [hq] at fin
    clear hst hcnt hcl
    generalize (labN at' P k).1.take P = Y at *
    have hpa : (pa : Int) < P := by omega
    have hpb : (pb : Int) < P := by omega
    have a3 := (List.getElem?_eq_some_iff.1 a2).2
    have b3 := (List.getElem?_eq_some_iff.1 b2).2
    have ga3 := (List.getElem?_eq_some_iff.1 ga).2
    have gb3 := (List.getElem?_eq_some_iff.1 gb).2
    have hpaY : pa < Y.length := by omega
    have hpbY : pb < Y.length := by omega
    have h2k : 2 * k < A.length := by omega
    have h2k1 : 2 * k + 1 < A.length := by omega
    have e2k : ((2 * k : Nat) : Int) = 2 * (k : Int) := by omega
    have t2k : (2 * (k : Int)).toNat = 2 * k := by omega
    have t2k1 : (2 * (k : Int) + 1).toNat = 2 * k + 1 := by omega
    rw [e2k]
    delta p58_l2
    refine XZ_step ?_ (fun N Q_ hN => ?_) ?_
    rotate_left
    · delta p58_r10
      simp (disch := omega) [oLt, oLe, oLtN, oLeN, nLt, nLe, nLtN, nLeN, hkc]
      exact hN
    refine XZ_seqG (XZ_blk ?_)
    refine XZ_step ?_ (fun N Q_ hN => ?_) ?_
    rotate_left
    · refine XZ_drawG ?_
      delta p58_r11
      refine zD_cut 5 ?_ ?_ (fun K_ hK => ?_) ?_
      rotate_left 2
      · simp only [List.take_succ_cons, List.take_zero]
        simp (disch := omega) [oLt, oLe, oLtN, oLeN, nLt, nLe, nLtN, nLeN, hkc, a2, a3, h2k, t2k]
        exact hK
      simp only [List.drop_succ_cons, List.drop_zero]
      refine zD_cut 2 ?_ ?_ (fun K_ hK => ?_) ?_
      rotate_left 2
      · simp only [List.take_succ_cons, List.take_zero]
        simp (disch := omega) [oLt, oLe, oLtN, oLeN, nLt, nLe, nLtN, nLeN, ga, ga3, hpa, a1, hpaY]
        exact hK
      simp only [List.drop_succ_cons, List.drop_zero]
      refine zD_cut 4 ?_ ?_ (fun K_ hK => ?_) ?_
      rotate_left 2
      · simp only [List.take_succ_cons, List.take_zero]
        simp (disch := omega) [oLt, oLe, oLtN, oLeN, nLt, nLe, nLtN, nLeN, h1c]
        exact hK
      simp only [List.drop_succ_cons, List.drop_zero]
      refine zD_cut 2 ?_ ?_ (fun K_ hK => ?_) ?_
      rotate_left 2
      · simp only [List.take_succ_cons, List.take_zero]
        simp (disch := omega) [oLt, oLe, oLtN, oLeN, nLt, nLe, nLtN, nLeN, h1c, b2, b3, h2k1, t2k1]
        exact hK
      simp only [List.drop_succ_cons, List.drop_zero]
      refine zD_cut 2 ?_ ?_ (fun K_ hK => ?_) ?_
      rotate_left 2
      · simp only [List.take_succ_cons, List.take_zero]
        simp (disch := omega) [oLt, oLe, oLtN, oLeN, nLt, nLe, nLtN, nLeN, gb, gb3, hpb, b1, hpbY]
        exact hK
      simp only [List.drop_succ_cons, List.drop_zero]
      refine zD_cut 2 ?_ ?_ (fun K_ hK => ?_) ?_
      rotate_left 2
      · simp only [List.take_succ_cons, List.take_zero]
        simp (disch := omega) [oLt, oLe, oLtN, oLeN, nLt, nLe, nLtN, nLeN]
        exact hK
      simp only [List.drop_succ_cons, List.drop_zero]
      refine goD_ok (by decide) ?_
      simp (disch := omega) [oLt, oLe, oLtN, oLeN, nLt, nLe, nLtN, nLeN]
      exact hN
    by_cases hab : a = b
    · rw [if_pos hab] at fin
      subst hab
      refine XZ_step ?_ (fun N Q_ hN => ?_) ?_
      rotate_left
      · delta p58_r12
        simp (disch := omega) [oLt, oLe, oLtN, oLeN, nLt, nLe, nLtN, nLeN]
        exact hN
      refine XZ_seqG ?_
      delta p58_r14
      simp (disch := omega) [oLt, oLe, oLtN, oLeN, nLt, nLe, nLtN, nLeN]
      refine in58_ok (A := A) (n := n) (e := 2 * k) (m := q) (a := a) (b := a) hXl hP (.tot [5] (by simp [en58])) ?_
      simp only [inBE, thenE, if_true, en58]
      delta p58_r20
      simp (disch := omega) [oLt, oLe, oLtN, oLeN, nLt, nLe, nLtN, nLeN]
      exact fin _ (.tot [5] (by simp))
    · rw [if_neg hab] at fin
      refine XZ_step ?_ (fun N Q_ hN => ?_) ?_
      rotate_left
      · delta p58_r12
        simp (disch := omega) [oLt, oLe, oLtN, oLeN, nLt, nLe, nLtN, nLeN, hab]
        delta p58_r13
        simp (disch := omega) [oLt, oLe, oLtN, oLeN, nLt, nLe, nLtN, nLeN]
        exact hN
      refine XZ_seqG ?_
      delta p58_r14
      simp (disch := omega) [oLt, oLe, oLtN, oLeN, nLt, nLe, nLtN, nLeN]
      refine in58_ok (A := A) (n := n) (e := 2 * k) (m := q - 1) (a := a) (b := b) hXl hP (.tot [5] (by simp [en58])) ?_
      simp only [inBE, thenE, if_true, en58]
      delta p58_r20
      simp (disch := omega) [oLt, oLe, oLtN, oLeN, nLt, nLe, nLtN, nLeN]
      exact fin _ (.tot [5] (by simp))
  · have e : n / 2 = k := by omega
    have hkc : ¬ 2 * (k : Int) < n := by omega
    rw [e] at hQ
    simp only [st58]
    generalize (labN at' P k).2 = q at *
    generalize (labN at' P k).1.take P = Y at *
    have e2k : ((2 * k : Nat) : Int) = 2 * (k : Int) := by omega
    rw [e2k]
    delta p58_l2
    refine XZ_seqG (XZ_seqG ?_)
    delta p58_r10
    simp (disch := omega) [oLt, oLe, oLtN, oLeN, nLt, nLe, nLtN, nLeN, hkc]
    refine hE _ _ _ .refl ?_
    delta p58_r21
    simp (disch := omega) [oLt, oLe, oLtN, oLeN, nLt, nLe, nLtN, nLeN]
    exact hQ _ _ (.p (.inl rfl) (by simp) rfl)
/-! ### The genus -/
theorem partR_le3 (L : List (List Int)) : partR L ≤ L.length := by
  unfold partR
  have := List.length_filter_le (fun p => decide (Go.Sx.Ch.hd (rchd L p) = p)) (List.range L.length)
  simpa using this
theorem gen_nat {L : List (List Int)} (hc : chk L = 0) : ∃ g : Nat, genN L = g ∧ 2 * (partR L : Int) + (total L / 2 : Nat) = L.length + (faceL L).length + 2 * g ∧ g ≤ 100 := by
  obtain ⟨-, h16, -, hP, -⟩ := tab_pts hc
  obtain ⟨g, hg'⟩ := euler_map hc
  have hpl := partR_le3 L
  rw [part_eq hc] at hg'
  refine ⟨g, ?_, hg', by omega⟩
  unfold genN
  have e2 : 2 * (partR L : Int) + (total L / 2 : Nat) - L.length - (faceL L).length = 2 * (g : Int) := by omega
  rw [e2, Int.mul_tdiv_cancel_left _ (by decide)]
theorem face_len {L : List (List Int)} (hc : chk L = 0) : (faceL L).length ≤ 16 := by
  obtain ⟨-, h16, -, -, -⟩ := tab_pts hc
  unfold faceL
  rw [if_pos hc]
  have := (cycN_len (alongC (tabF L)) (total L)).2
  unfold cyc; omega
def s53 : Sp := spT 53 [.mp] fun (L : List (List Int)) => res (gdM L) (vI (genN L))
@[simp] theorem s53_g : s53.g = 53 := rfl
@[simp] theorem s53_f : s53.f = (spT 53 [.mp] fun (L : List (List Int)) => res (gdM L) (vI (genN L))).f := rfl
theorem s53_ok : s53.ok Tryd.prog := by
  apply spT_ok
  simp only [OkT, Ty.all, List.nil_append, List.cons_append]
  intro (L : List (List Int)) u
  apply okT_res; intro hg
  refine P53.rz (ss := [s56, s58, s59]) ⟨s56_ok, s58_ok, s59_ok, trivial⟩ (by simp) fun Q hQ => ?_
  delta p53
  have hg0 := hg
  simp only [gdM, Bool.and_eq_true, decide_eq_true_eq] at hg
  obtain ⟨hsm, hc⟩ := hg
  obtain ⟨-, h16, hev, hP, -⟩ := tab_pts hc
  obtain ⟨g, hgen, hg1, hg2⟩ := gen_nat hc
  have hpl := partR_le3 L
  have hFl := face_len hc
  rw [hgen] at hQ
  obtain ⟨F, hF⟩ : ∃ F, faceL L = F := ⟨_, rfl⟩
  rw [hF] at hg1 hFl
  obtain ⟨p, hp⟩ : ∃ p, partR L = p := ⟨_, rfl⟩
  rw [hp] at hg1 hpl
  obtain ⟨n, hn⟩ : ∃ n, total L = n := ⟨_, rfl⟩
  rw [hn] at hg1 h16 hev
  have h2 : (n : Int).tdiv 2 = ((n / 2 : Nat) : Int) := by
    obtain ⟨h, rfl⟩ : ∃ h, n = 2 * h := ⟨n / 2, by omega⟩
    rw [show ((2 * h : Nat) : Int) = 2 * (h : Int) by omega, Int.mul_tdiv_cancel_left _ (by decide)]; omega
  have h3' : (2 * (p : Int) + (n : Int) / 2 - L.length - F.length) / 2 = g := by omega
  have h3 : (2 * (p : Int) + (n / 2 : Nat) - L.length - F.length).tdiv 2 = g := by
    have e2 : 2 * (p : Int) + (n / 2 : Nat) - L.length - F.length = 2 * (g : Int) := by omega
    rw [e2, Int.mul_tdiv_cancel_left _ (by decide)]
  obtain ⟨h, hh⟩ : ∃ h, n / 2 = h := ⟨_, rfl⟩
  rw [hh] at h2 h3 hg1
  have hhb : h ≤ 8 := by omega
  refine XZ_step ?_ (fun N Q_ hN => ?_) ?_
  rotate_left
  · delta p53_r0; simp (disch := omega) [oLt, oLe, oLtN, oLeN, nLt, nLe, nLtN, nLeN]
    exact hN
  refine XZ_step ?_ (fun N Q_ hN => ?_) ?_
  rotate_left
  · refine XZ_drawG ?_
    delta p53_r1
    refine zD_cut 3 ?_ ?_ (fun K_ hK => ?_) ?_
    rotate_left 2
    · simp only [List.take_succ_cons, List.take_zero]
      simp (disch := omega) [oLt, oLe, oLtN, oLeN, nLt, nLe, nLtN, nLeN, hg0, hp]
      exact hK
    simp only [List.drop_succ_cons, List.drop_zero]
    refine zD_cut 3 ?_ ?_ (fun K_ hK => ?_) ?_
    rotate_left 2
    · simp only [List.take_succ_cons, List.take_zero]
      simp (disch := omega) [oLt, oLe, oLtN, oLeN, nLt, nLe, nLtN, nLeN, hsm, hn, h2]
      exact hK
    simp only [List.drop_succ_cons, List.drop_zero]
    refine zD_cut 5 ?_ ?_ (fun K_ hK => ?_) ?_
    rotate_left 2
    · simp only [List.take_succ_cons, List.take_zero]
      simp (disch := omega) [oLt, oLe, oLtN, oLeN, nLt, nLe, nLtN, nLeN, hg0]
      exact hK
    simp only [List.drop_succ_cons, List.drop_zero]
    refine zD_cut 3 ?_ ?_ (fun K_ hK => ?_) ?_
    rotate_left 2
    · simp only [List.take_succ_cons, List.take_zero]
      simp (disch := omega) [oLt, oLe, oLtN, oLeN, nLt, nLe, nLtN, nLeN, hg0, hF]
      exact hK
    simp only [List.drop_succ_cons, List.drop_zero]
    refine zD_cut 3 ?_ ?_ (fun K_ hK => ?_) ?_
    rotate_left 2
    · simp only [List.take_succ_cons, List.take_zero]
      simp (disch := omega) [oLt, oLe, oLtN, oLeN, nLt, nLe, nLtN, nLeN, h3, h3']
      exact hK
    simp only [List.drop_succ_cons, List.drop_zero]
    refine goD_ok (by decide) ?_
    simp (disch := omega) [oLt, oLe, oLtN, oLeN, nLt, nLe, nLtN, nLeN]
    exact hN
  simp (disch := omega) [oLt, oLe, oLtN, oLeN, nLt, nLe, nLtN, nLeN]
  exact hQ _ _ (.p (.inl rfl) (by simp) rfl)
end
end Go.Sx.Ch
