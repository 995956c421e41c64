/- What functions of the library return: insertion by first numbers (slices.insertionSortCmpFunc). No conditions. -/
import Derived.Test.YtfiebjbhiflfpaaDoorSxJPCgtoPCj
import Derived.Test.YtfiebjbhiflfpaaDoorSxJJAtoKI
import Derived.Test.YtfiebjbhiflfpaaDoorSxJSttoSd
import Derived.Test.YtfiebjbhiflfpaaDoorSxPCf
set_option linter.unusedVariables false
set_option linter.unusedSimpArgs false
set_option maxRecDepth 4000
namespace Go.Sx.Ch
open Go Go.Sx Go.Proofs
section
variable {cf : Nat}
@[simp] theorem idsL_lls9 : ∀ l : List (List Int), idsL (lls l) = []
  | [] => rfl
  | x :: l => by rw [lls_cons]; simp [idsL, ids, idsL_lls9 l]
@[simp] theorem inL_lls9 (p : Nat → Bool) : ∀ l : List (List Int), Go.Sx.inL p (lls l) = true
  | [] => rfl
  | x :: l => by rw [lls_cons]; simp [Go.Sx.inL, Go.Sx.inA, inL_lls9 p l]
def hdB (l : List Int) : Bool := decide (l.length ≠ 0) && within (-1000) (l.getD 0 0) 1000
set_option maxHeartbeats 4000000
def s92 : Sp := spT 92 [.l, .l] fun (a : List Int) (b : List Int) => res (hdB a && hdB b) (vI (a.getD 0 0 - b.getD 0 0))
@[simp] theorem s92_g : s92.g = 92 := rfl
@[simp] theorem s92_f : s92.f = (spT 92 [.l, .l] fun (a : List Int) (b : List Int) => res (hdB a && hdB b) (vI (a.getD 0 0 - b.getD 0 0))).f := rfl
theorem s92_ok : s92.ok Tryd.prog := by
  apply spT_ok
  simp only [OkT, Ty.all, List.nil_append, List.cons_append]
  intro (a : List Int) u (b : List Int) v
  apply okT_res; intro hg
  refine P92.rz (ss := []) trivial (by simp) fun Q hQ => ?_
  delta p92 p92_r0 p92_r1
  simp only [hdB, Bool.and_eq_true, decide_eq_true_eq, within_iff] at hg
  obtain ⟨⟨ha, ha1, ha2⟩, hb, hb1, hb2⟩ := hg
  rcases a with _ | ⟨x, a⟩
  · simp at ha
  rcases b with _ | ⟨y, b⟩
  · simp at hb
  simp only [List.getD_cons_zero] at ha1 ha2 hb1 hb2 hQ
  simp (disch := omega) [oLt, oLe, oLtN, oLeN, nLt, nLe, nLtN, nLeN]
  exact hQ _ _ (.p (.inl rfl) (by simp) rfl)
def gM (M : List (List Int)) : Bool := decide (M.length ≤ 64) && M.all hdB
theorem gM_perm {M N : List (List Int)} (h : gM M = true) (p : N.Perm M) : gM N = true := by
  simp only [gM, Bool.and_eq_true, decide_eq_true_eq, List.all_eq_true] at *
  exact ⟨by rw [p.length_eq]; exact h.1, fun l hl => h.2 l (p.mem_iff.1 hl)⟩
theorem gM_at {M : List (List Int)} (h : gM M = true) {i : Nat} (hi : i < M.length) : ∃ (l : List Int) (u : Int), M[i]? = some l ∧ (lls M)[i]? = some (.il (ints l) l.length false) ∧ hdB l = true ∧ kx M i = u ∧ M.getD i [] = l ∧ l[0]?.getD 0 = u ∧ -1000 ≤ u ∧ u ≤ 1000 := by
  simp only [gM, Bool.and_eq_true, decide_eq_true_eq, List.all_eq_true] at h
  have hb := h.2 _ (List.getElem_mem hi)
  have e : M.getD i [] = M[i] := by rw [List.getD_eq_getElem?_getD, List.getElem?_eq_getElem hi]; rfl
  refine ⟨M[i], (M[i]).getD 0 0, List.getElem?_eq_getElem hi, by simp [List.getElem?_eq_getElem hi, eL], hb, by unfold kx; rw [e], e, (List.getD_eq_getElem?_getD).symm, ?_⟩
  simp only [hdB, Bool.and_eq_true, within_iff] at hb
  exact hb.2
theorem lls_swp {M : List (List Int)} {i j : Nat} {a b : List Int} (hi : i < M.length) (hj : j < M.length) (ha : M.getD i [] = a) (hb : M.getD j [] = b) : splice (splice (lls M) i [.il (ints b) b.length false]) j [.il (ints a) a.length false] = lls (swp M i j) := by
  rw [splice_one (lls M) i _ (by simp; omega), splice_one ((lls M).set i _) j _ (by simp; omega)]
  unfold swp
  rw [ha, hb]
  simp [lls, eL, List.map_set]
def cmpN (c : Nat) : Bool := decide (c = 92 ∨ c = 63)
def s63 : Sp := spT 63 [.l, .l] fun (a : List Int) (b : List Int) => res (hdB a && hdB b) (vI (a.getD 0 0 - b.getD 0 0))
@[simp] theorem s63_g : s63.g = 63 := rfl
@[simp] theorem s63_f : s63.f = (spT 63 [.l, .l] fun (a : List Int) (b : List Int) => res (hdB a && hdB b) (vI (a.getD 0 0 - b.getD 0 0))).f := rfl
theorem s63_ok : s63.ok Tryd.prog := by
  apply spT_ok
  simp only [OkT, Ty.all, List.nil_append, List.cons_append]
  intro (a : List Int) u (b : List Int) v
  apply okT_res; intro hg
  refine P63.rz (ss := []) trivial (by simp) fun Q hQ => ?_
  delta p63 p63_r0 p63_r1
  simp only [hdB, Bool.and_eq_true, decide_eq_true_eq, within_iff] at hg
  obtain ⟨⟨ha, ha1, ha2⟩, hb, hb1, hb2⟩ := hg
  rcases a with _ | ⟨x, a⟩
  · simp at ha
  rcases b with _ | ⟨y, b⟩
  · simp at hb
  simp only [List.getD_cons_zero] at ha1 ha2 hb1 hb2 hQ
  simp (disch := omega) [oLt, oLe, oLtN, oLeN, nLt, nLe, nLtN, nLeN]
  exact hQ _ _ (.p (.inl rfl) (by simp) rfl)
def sC (c : Nat) : Sp := spT c [.l, .l] fun (a : List Int) (b : List Int) => res (hdB a && hdB b) (vI (a.getD 0 0 - b.getD 0 0))
@[simp] theorem sC_g (c : Nat) : (sC c).g = c := rfl
@[simp] theorem sC_f (c : Nat) : (sC c).f = (spT c [.l, .l] fun (a : List Int) (b : List Int) => res (hdB a && hdB b) (vI (a.getD 0 0 - b.getD 0 0))).f := rfl
theorem sC_ok {c : Nat} (h : cmpN c = true) : (sC c).ok Tryd.prog := by
  simp only [cmpN, decide_eq_true_eq] at h
  rcases h with rfl | rfl
  · exact s92_ok
  · exact s63_ok
theorem cmp_94 {c : Nat} (h : cmpN c = true) : (94 = c) = False := by simp only [cmpN, decide_eq_true_eq] at h; apply eq_false; omega
theorem cmp_104 {c : Nat} (h : cmpN c = true) : (104 = c) = False := by simp only [cmpN, decide_eq_true_eq] at h; apply eq_false; omega
theorem cmp_106 {c : Nat} (h : cmpN c = true) : (106 = c) = False := by simp only [cmpN, decide_eq_true_eq] at h; apply eq_false; omega
theorem cmp_107 {c : Nat} (h : cmpN c = true) : (107 = c) = False := by simp only [cmpN, decide_eq_true_eq] at h; apply eq_false; omega
theorem cmp_109 {c : Nat} (h : cmpN c = true) : (109 = c) = False := by simp only [cmpN, decide_eq_true_eq] at h; apply eq_false; omega
theorem cmp_111 {c : Nat} (h : cmpN c = true) : (111 = c) = False := by simp only [cmpN, decide_eq_true_eq] at h; apply eq_false; omega
abbrev fnC (c : Nat) : AV := .fn (.func c) [] []
theorem l0_104 {a b i n j0 : Nat} {N0 T : List (List Int)} {s0 : ST} {Q : Exit → ST → Prop} (hT : insJ a j0 N0 = T) (hg : gM N0 = true) (hn : N0.length = n) (hj : j0 < n)
    (hs0 : ChgT 1 s0 ⟨[(0, .ref 0 0 n 1 none), (1, vI a), (2, vI b), (3, (fnC cf)), (8, vI i), (9, vI j0)], [(0, .cells (lls N0))], 1⟩)
    (hq : Q (.exit 2) ⟨[(0, .ref 0 0 n 1 none), (1, vI a), (2, vI b), (3, (fnC cf)), (8, vI i)], [(0, .cells (lls T))], 1⟩) : XZ (rZ (spc [sC cf])) 1 (.loop p104_l0) s0 Q := by
  refine XZ_for (fun q : Nat × List (List Int) => ⟨[(0, .ref 0 0 n 1 none), (1, vI a), (2, vI b), (3, (fnC cf)), (8, vI i), (9, vI q.1)], [(0, .cells (lls q.2))], 1⟩) (fun q => q.1) (fun q => insJ a q.1 q.2 = T ∧ gM q.2 = true ∧ q.2.length = n ∧ q.1 < n) (j0, N0) ⟨hT, hg, hn, hj⟩ hs0 ?_
  rintro ⟨j, N⟩ ⟨hinv, hg, hn, hj⟩ N' Q' hN hE
  simp only at hinv hg hn hj hN ⊢
  have h64 : n ≤ 64 := by simp only [gM, Bool.and_eq_true, decide_eq_true_eq] at hg; omega
  by_cases haj : a < j
  · obtain ⟨j, rfl⟩ : ∃ k, j = k + 1 := ⟨j - 1, by omega⟩
    have hac : (a : Int) < (j : Int) + 1 := by omega
    have h1 : j + 1 < N.length := by omega
    have h2 : j < N.length := by omega
    obtain ⟨x, u, x1, x2, x3, x4, x5, x6, x7, x8⟩ := gM_at hg h1
    obtain ⟨y, v, y1, y2, y3, y4, y5, y6, y7, y8⟩ := gM_at hg h2
    have x2' := (List.getElem?_eq_some_iff.1 x2).2
    have y2' := (List.getElem?_eq_some_iff.1 y2).2
    have htn : ((j : Int) + 1).toNat = j + 1 := by omega
    have hjc : (j : Int) + 1 < n := by omega
    have hjc2 : (j : Int) < n := by omega
    have hll : (lls N).length = n := by simp [hn]
    have h1' : j + 1 < n := by omega
    have h2' : j < n := by omega
    simp only [insJ, x4, y4] at hinv
    have hsw := lls_swp h1 h2 x5 y5
    have hsl : (splice (lls N) (j + 1) [.il (ints y) y.length false]).length = n := by rw [splice_one _ _ _ (by simp; omega)]; simp [hn]
    refine XZ_seqG (XZ_seqG (XZ_drawG ?_))
    delta p104_r3
    refine zD_cut 4 ?_ ?_ (fun K_ hK => ?_) ?_
    rotate_left 2
    · simp only [List.take_succ_cons, List.take_zero]
      simp (disch := omega) [oLt, oLe, oLtN, oLeN, nLt, nLe, nLtN, nLeN, hac]
      exact hK
    simp only [List.drop_succ_cons, List.drop_zero]
    refine zD_cut 5 ?_ ?_ (fun K_ hK => ?_) ?_
    rotate_left 2
    · simp only [List.take_succ_cons, List.take_zero]
      simp (disch := omega) [oLt, oLe, oLtN, oLeN, nLt, nLe, nLtN, nLeN, htn, hjc, h1', x2, x2', hll]
      exact hK
    simp only [List.drop_succ_cons, List.drop_zero]
    refine zD_cut 5 ?_ ?_ (fun K_ hK => ?_) ?_
    rotate_left 2
    · simp only [List.take_succ_cons, List.take_zero]
      simp (disch := omega) [oLt, oLe, oLtN, oLeN, nLt, nLe, nLtN, nLeN, htn, hjc2, h2', y2, y2', hll]
      exact hK
    simp only [List.drop_succ_cons, List.drop_zero]
    refine zD_cut 1 ?_ ?_ (fun K_ hK => ?_) ?_
    rotate_left 2
    · simp only [List.take_succ_cons, List.take_zero]
      simp (disch := omega) [oLt, oLe, oLtN, oLeN, nLt, nLe, nLtN, nLeN, x3, y3, x6, y6]
      exact hK
    simp only [List.drop_succ_cons, List.drop_zero]
    by_cases hlt : u < v
    · rw [if_pos ⟨haj, hlt⟩] at hinv
      have hdf : u - v < 0 := by omega
      refine zD_cut 2 ?_ ?_ (fun K_ hK => ?_) ?_
      rotate_left 2
      · simp only [List.take_succ_cons, List.take_zero]
        simp (disch := omega) [oLt, oLe, oLtN, oLeN, nLt, nLe, nLtN, nLeN, hdf]
        exact hK
      simp only [List.drop_succ_cons, List.drop_zero]
      refine goD_ok (by decide) ?_
      simp (disch := omega) [oLt, oLe, oLtN, oLeN, nLt, nLe, nLtN, nLeN]
      delta p104_r4
      refine zD_cut 8 ?_ ?_ (fun K_ hK => ?_) ?_
      rotate_left 2
      · simp only [List.take_succ_cons, List.take_zero]
        simp (disch := omega) [oLt, oLe, oLtN, oLeN, nLt, nLe, nLtN, nLeN]
        exact hK
      simp only [List.drop_succ_cons, List.drop_zero]
      refine zD_cut 2 ?_ ?_ (fun K_ hK => ?_) ?_
      rotate_left 2
      · simp only [List.take_succ_cons, List.take_zero]
        simp (disch := omega) [oLt, oLe, oLtN, oLeN, nLt, nLe, nLtN, nLeN, hjc2, h2', y2, y2', hll]
        exact hK
      simp only [List.drop_succ_cons, List.drop_zero]
      refine zD_cut 4 ?_ ?_ (fun K_ hK => ?_) ?_
      rotate_left 2
      · simp only [List.take_succ_cons, List.take_zero]
        simp (disch := omega) [oLt, oLe, oLtN, oLeN, nLt, nLe, nLtN, nLeN, htn, hjc, h1', x2, x2', hll]
        exact hK
      simp only [List.drop_succ_cons, List.drop_zero]
      refine zD_cut 2 ?_ ?_ (fun K_ hK => ?_) ?_
      rotate_left 2
      · simp only [List.take_succ_cons, List.take_zero]
        simp (disch := omega) [oLt, oLe, oLtN, oLeN, nLt, nLe, nLtN, nLeN, htn, hjc, h1', hll]
        exact hK
      simp only [List.drop_succ_cons, List.drop_zero]
      refine zD_cut 2 ?_ ?_ (fun K_ hK => ?_) ?_
      rotate_left 2
      · simp only [List.take_succ_cons, List.take_zero]
        simp (disch := omega) [oLt, oLe, oLtN, oLeN, nLt, nLe, nLtN, nLeN, hjc2, h2', hsl, hsw]
        exact hK
      simp only [List.drop_succ_cons, List.drop_zero]
      refine goD_ok (by decide) ?_
      simp (disch := omega) [oLt, oLe, oLtN, oLeN, nLt, nLe, nLtN, nLeN]
      delta p104_r5
      simp (disch := omega) [oLt, oLe, oLtN, oLeN, nLt, nLe, nLtN, nLeN]
      exact hN _ (j, swp N (j + 1) j) (by simp only; omega) ⟨hinv, gM_perm hg (swp_perm h1 h2), by simpa using hn, by simp only; omega⟩ (.tot [] (by simp [hsw]))
    · rw [if_neg (fun h => hlt h.2)] at hinv
      rw [← hinv] at hq
      have hdf : ¬ u - v < 0 := by omega
      refine zD_cut 2 ?_ ?_ (fun K_ hK => ?_) ?_
      rotate_left 2
      · simp only [List.take_succ_cons, List.take_zero]
        simp (disch := omega) [oLt, oLe, oLtN, oLeN, nLt, nLe, nLtN, nLeN, hdf]
        exact hK
      simp only [List.drop_succ_cons, List.drop_zero]
      refine goD_ok (by decide) ?_
      simp (disch := omega) [oLt, oLe, oLtN, oLeN, nLt, nLe, nLtN, nLeN]
      exact hE _ _ _ (.tot [] (by simp)) hq
  · have hac : ¬ (a : Int) < j := by omega
    have hr : insJ a j N = N := by
      cases j with
      | zero => rfl
      | succ j => simp only [insJ]; rw [if_neg (fun h => haj h.1)]
    rw [hr] at hinv
    rw [← hinv] at hq
    clear hN
    delta p104_l0 p104_r3 p104_r4 p104_r5
    simp (disch := omega) [oLt, oLe, oLtN, oLeN, nLt, nLe, nLtN, nLeN, hac]
    exact hE _ _ _ (.tot [] (by simp)) hq
theorem insK_gM {a : Nat} {M : List (List Int)} (hg : gM M = true) : ∀ {k : Nat}, a + k < M.length → gM (insK a M k) = true ∧ (insK a M k).length = M.length
  | 0, _ => ⟨hg, rfl⟩
  | k + 1, h => by
    obtain ⟨h1, h2⟩ := insK_gM (a := a) hg (k := k) (by omega)
    have hr := insJ_rg (a := a) (b := M.length) (j := a + k + 1) (M := insK a M k) (by omega) (by omega)
    simp only [insK]
    exact ⟨gM_perm h1 hr.perm, by rw [hr.len, h2]⟩
def f104 : List AV → HL → Nat → Option (AV × HL × Nat) := fun args h k => match args, h, k with
  | [.ref 0 0 n 1 none, .v (.int .i64 a), .v (.int .i64 b), .fn (.func cf) [] []], [(0, .cells cs)], 1 => match unlls cs with
    | some M => if cmpN cf = true ∧ n = M.length ∧ gM M = true ∧ 0 ≤ a ∧ a ≤ b ∧ b ≤ n then some (.tup [], [(0, .cells (lls (srtOn a.toNat b.toNat M)))], 1) else none
    | none => none
  | _, _, _ => none
def s104 : Sp := ⟨104, f104⟩
@[simp] theorem s104_g : s104.g = 104 := rfl
@[simp] theorem s104_f : s104.f = f104 := rfl
theorem f104_at {M : List (List Int)} {n a b : Nat} {cf : Nat} (hcm : cmpN cf = true) (hn : n = M.length) (hg : gM M = true) (ha : a ≤ b) (hb : b ≤ n) :
    f104 [.ref 0 0 n 1 none, vI a, vI b, (fnC cf)] [(0, .cells (lls M))] 1 = some (.tup [], [(0, .cells (lls (srtOn a b M)))], 1) := by
  simp only [f104, unlls_lls]
  rw [if_pos ⟨hcm, hn, hg, by omega, by omega, by omega⟩]
  simp only [Int.toNat_natCast]
theorem s104_ok : s104.ok Tryd.prog := by
  intro args h k r h' k' hh
  simp only [s104_f, f104] at hh
  split at hh
  · rename_i n a b cf cs
    split at hh
    · rename_i M hl
      split at hh
      · rename_i hc
        obtain ⟨hcm, hn, hg, a1, ab, bn⟩ := hc
        cases hh
        rw [unlls_inv hl]
        obtain ⟨a, rfl⟩ := Int.eq_ofNat_of_zero_le a1
        obtain ⟨b, rfl⟩ := Int.eq_ofNat_of_zero_le (show 0 ≤ b by omega)
        simp only [Int.toNat_natCast]
        have hn2 : M.length = n := hn.symm
        have h64 : n ≤ 64 := by simp only [gM, Bool.and_eq_true, decide_eq_true_eq] at hg; omega
        simp only [hp_eq]
        refine P104.rz (ss := [sC cf]) ⟨sC_ok hcm, trivial⟩ (by simp) fun Q hQ => ?_
        delta p104 p104_r0
        simp (disch := omega) [oLt, oLe, oLtN, oLeN, nLt, nLe, nLtN, nLeN]
        refine XZ_for (fun k : Nat => ⟨[(0, .ref 0 0 n 1 none), (1, vI a), (2, vI b), (3, (fnC cf)), (8, vI ((a : Int) + 1 + k))], [(0, .cells (lls (insK a M k)))], 1⟩) (fun k => b - k) (fun k => k ≤ b - a - 1) 0 (Nat.zero_le _) (.tot [] (by simp [insK])) ?_
        intro k hk N Q' hN hE
        by_cases hkb : a + 1 + k < b
        · have hkc : (a : Int) + 1 + k < b := by omega
          obtain ⟨g1, g2⟩ := insK_gM (a := a) hg (k := k) (by omega)
          have fin : ∀ s', ChgT 1 s' ⟨[(0, .ref 0 0 n 1 none), (1, vI a), (2, vI b), (3, (fnC cf)), (8, vI ((a : Int) + 1 + k + 1))], [(0, .cells (lls (insJ a (a + k + 1) (insK a M k))))], 1⟩ → N s' := fun s' hh => hN s' (k + 1) (by omega) (by omega) (by
            have e : (a : Int) + 1 + ((k + 1 : Nat) : Int) = (a : Int) + 1 + k + 1 := by omega
            simp only [e]; exact hh)
          clear hN hE hQ
          have e8 : (a : Int) + 1 + k = ((a + k + 1 : Nat) : Int) := by omega
          delta p104_l1 p104_r1 p104_r2
          simp (disch := omega) [oLt, oLe, oLtN, oLeN, nLt, nLe, nLtN, nLeN, hkc]
          refine l0_104 (a := a) (b := b) (i := a + k + 1) (n := n) (j0 := a + k + 1) rfl g1 (by omega) (by omega) (.tot [] (by simp; omega)) ?_
          simp only [inBE, thenE, if_true]
          delta p104_r6
          simp (disch := omega) [oLt, oLe, oLtN, oLeN, nLt, nLe, nLtN, nLeN]
          exact fin _ (.tot [] (by simp; omega))
        · have hkc : ¬ (a : Int) + 1 + k < b := by omega
          have e : k = b - a - 1 := by omega
          have hs : insK a M k = srtOn a b M := by unfold srtOn; rw [e]
          rw [hs]
          clear hN
          delta p104_l1 p104_r1 p104_r2
          simp (disch := omega) [oLt, oLe, oLtN, oLeN, nLt, nLe, nLtN, nLeN, hkc]
          exact hE _ _ _ .refl (hQ _ _ (EndsP_at [0] (.inr rfl) (by simp) rfl (by simp) rfl (by simp)))
      · cases hh
    · cases hh
  · cases hh
end
section
variable {cf : Nat}
attribute [local simp] evCall reach idsB idsL ids inA Go.Sx.inL Go.Sx.inM inB allHp enumH gl renB
def ord2 (M : List (List Int)) (a b s : Nat) : Nat × Nat × Nat := if kx M b < kx M a then (b, a, s + 1) else (a, b, s)
def med3 (M : List (List Int)) (a b c s : Nat) : Nat × Nat :=
  ((ord2 M (ord2 M a b s).1 (ord2 M (ord2 M a b s).2.1 c (ord2 M a b s).2.2).1 (ord2 M (ord2 M a b s).2.1 c (ord2 M a b s).2.2).2.2).2.1,
   (ord2 M (ord2 M a b s).1 (ord2 M (ord2 M a b s).2.1 c (ord2 M a b s).2.2).1 (ord2 M (ord2 M a b s).2.1 c (ord2 M a b s).2.2).2.2).2.2)
theorem ord2_or (M : List (List Int)) (a b s : Nat) : (((ord2 M a b s).1 = a ∧ (ord2 M a b s).2.1 = b) ∨ ((ord2 M a b s).1 = b ∧ (ord2 M a b s).2.1 = a)) ∧ s ≤ (ord2 M a b s).2.2 ∧ (ord2 M a b s).2.2 ≤ s + 1 := by
  unfold ord2; split
  · exact ⟨.inr ⟨rfl, rfl⟩, by simp, by simp⟩
  · exact ⟨.inl ⟨rfl, rfl⟩, by simp, by simp⟩
def f119 : List AV → HL → Nat → Option (AV × HL × Nat) := fun args h k => match args, h, k with
  | [.ref 0 0 n 1 none, .v (.int .i64 a), .v (.int .i64 b), .ptr 1 0, .fn (.func cf) [] []], [(0, .cells cs), (1, .cells [.v (.int .i64 s)])], 2 => match unlls cs with
    | some M => if cmpN cf = true ∧ n = M.length ∧ gM M = true ∧ (0 ≤ a ∧ a < n) ∧ (0 ≤ b ∧ b < n) ∧ 0 ≤ s ∧ s ≤ 100 then some (.tup [vI (ord2 M a.toNat b.toNat s.toNat).1, vI (ord2 M a.toNat b.toNat s.toNat).2.1], [(0, .cells (lls M)), (1, .cells [vI (ord2 M a.toNat b.toNat s.toNat).2.2])], 2) else none
    | none => none
  | _, _, _ => none
def s119 : Sp := ⟨119, f119⟩
@[simp] theorem s119_g : s119.g = 119 := rfl
@[simp] theorem s119_f : s119.f = f119 := rfl
theorem f119_at {M : List (List Int)} {n a b s : Nat} {cf : Nat} (hcm : cmpN cf = true) (hn : n = M.length) (hg : gM M = true) (ha : a < n) (hb : b < n) (hs : s ≤ 100) :
    f119 [.ref 0 0 n 1 none, vI a, vI b, .ptr 1 0, (fnC cf)] [(0, .cells (lls M)), (1, .cells [vI s])] 2 = some (.tup [vI (ord2 M a b s).1, vI (ord2 M a b s).2.1], [(0, .cells (lls M)), (1, .cells [vI (ord2 M a b s).2.2])], 2) := by
  simp only [f119, unlls_lls]
  rw [if_pos ⟨hcm, hn, hg, ⟨by omega, by omega⟩, ⟨by omega, by omega⟩, by omega, by omega⟩]
  simp only [Int.toNat_natCast]
set_option maxHeartbeats 4000000
theorem s119_ok : s119.ok Tryd.prog := by
  intro args h k r h' k' hh
  simp only [s119_f, f119] at hh
  split at hh
  · rename_i n a b cf cs s
    split at hh
    · rename_i M hl
      split at hh
      · rename_i hc
        obtain ⟨hcm, hn, hg, ⟨a1, a2⟩, ⟨b1, b2⟩, c1, c2⟩ := hc
        cases hh
        rw [unlls_inv hl]
        obtain ⟨a, rfl⟩ := Int.eq_ofNat_of_zero_le a1
        obtain ⟨b, rfl⟩ := Int.eq_ofNat_of_zero_le b1
        obtain ⟨s, rfl⟩ := Int.eq_ofNat_of_zero_le c1
        simp only [Int.toNat_natCast]
        have hn2 : M.length = n := hn.symm
        have h64 : n ≤ 64 := by simp only [gM, Bool.and_eq_true, decide_eq_true_eq] at hg; omega
        have h1 : a < M.length := by omega
        have h2 : b < M.length := by omega
        obtain ⟨x, u, x1, x2, x3, x4, x5, x6, x7, x8⟩ := gM_at hg h1
        obtain ⟨y, v, y1, y2, y3, y4, y5, y6, y7, y8⟩ := gM_at hg h2
        have x2' := (List.getElem?_eq_some_iff.1 x2).2
        have y2' := (List.getElem?_eq_some_iff.1 y2).2
        have hll : (lls M).length = n := by simp [hn2]
        have a2 : (a : Int) < n := by omega
        have b2 : (b : Int) < n := by omega
        have h1' : a < n := by omega
        have h2' : b < n := by omega
        simp only [hp_eq]
        refine P119.rz (ss := [sC cf]) ⟨sC_ok hcm, trivial⟩ (by simp) fun Q hQ => ?_
        delta p119
        refine XZ_step ?_ (fun N Q_ hN => ?_) ?_
        rotate_left
        · delta p119_r0; simp (disch := omega) [oLt, oLe, oLtN, oLeN, nLt, nLe, nLtN, nLeN]
          exact hN
        refine XZ_seqG (XZ_seqG (XZ_drawG ?_))
        delta p119_r1
        refine zD_cut 5 ?_ ?_ (fun K_ hK => ?_) ?_
        rotate_left 2
        · simp only [List.take_succ_cons, List.take_zero]
          simp (disch := omega) [oLt, oLe, oLtN, oLeN, nLt, nLe, nLtN, nLeN, b2, h2', y2, y2', hll]
          exact hK
        simp only [List.drop_succ_cons, List.drop_zero]
        refine zD_cut 4 ?_ ?_ (fun K_ hK => ?_) ?_
        rotate_left 2
        · simp only [List.take_succ_cons, List.take_zero]
          simp (disch := omega) [oLt, oLe, oLtN, oLeN, nLt, nLe, nLtN, nLeN, a2, h1', x2, x2', hll]
          exact hK
        simp only [List.drop_succ_cons, List.drop_zero]
        refine zD_cut 1 ?_ ?_ (fun K_ hK => ?_) ?_
        rotate_left 2
        · simp only [List.take_succ_cons, List.take_zero]
          simp (disch := omega) [oLt, oLe, oLtN, oLeN, nLt, nLe, nLtN, nLeN, x3, y3, x6, y6]
          exact hK
        simp only [List.drop_succ_cons, List.drop_zero]
        unfold ord2 at hQ
        rw [x4, y4] at hQ
        by_cases hlt : v < u
        · rw [if_pos hlt] at hQ
          have hdf : v - u < 0 := by omega
          refine zD_cut 1 ?_ ?_ (fun K_ hK => ?_) ?_
          rotate_left 2
          · simp only [List.take_succ_cons, List.take_zero]
            simp (disch := omega) [oLt, oLe, oLtN, oLeN, nLt, nLe, nLtN, nLeN, hdf]
            exact hK
          simp only [List.drop_succ_cons, List.drop_zero]
          refine goD_ok (by decide) ?_
          simp (disch := omega) [oLt, oLe, oLtN, oLeN, nLt, nLe, nLtN, nLeN]
          delta p119_r2
          simp (disch := omega) [oLt, oLe, oLtN, oLeN, nLt, nLe, nLtN, nLeN]
          delta p119_r3
          simp (disch := omega) [oLt, oLe, oLtN, oLeN, nLt, nLe, nLtN, nLeN]
          exact hQ _ _ (EndsP_at [0, 1] (.inl rfl) (by simp) rfl (by simp) rfl (by simp))
        · rw [if_neg hlt] at hQ
          have hdf : ¬ v - u < 0 := by omega
          refine zD_cut 1 ?_ ?_ (fun K_ hK => ?_) ?_
          rotate_left 2
          · simp only [List.take_succ_cons, List.take_zero]
            simp (disch := omega) [oLt, oLe, oLtN, oLeN, nLt, nLe, nLtN, nLeN, hdf]
            exact hK
          simp only [List.drop_succ_cons, List.drop_zero]
          refine goD_ok (by decide) ?_
          simp (disch := omega) [oLt, oLe, oLtN, oLeN, nLt, nLe, nLtN, nLeN]
          delta p119_r4
          simp (disch := omega) [oLt, oLe, oLtN, oLeN, nLt, nLe, nLtN, nLeN]
          exact hQ _ _ (EndsP_at [0, 1] (.inl rfl) (by simp) rfl (by simp) rfl (by simp))
      · cases hh
    · cases hh
  · cases hh
def f118 : List AV → HL → Nat → Option (AV × HL × Nat) := fun args h k => match args, h, k with
  | [.ref 0 0 n 1 none, .v (.int .i64 a), .v (.int .i64 b), .v (.int .i64 c), .ptr 1 0, .fn (.func cf) [] []], [(0, .cells cs), (1, .cells [.v (.int .i64 s)])], 2 => match unlls cs with
    | some M => if cmpN cf = true ∧ n = M.length ∧ gM M = true ∧ (0 ≤ a ∧ a < n) ∧ (0 ≤ b ∧ b < n) ∧ (0 ≤ c ∧ c < n) ∧ 0 ≤ s ∧ s ≤ 90 then some (vI (med3 M a.toNat b.toNat c.toNat s.toNat).1, [(0, .cells (lls M)), (1, .cells [vI (med3 M a.toNat b.toNat c.toNat s.toNat).2])], 2) else none
    | none => none
  | _, _, _ => none
def s118 : Sp := ⟨118, f118⟩
@[simp] theorem s118_g : s118.g = 118 := rfl
@[simp] theorem s118_f : s118.f = f118 := rfl
theorem f118_at {M : List (List Int)} {n a b c s : Nat} {cf : Nat} (hcm : cmpN cf = true) (hn : n = M.length) (hg : gM M = true) (ha : a < n) (hb : b < n) (hc : c < n) (hs : s ≤ 90) :
    f118 [.ref 0 0 n 1 none, vI a, vI b, vI c, .ptr 1 0, (fnC cf)] [(0, .cells (lls M)), (1, .cells [vI s])] 2 = some (vI (med3 M a b c s).1, [(0, .cells (lls M)), (1, .cells [vI (med3 M a b c s).2])], 2) := by
  simp only [f118, unlls_lls]
  rw [if_pos ⟨hcm, hn, hg, ⟨by omega, by omega⟩, ⟨by omega, by omega⟩, ⟨by omega, by omega⟩, by omega, by omega⟩]
  simp only [Int.toNat_natCast]
theorem rg2 : List.range 2 = [0, 1] := rfl
theorem f119_fz {c : List AV} {n : Nat} {u : Bool} {x y z w : AV} {h : HL} {k : Nat} : f119 [.il c n u, x, y, z, w] h k = none := rfl
theorem s118_ok : s118.ok Tryd.prog := by
  intro args h k r h' k' hh
  simp only [s118_f, f118] at hh
  split at hh
  · rename_i n a b c cf cs s
    split at hh
    · rename_i M hl
      split at hh
      · rename_i hc
        obtain ⟨hcm, hn, hg, ⟨a1, a2⟩, ⟨b1, b2⟩, ⟨d1, d2⟩, c1, c2⟩ := hc
        cases hh
        rw [unlls_inv hl]
        obtain ⟨a, rfl⟩ := Int.eq_ofNat_of_zero_le a1
        obtain ⟨b, rfl⟩ := Int.eq_ofNat_of_zero_le b1
        obtain ⟨c, rfl⟩ := Int.eq_ofNat_of_zero_le d1
        obtain ⟨s, rfl⟩ := Int.eq_ofNat_of_zero_le c1
        simp only [Int.toNat_natCast]
        have h64 : n ≤ 64 := by simp only [gM, Bool.and_eq_true, decide_eq_true_eq] at hg; omega
        have k1 := f119_at hcm (s := s) hn hg (show a < n by omega) (show b < n by omega) (by omega)
        obtain ⟨o1, o2, o3⟩ := ord2_or M a b s
        unfold med3
        obtain ⟨p, hp⟩ : ∃ p, (ord2 M a b s).1 = p := ⟨_, rfl⟩
        obtain ⟨q, hq⟩ : ∃ q, (ord2 M a b s).2.1 = q := ⟨_, rfl⟩
        obtain ⟨s1, hs1⟩ : ∃ q, (ord2 M a b s).2.2 = q := ⟨_, rfl⟩
        simp only [hp, hq, hs1] at *
        have k2 := f119_at hcm (s := s1) hn hg (show q < n by omega) (show c < n by omega) (by omega)
        obtain ⟨r1, r2, r3⟩ := ord2_or M q c s1
        obtain ⟨p2, hp2⟩ : ∃ p, (ord2 M q c s1).1 = p := ⟨_, rfl⟩
        obtain ⟨q2, hq2⟩ : ∃ q', (ord2 M q c s1).2.1 = q' := ⟨_, rfl⟩
        obtain ⟨s2, hs2⟩ : ∃ q', (ord2 M q c s1).2.2 = q' := ⟨_, rfl⟩
        simp only [hp2, hq2, hs2] at *
        have k3 := f119_at hcm (s := s2) hn hg (show p < n by omega) (show p2 < n by omega) (by omega)
        obtain ⟨p3, hp3⟩ : ∃ p', (ord2 M p p2 s2).1 = p' := ⟨_, rfl⟩
        obtain ⟨q3, hq3⟩ : ∃ q', (ord2 M p p2 s2).2.1 = q' := ⟨_, rfl⟩
        obtain ⟨s3, hs3⟩ : ∃ q', (ord2 M p p2 s2).2.2 = q' := ⟨_, rfl⟩
        simp only [hp3, hq3, hs3] at *
        simp only [hp_eq]
        refine P118.rz (ss := [s119]) ⟨s119_ok, trivial⟩ (by simp) fun Q hQ => ?_
        delta p118
        refine XZ_step ?_ (fun N Q_ hN => ?_) ?_
        rotate_left
        · delta p118_r0; simp (disch := omega) [oLt, oLe, oLtN, oLeN, nLt, nLe, nLtN, nLeN]
          exact hN
        refine XZ_step ?_ (fun N Q_ hN => ?_) ?_
        rotate_left
        · delta p118_r1; simp (disch := omega) [oLt, oLe, oLtN, oLeN, nLt, nLe, nLtN, nLeN, k1, f119_fz, rg2]
          exact hN
        refine XZ_step ?_ (fun N Q_ hN => ?_) ?_
        rotate_left
        · delta p118_r2; simp (disch := omega) [oLt, oLe, oLtN, oLeN, nLt, nLe, nLtN, nLeN, k2, f119_fz, rg2]
          exact hN
        refine XZ_step ?_ (fun N Q_ hN => ?_) ?_
        rotate_left
        · delta p118_r3; simp (disch := omega) [oLt, oLe, oLtN, oLeN, nLt, nLe, nLtN, nLeN, k3, f119_fz, rg2]
          exact hN
        delta p118_r4
        simp (disch := omega) [oLt, oLe, oLtN, oLeN, nLt, nLe, nLtN, nLeN]
        exact hQ _ _ (EndsP_at [0, 1] (.inl rfl) (by simp) rfl (by simp) rfl (by simp))
      · cases hh
    · cases hh
  · cases hh
end
section
variable {cf : Nat}
attribute [local simp] evCall reach idsB idsL ids inA Go.Sx.inL Go.Sx.inM inB allHp enumH gl renB
theorem XZ_block9 {R : Rsv} {k0 id : Nat} {a : PCode} {s : ST} {Q : Exit → ST → Prop} (h : XZ R k0 a s (inBE id Q)) : XZ R k0 (.block id a) s Q := h
theorem med3_or (M : List (List Int)) (a b c s : Nat) : ((med3 M a b c s).1 = a ∨ (med3 M a b c s).1 = b ∨ (med3 M a b c s).1 = c) ∧ (med3 M a b c s).2 ≤ s + 3 := by
  unfold med3
  obtain ⟨o1, o2, o3⟩ := ord2_or M a b s
  generalize ord2 M a b s = x at *
  obtain ⟨r1, r2, r3⟩ := ord2_or M x.2.1 c x.2.2
  generalize ord2 M x.2.1 c x.2.2 = y at *
  obtain ⟨t1, t2, t3⟩ := ord2_or M x.1 y.1 y.2.2
  generalize ord2 M x.1 y.1 y.2.2 = z at *
  dsimp only
  omega
def hntN : Nat → Nat
  | 0 => 1
  | _ + 1 => 0
def chP (M : List (List Int)) (a b : Nat) : Nat × Nat := med3 M (a + (b - a) / 4) (a + (b - a) / 4 * 2) (a + (b - a) / 4 * 3) 0
def f107 : List AV → HL → Nat → Option (AV × HL × Nat) := fun args h k => match args, h, k with
  | [.ref 0 0 n 1 none, .v (.int .i64 a), .v (.int .i64 b), .fn (.func cf) [] []], [(0, .cells cs)], 1 => match unlls cs with
    | some M => if cmpN cf = true ∧ n = M.length ∧ gM M = true ∧ 0 ≤ a ∧ a + 8 ≤ b ∧ b < a + 50 ∧ b ≤ n then some (.tup [vI (chP M a.toNat b.toNat).1, vI (hntN (chP M a.toNat b.toNat).2)], [(0, .cells (lls M))], 1) else none
    | none => none
  | _, _, _ => none
def s107 : Sp := ⟨107, f107⟩
@[simp] theorem s107_g : s107.g = 107 := rfl
@[simp] theorem s107_f : s107.f = f107 := rfl
theorem f107_at {M : List (List Int)} {n a b : Nat} {cf : Nat} (hcm : cmpN cf = true) (hn : n = M.length) (hg : gM M = true) (ha : a + 8 ≤ b) (hb : b ≤ n) (h50 : b < a + 50) :
    f107 [.ref 0 0 n 1 none, vI a, vI b, (fnC cf)] [(0, .cells (lls M))] 1 = some (.tup [vI (chP M a b).1, vI (hntN (chP M a b).2)], [(0, .cells (lls M))], 1) := by
  simp only [f107, unlls_lls]
  rw [if_pos ⟨hcm, hn, hg, by omega, by omega, by omega, by omega⟩]
  simp only [Int.toNat_natCast]
set_option maxHeartbeats 4000000
theorem s107_ok : s107.ok Tryd.prog := by
  intro args h k r h' k' hh
  simp only [s107_f, f107] at hh
  split at hh
  · rename_i n a b cf cs
    split at hh
    · rename_i M hl
      split at hh
      · rename_i hc
        obtain ⟨hcm, hn, hg, a1, ab, ab2, bn⟩ := hc
        cases hh
        rw [unlls_inv hl]
        obtain ⟨a, rfl⟩ := Int.eq_ofNat_of_zero_le a1
        obtain ⟨b, rfl⟩ := Int.eq_ofNat_of_zero_le (show 0 ≤ b by omega)
        simp only [Int.toNat_natCast]
        have h64 : n ≤ 64 := by simp only [gM, Bool.and_eq_true, decide_eq_true_eq] at hg; omega
        unfold chP
        obtain ⟨l, hl2⟩ : ∃ l, b - a = l := ⟨_, rfl⟩
        rw [hl2]
        have hlc : (b : Int) - a = l := by omega
        have hq4 : (l : Int) / 4 = ((l / 4 : Nat) : Int) := by omega
        obtain ⟨q, hq⟩ : ∃ q, l / 4 = q := ⟨_, rfl⟩
        rw [hq] at hq4 ⊢
        have hql : q * 4 ≤ l := by omega
        have hi : (a : Int) + q = ((a + q : Nat) : Int) := by omega
        have hj : (a : Int) + (q : Int) * 2 = ((a + q * 2 : Nat) : Int) := by omega
        have hk : (a : Int) + (q : Int) * 3 = ((a + q * 3 : Nat) : Int) := by omega
        have k1 := f118_at hcm (s := 0) hn hg (show a + q < n by omega) (show a + q * 2 < n by omega) (show a + q * 3 < n by omega) (by omega)
        obtain ⟨o1, o2⟩ := med3_or M (a + q) (a + q * 2) (a + q * 3) 0
        have hqw : wrapF IntKind.i64 (q : Int) = q := wrapF_i64 (by omega) (by omega)
        generalize a + q = i at *
        generalize a + q * 2 = j at *
        generalize a + q * 3 = kk at *
        obtain ⟨p, hp⟩ : ∃ p, (med3 M i j kk 0).1 = p := ⟨_, rfl⟩
        obtain ⟨s, hs⟩ : ∃ p, (med3 M i j kk 0).2 = p := ⟨_, rfl⟩
        rw [hp, hs] at k1
        rw [hp, hs]
        rw [hs] at o2
        have e0 : ((0 : Nat) : Int) = 0 := rfl
        rw [e0] at k1
        have l8 : (8 : Int) ≤ l := by omega
        have l50 : ¬ (50 : Int) ≤ l := by omega
        have s12 : ¬ (s : Int) = 12 := by omega
        simp only [hp_eq]
        refine P107.rz (ss := [s118]) ⟨s118_ok, trivial⟩ (by simp) fun Q hQ => ?_
        delta p107
        refine XZ_step ?_ (fun N Q_ hN => ?_) ?_
        rotate_left
        · delta p107_r0; simp (disch := omega) [oLt, oLe, oLtN, oLeN, nLt, nLe, nLtN, nLeN]
          exact hN
        refine XZ_step ?_ (fun N Q_ hN => ?_) ?_
        rotate_left
        · delta p107_r1; simp (disch := omega) [oLt, oLe, oLtN, oLeN, nLt, nLe, nLtN, nLeN, hlc]
          exact hN
        refine XZ_step ?_ (fun N Q_ hN => ?_) ?_
        rotate_left
        · delta p107_r2; simp (disch := omega) [oLt, oLe, oLtN, oLeN, nLt, nLe, nLtN, nLeN]
          exact hN
        refine XZ_step ?_ (fun N Q_ hN => ?_) ?_
        rotate_left
        · delta p107_r3; simp (disch := omega) [oLt, oLe, oLtN, oLeN, nLt, nLe, nLtN, nLeN, hq4, hqw, hi]
          exact hN
        refine XZ_step ?_ (fun N Q_ hN => ?_) ?_
        rotate_left
        · delta p107_r4; simp (disch := omega) [oLt, oLe, oLtN, oLeN, nLt, nLe, nLtN, nLeN, hq4, hqw, hj]
          exact hN
        refine XZ_step ?_ (fun N Q_ hN => ?_) ?_
        rotate_left
        · delta p107_r5; simp (disch := omega) [oLt, oLe, oLtN, oLeN, nLt, nLe, nLtN, nLeN, hq4, hqw, hk]
          exact hN
        refine XZ_step ?_ (fun N Q_ hN => ?_) ?_
        rotate_left
        · refine XZ_regG ?_
          delta p107_r6
          simp (disch := omega) [oLt, oLe, oLtN, oLeN, nLt, nLe, nLtN, nLeN, l8]
          delta p107_r7
          simp (disch := omega) [oLt, oLe, oLtN, oLeN, nLt, nLe, nLtN, nLeN, l50]
          delta p107_r11
          simp (disch := omega) [oLt, oLe, oLtN, oLeN, nLt, nLe, nLtN, nLeN, k1, rg2]
          exact hN
        refine XZ_step ?_ (fun N Q_ hN => ?_) ?_
        rotate_left
        · delta p107_r12; simp (disch := omega) [oLt, oLe, oLtN, oLeN, nLt, nLe, nLtN, nLeN]
          exact hN
        refine XZ_block9 ?_
        delta p107_r13
        rcases s with _ | s
        · simp (disch := omega) [oLt, oLe, oLtN, oLeN, nLt, nLe, nLtN, nLeN]
          delta p107_r14
          simp (disch := omega) [oLt, oLe, oLtN, oLeN, nLt, nLe, nLtN, nLeN]
          exact hQ _ _ (EndsP_at [0] (.inl rfl) (by simp [hntN]) rfl (by simp) rfl (by simp))
        · have s0 : ¬ (s : Int) + 1 = 0 := by omega
          have s12' : ¬ (s : Int) + 1 = 12 := by omega
          simp (disch := omega) [oLt, oLe, oLtN, oLeN, nLt, nLe, nLtN, nLeN, s0]
          delta p107_r15
          simp (disch := omega) [oLt, oLe, oLtN, oLeN, nLt, nLe, nLtN, nLeN, s12']
          delta p107_r17
          simp (disch := omega) [oLt, oLe, oLtN, oLeN, nLt, nLe, nLtN, nLeN]
          exact hQ _ _ (EndsP_at [0] (.inl rfl) (by simp [hntN]) rfl (by simp) rfl (by simp))
      · cases hh
    · cases hh
  · cases hh
end
section
variable {cf : Nat}
def asc (M : List (List Int)) (b : Nat) : Nat → Nat → Nat
  | 0, i => i
  | f + 1, i => if i < b ∧ ¬ kx M i < kx M (i - 1) then asc M b f (i + 1) else i
theorem asc_ok (M : List (List Int)) (b : Nat) : ∀ (f i : Nat), i + f = b → asc M b f i ≤ b ∧ ∀ p, i ≤ p → p < asc M b f i → ¬ kx M p < kx M (p - 1)
  | 0, i, h => ⟨by simp only [asc]; omega, fun p h1 h2 => by simp only [asc] at h2; omega⟩
  | f + 1, i, h => by
    simp only [asc]
    by_cases hc : i < b ∧ ¬ kx M i < kx M (i - 1)
    · rw [if_pos hc]
      obtain ⟨h1, h2⟩ := asc_ok M b f (i + 1) (by omega)
      refine ⟨h1, fun p hp hp2 => ?_⟩
      by_cases e : p = i
      · rw [e]; exact hc.2
      · exact h2 p (by omega) hp2
    · rw [if_neg hc]
      exact ⟨by omega, fun p h1 h2 => by omega⟩
def srtB (M : List (List Int)) (a b : Nat) : Bool := decide (asc M b (b - (a + 1)) (a + 1) = b)
theorem srtB_srt {M : List (List Int)} {a b : Nat} (hd : Dst M) (hab : a < b) (hb : b ≤ M.length) (h : srtB M a b = true) : Srt a b M := by
  unfold srtB at h
  rw [decide_eq_true_eq] at h
  obtain ⟨-, h2⟩ := asc_ok M b (b - (a + 1)) (a + 1) (by omega)
  rw [h] at h2
  have step : ∀ p, a ≤ p → p + 1 < b → kx M p < kx M (p + 1) := fun p hp hpb => by
    have h3 := h2 (p + 1) (by omega) hpb
    rw [Nat.add_sub_cancel] at h3
    have : kx M (p + 1) ≠ kx M p := fun e => by have := hd _ _ (by omega) (by omega) e; omega
    omega
  have key : ∀ d p, a ≤ p → p + d + 1 < b → kx M p < kx M (p + d + 1) := by
    intro d
    induction d with
    | zero => intro p hp hpb; exact step p hp hpb
    | succ d ih =>
      intro p hp hpb
      have := ih p hp (by omega)
      have := step (p + d + 1) (by omega) (by omega)
      rw [show p + (d + 1) + 1 = p + d + 1 + 1 by omega]; omega
  intro p q hp hpq hq
  have := key (q - p - 1) p hp (by omega)
  rw [show p + (q - p - 1) + 1 = q by omega] at this
  exact this
set_option maxHeartbeats 4000000
theorem l0_109 {a b i0 n T : Nat} {M : List (List Int)} {s0 : ST} {Q : Exit → ST → Prop} (hT : asc M b (b - i0) i0 = T) (hg : gM M = true) (hn : M.length = n) (hi0 : 0 < i0 ∧ i0 ≤ b) (hb : b ≤ n)
    (hs0 : ChgT 1 s0 ⟨[(0, .ref 0 0 n 1 none), (1, vI a), (2, vI b), (3, (fnC cf)), (9, vI i0), (10, vI 0)], [(0, .cells (lls M))], 1⟩)
    (hq : Q (.exit 2) ⟨[(0, .ref 0 0 n 1 none), (1, vI a), (2, vI b), (3, (fnC cf)), (9, vI T), (10, vI 0)], [(0, .cells (lls M))], 1⟩) : XZ (rZ (spc [sC cf])) 1 (.loop p109_l0) s0 Q := by
  refine XZ_for (fun i : Nat => ⟨[(0, .ref 0 0 n 1 none), (1, vI a), (2, vI b), (3, (fnC cf)), (9, vI i), (10, vI 0)], [(0, .cells (lls M))], 1⟩) (fun i => b - i) (fun i => asc M b (b - i) i = T ∧ 0 < i ∧ i ≤ b) i0 ⟨hT, hi0⟩ hs0 ?_
  rintro i ⟨hinv, h0, hib⟩ N' Q' hN hE
  have h64 : n ≤ 64 := by simp only [gM, Bool.and_eq_true, decide_eq_true_eq] at hg; omega
  obtain ⟨i, rfl⟩ : ∃ k, i = k + 1 := ⟨i - 1, by omega⟩
  by_cases hlt : i + 1 < b
  · have hac : (i : Int) + 1 < b := by omega
    have h1 : i + 1 < M.length := by omega
    have h2 : i < M.length := by omega
    obtain ⟨x, u, x1, x2, x3, x4, x5, x6, x7, x8⟩ := gM_at hg h1
    obtain ⟨y, v, y1, y2, y3, y4, y5, y6, y7, y8⟩ := gM_at hg h2
    have x2' := (List.getElem?_eq_some_iff.1 x2).2
    have y2' := (List.getElem?_eq_some_iff.1 y2).2
    have htn : ((i : Int) + 1).toNat = i + 1 := by omega
    have hjc : (i : Int) + 1 < n := by omega
    have hjc2 : (i : Int) < n := by omega
    have hll : (lls M).length = n := by simp [hn]
    have h1' : i + 1 < n := by omega
    have h2' : i < n := by omega
    have e : b - (i + 1) = (b - (i + 1 + 1)) + 1 := by omega
    rw [e] at hinv
    simp only [asc, x4, Nat.add_sub_cancel, y4] at hinv
    refine XZ_seqG (XZ_seqG (XZ_drawG ?_))
    delta p109_r4
    refine zD_cut 4 ?_ ?_ (fun K_ hK => ?_) ?_
    rotate_left 2
    · simp only [List.take_succ_cons, List.take_zero]
      simp (disch := omega) [oLt, oLe, oLtN, oLeN, nLt, nLe, nLtN, nLeN, hac]
      exact hK
    simp only [List.drop_succ_cons, List.drop_zero]
    refine zD_cut 5 ?_ ?_ (fun K_ hK => ?_) ?_
    rotate_left 2
    · simp only [List.take_succ_cons, List.take_zero]
      simp (disch := omega) [oLt, oLe, oLtN, oLeN, nLt, nLe, nLtN, nLeN, htn, hjc, h1', x2, x2', hll]
      exact hK
    simp only [List.drop_succ_cons, List.drop_zero]
    refine zD_cut 5 ?_ ?_ (fun K_ hK => ?_) ?_
    rotate_left 2
    · simp only [List.take_succ_cons, List.take_zero]
      simp (disch := omega) [oLt, oLe, oLtN, oLeN, nLt, nLe, nLtN, nLeN, htn, hjc2, h2', y2, y2', hll]
      exact hK
    simp only [List.drop_succ_cons, List.drop_zero]
    refine zD_cut 1 ?_ ?_ (fun K_ hK => ?_) ?_
    rotate_left 2
    · simp only [List.take_succ_cons, List.take_zero]
      simp (disch := omega) [oLt, oLe, oLtN, oLeN, nLt, nLe, nLtN, nLeN, x3, y3, x6, y6]
      exact hK
    simp only [List.drop_succ_cons, List.drop_zero]
    by_cases huv : u < v
    · rw [if_neg (fun h => h.2 huv)] at hinv
      rw [← hinv] at hq
      have hdf : u - v < 0 := by omega
      refine zD_cut 3 ?_ ?_ (fun K_ hK => ?_) ?_
      rotate_left 2
      · simp only [List.take_succ_cons, List.take_zero]
        simp (disch := omega) [oLt, oLe, oLtN, oLeN, nLt, nLe, nLtN, nLeN, hdf]
        exact hK
      simp only [List.drop_succ_cons, List.drop_zero]
      refine goD_ok (by decide) ?_
      simp (disch := omega) [oLt, oLe, oLtN, oLeN, nLt, nLe, nLtN, nLeN]
      exact hE _ _ _ (.tot [] (by simp)) hq
    · rw [if_pos ⟨hlt, huv⟩] at hinv
      have hdf : ¬ u - v < 0 := by omega
      refine zD_cut 3 ?_ ?_ (fun K_ hK => ?_) ?_
      rotate_left 2
      · simp only [List.take_succ_cons, List.take_zero]
        simp (disch := omega) [oLt, oLe, oLtN, oLeN, nLt, nLe, nLtN, nLeN, hdf]
        exact hK
      simp only [List.drop_succ_cons, List.drop_zero]
      refine goD_ok (by decide) ?_
      simp (disch := omega) [oLt, oLe, oLtN, oLeN, nLt, nLe, nLtN, nLeN]
      delta p109_r5
      simp (disch := omega) [oLt, oLe, oLtN, oLeN, nLt, nLe, nLtN, nLeN]
      exact hN _ (i + 1 + 1) (by omega) ⟨hinv, by omega, by omega⟩ (.tot [] (by simp))
  · have hac : ¬ (i : Int) + 1 < b := by omega
    have e : b - (i + 1) = 0 := by omega
    rw [e] at hinv
    simp only [asc] at hinv
    rw [← hinv] at hq
    clear hN
    delta p109_l0 p109_r4 p109_r5
    simp (disch := omega) [oLt, oLe, oLtN, oLeN, nLt, nLe, nLtN, nLeN, hac]
    exact hE _ _ _ (.tot [] (by simp)) hq
def f109 : List AV → HL → Nat → Option (AV × HL × Nat) := fun args h k => match args, h, k with
  | [.ref 0 0 n 1 none, .v (.int .i64 a), .v (.int .i64 b), .fn (.func cf) [] []], [(0, .cells cs)], 1 => match unlls cs with
    | some M => if cmpN cf = true ∧ n = M.length ∧ gM M = true ∧ 0 ≤ a ∧ a < b ∧ b < a + 50 ∧ b ≤ n then some (vB (srtB M a.toNat b.toNat), [(0, .cells (lls M))], 1) else none
    | none => none
  | _, _, _ => none
def s109 : Sp := ⟨109, f109⟩
@[simp] theorem s109_g : s109.g = 109 := rfl
@[simp] theorem s109_f : s109.f = f109 := rfl
theorem f109_at {M : List (List Int)} {n a b : Nat} {cf : Nat} (hcm : cmpN cf = true) (hn : n = M.length) (hg : gM M = true) (ha : a < b) (hb : b ≤ n) (h50 : b < a + 50) :
    f109 [.ref 0 0 n 1 none, vI a, vI b, (fnC cf)] [(0, .cells (lls M))] 1 = some (vB (srtB M a b), [(0, .cells (lls M))], 1) := by
  simp only [f109, unlls_lls]
  rw [if_pos ⟨hcm, hn, hg, by omega, by omega, by omega, by omega⟩]
  simp only [Int.toNat_natCast]
theorem s109_ok : s109.ok Tryd.prog := by
  intro args h k r h' k' hh
  simp only [s109_f, f109] at hh
  split at hh
  · rename_i n a b cf cs
    split at hh
    · rename_i M hl
      split at hh
      · rename_i hc
        obtain ⟨hcm, hn, hg, a1, ab, ab2, bn⟩ := hc
        cases hh
        rw [unlls_inv hl]
        obtain ⟨a, rfl⟩ := Int.eq_ofNat_of_zero_le a1
        obtain ⟨b, rfl⟩ := Int.eq_ofNat_of_zero_le (show 0 ≤ b by omega)
        simp only [Int.toNat_natCast]
        have h64 : n ≤ 64 := by simp only [gM, Bool.and_eq_true, decide_eq_true_eq] at hg; omega
        simp only [hp_eq]
        refine P109.rz (ss := [sC cf]) ⟨sC_ok hcm, trivial⟩ (by simp) fun Q hQ => ?_
        delta p109
        refine XZ_step ?_ (fun N Q_ hN => ?_) ?_
        rotate_left
        · delta p109_r0; simp (disch := omega) [oLt, oLe, oLtN, oLeN, nLt, nLe, nLtN, nLeN]
          exact hN
        refine XZ_step ?_ (fun N Q_ hN => ?_) ?_
        rotate_left
        · delta p109_r1; simp (disch := omega) [oLt, oLe, oLtN, oLeN, nLt, nLe, nLtN, nLeN]
          exact hN
        refine XZ_seqG (XZ_seqG ?_)
        delta p109_r2
        simp (disch := omega) [oLt, oLe, oLtN, oLeN, nLt, nLe, nLtN, nLeN]
        refine XZ_for (fun _ : Nat => ⟨[(0, .ref 0 0 n 1 none), (1, vI a), (2, vI b), (3, (fnC cf)), (9, vI ((a + 1 : Nat) : Int)), (10, vI 0)], [(0, .cells (lls M))], 1⟩) (fun _ => 0) (fun _ => True) 0 trivial (.tot [] (by simp)) ?_
        intro k _ N Q' _ hE
        have l50 : (b : Int) - a < 50 := by omega
        have hasc := asc_ok M b (b - (a + 1)) (a + 1) (by omega)
        delta p109_l3 p109_r3
        simp (disch := omega) [oLt, oLe, oLtN, oLeN, nLt, nLe, nLtN, nLeN]
        refine l0_109 (a := a) (b := b) (i0 := a + 1) (n := n) (M := M) rfl hg hn.symm ⟨by omega, by omega⟩ (by omega) (.tot [] (by simp)) ?_
        simp only [inBE, thenE, if_true]
        unfold srtB at hQ
        generalize asc M b (b - (a + 1)) (a + 1) = T at *
        delta p109_r6
        by_cases hTb : T = b
        · subst hTb
          simp (disch := omega) [oLt, oLe, oLtN, oLeN, nLt, nLe, nLtN, nLeN]
          delta p109_r7
          simp (disch := omega) [oLt, oLe, oLtN, oLeN, nLt, nLe, nLtN, nLeN]
          exact hE _ _ _ .refl (hQ _ _ (EndsP_at [0] (.inl rfl) (by simp) rfl (by simp) rfl (by simp)))
        · have hTc : ¬ (T : Int) = b := by omega
          simp (disch := omega) [oLt, oLe, oLtN, oLeN, nLt, nLe, nLtN, nLeN, hTb, hTc]
          delta p109_r8
          simp (disch := omega) [oLt, oLe, oLtN, oLeN, nLt, nLe, nLtN, nLeN, l50]
          delta p109_r9
          simp (disch := omega) [oLt, oLe, oLtN, oLeN, nLt, nLe, nLtN, nLeN]
          exact hE _ _ _ .refl (hQ _ _ (EndsP_at [0] (.inl rfl) (by simp [hTb]) rfl (by simp) rfl (by simp)))
      · cases hh
    · cases hh
  · cases hh
end
end Go.Sx.Ch
