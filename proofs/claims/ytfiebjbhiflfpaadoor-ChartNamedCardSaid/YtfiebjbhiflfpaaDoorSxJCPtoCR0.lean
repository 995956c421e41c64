/- What functions of the chart layer's document return: ends, in, index, point, at. No conditions. -/
import Derived.Test.YtfiebjbhiflfpaaDoorSxJCItoCL
import Derived.Test.YtfiebjbhiflfpaaDoorSxPCb
set_option linter.unusedVariables false
set_option linter.unusedSimpArgs false
set_option maxRecDepth 4000
namespace Go.Sx.Ch
open Go Go.Sx Go.Proofs

set_option maxHeartbeats 2000000
def s66 : Sp := spT 66 [.mp] fun (L : List (List Int)) => res (smM L) (vI (total L))
@[simp] theorem s66_g : s66.g = 66 := rfl
@[simp] theorem s66_f : s66.f = (spT 66 [.mp] fun (L : List (List Int)) => res (smM L) (vI (total L))).f := rfl
theorem s66_ok : s66.ok Tryd.prog := by
  apply spT_ok
  simp only [OkT, Ty.all, List.nil_append, List.cons_append]
  intro (L : List (List Int)) u
  apply okT_res; intro hg
  refine P66.rz (ss := []) trivial (by simp) fun Q hQ => ?_
  delta p66 p66_r0 p66_r1 p66_r2
  simp only [smM, Bool.and_eq_true, decide_eq_true_eq] at hg
  obtain ⟨hlen, htot⟩ := hg
  simp (disch := omega) [oLt, oLe, oLtN, oLeN, nLt, nLe, nLtN, nLeN]
  refine XZ_for (fun i : Nat => ⟨[(1, .ptr 0 0), (3, vI (total (L.take i))), (4, vI i)], [(0, .cells [.il (lls L) L.length u])], 1⟩) (fun i => L.length - i) (fun i => i ≤ L.length) 0 (by simp) (.tot [1] (by simp [total])) ?_
  intro i hi N Q' hN hE
  rcases Nat.lt_or_ge i L.length with h | h
  · have hic : (i : Int) < L.length := by omega
    obtain ⟨l, r, -, e2, e3, -, e5⟩ := drop_split h
    have htl : total (L.take (i + 1)) ≤ 10000 := Nat.le_trans (total_take L _) htot
    have hnext : total (L.take (i + 1)) = total (L.take i) + l.length := by rw [List.take_succ_eq_append_getElem h, e3, total_snoc]
    rw [hnext] at htl
    have fin : ∀ s', ChgT 0 s' ⟨[(1, .ptr 0 0), (3, vI ((total (L.take i) + l.length : Nat) : Int)), (4, vI ((i + 1 : Nat) : Int))], [(0, .cells [.il (lls L) L.length u])], 1⟩ → N s' := fun s' hh => hN s' (i + 1) (by omega) h (by rw [hnext]; exact hh)
    obtain ⟨z, hz⟩ : ∃ z : Int, ((total (L.take i) : Nat) : Int) = z := ⟨_, rfl⟩
    have hz1 : 0 ≤ z := by omega
    have hz2 : z + l.length ≤ 10000 := by omega
    rw [hz]
    delta p66_l0 p66_r3 p66_r4 p66_r5
    simp (disch := omega) [oLt, oLe, oLtN, oLeN, nLt, nLe, nLtN, nLeN, hic, h, e2, e3]
    exact fin _ (.tot [1] (by simp [← hz]))
  · obtain rfl : i = L.length := by omega
    have hic : ¬ (L.length : Int) < L.length := by omega
    rw [List.take_length] at *
    delta p66_l0 p66_r3 p66_r4 p66_r5
    simp (disch := omega) [oLt, oLe, oLtN, oLeN, nLt, nLe, nLtN, nLeN, hic]
    refine hE _ _ _ .refl ?_
    delta p66_r6
    simp (disch := omega) [oLt, oLe, oLtN, oLeN, nLt, nLe, nLtN, nLeN]
    exact hQ _ _ (.p (.inl rfl) (by simp) rfl)

def s72 : Sp := spT 72 [.i, .i, .i] fun (n : Int) (lo : Int) (hi : Int) => res true (vB (within lo n hi))
@[simp] theorem s72_g : s72.g = 72 := rfl
@[simp] theorem s72_f : s72.f = (spT 72 [.i, .i, .i] fun (n : Int) (lo : Int) (hi : Int) => res true (vB (within lo n hi))).f := rfl
theorem s72_ok : s72.ok Tryd.prog := by
  apply spT_ok
  simp only [OkT, Ty.all, List.nil_append, List.cons_append]
  intro (n : Int) (lo : Int) (hi : Int)
  apply okT_res; intro _
  refine P72.rz (ss := []) trivial (by simp) fun Q hQ => ?_
  delta p72 p72_r0 p72_r1
  by_cases h : lo ≤ n
  · by_cases h' : n ≤ hi
    · simp (disch := omega) [oLt, oLe, oLtN, oLeN, nLt, nLe, nLtN, nLeN, h, h']
      exact hQ _ _ (.p (.inl rfl) (by simp [within, h, h']) rfl)
    · simp (disch := omega) [oLt, oLe, oLtN, oLeN, nLt, nLe, nLtN, nLeN, h, h']
      exact hQ _ _ (.p (.inl rfl) (by simp [within, h, h']) rfl)
  · simp (disch := omega) [oLt, oLe, oLtN, oLeN, nLt, nLe, nLtN, nLeN, h]
    exact hQ _ _ (.p (.inl rfl) (by simp [within, h]) rfl)

/-- The place of a number in a list, from i on; or -1. -/
def idxR (x : Int) : List Int → Int → Int
  | [], _ => -1
  | y :: r, i => if y = x then i else idxR x r (i + 1)
def idxL (l : List Int) (x : Int) : Int := idxR x l 0
def s86 : Sp := spT 86 [.l, .i] fun (l : List Int) (x : Int) => res (small l) (vI (idxL l x))
@[simp] theorem s86_g : s86.g = 86 := rfl
@[simp] theorem s86_f : s86.f = (spT 86 [.l, .i] fun (l : List Int) (x : Int) => res (small l) (vI (idxL l x))).f := rfl
theorem s86_ok : s86.ok Tryd.prog := by
  apply spT_ok
  simp only [OkT, Ty.all, List.nil_append, List.cons_append]
  intro (l : List Int) u (x : Int)
  apply okT_res; intro hg
  refine P86.rz (ss := []) trivial (by simp) fun Q hQ => ?_
  delta p86 p86_r0 p86_r1
  simp only [small, decide_eq_true_eq] at hg
  simp (disch := omega) [oLt, oLe, oLtN, oLeN, nLt, nLe, nLtN, nLeN]
  refine XZ_for (fun i : Nat => ⟨[(0, .il (ints l) l.length u), (1, vI x), (5, vI i)], [], 0⟩) (fun i => l.length - i) (fun i => i ≤ l.length ∧ idxR x (l.drop i) i = idxL l x) 0 ⟨by simp, by simp [idxL]⟩ (.to [] (by simp)) ?_
  rintro i ⟨hi, hinv⟩ N Q' hN hE
  rcases Nat.lt_or_ge i l.length with h | h
  · have hic : (i : Int) < l.length := by omega
    obtain ⟨y, r, e1, e2, e3, e4, e5⟩ := drop_split h
    rw [e1] at hinv
    simp only [idxR] at hinv
    by_cases hy : y = x
    · rw [if_pos hy] at hinv
      rw [← hinv] at hQ
      delta p86_l0 p86_r2 p86_r3 p86_r4 p86_r5
      simp (disch := omega) [oLt, oLe, oLtN, oLeN, nLt, nLe, nLtN, nLeN, hic, h, e2, e3, hy]
      exact hE _ _ _ .refl (hQ _ _ (.p (.inl rfl) (by simp) rfl))
    · rw [if_neg hy] at hinv
      delta p86_l0 p86_r2 p86_r3 p86_r4 p86_r5
      simp (disch := omega) [oLt, oLe, oLtN, oLeN, nLt, nLe, nLtN, nLeN, hic, h, e2, e3, hy]
      exact hN _ (i + 1) (by omega) ⟨h, by rw [e4]; simpa using hinv⟩ (.to [] (by simp))
  · obtain rfl : i = l.length := by omega
    have hic : ¬ (l.length : Int) < l.length := by omega
    rw [List.drop_eq_nil_of_le (Nat.le_refl _)] at hinv
    simp only [idxR] at hinv
    rw [← hinv] at hQ
    delta p86_l0 p86_r2 p86_r3 p86_r4 p86_r5
    simp (disch := omega) [oLt, oLe, oLtN, oLeN, nLt, nLe, nLtN, nLeN, hic]
    refine hE _ _ _ .refl ?_
    delta p86_r6
    simp (disch := omega) [oLt, oLe, oLtN, oLeN, nLt, nLe, nLtN, nLeN]
    exact hQ _ _ (.p (.inl rfl) (by simp) rfl)

/-- The point at which an end is, from point i on; or -1. -/
def ptR (x : Int) : List (List Int) → Int → Int
  | [], _ => -1
  | l :: L, i => if 0 ≤ idxL l x then i else ptR x L (i + 1)
theorem total_mem : ∀ {L : List (List Int)} {l : List Int}, l ∈ L → l.length ≤ total L
  | x :: L, l, h => by
    simp only [total, List.map_cons, List.sum_cons]
    rcases List.mem_cons.1 h with rfl | h
    · omega
    · have := total_mem h
      simp only [total] at this; omega
theorem smM_small {L : List (List Int)} (h : smM L = true) {l : List Int} (hl : l ∈ L) : small l = true := by
  simp only [smM, Bool.and_eq_true, decide_eq_true_eq] at h
  have := total_mem hl
  simp only [small, decide_eq_true_eq]; omega
def s87 : Sp := spT 87 [.mp, .i, .i] fun (L : List (List Int)) (many : Int) (x : Int) => res (smM L && decide (0 ≤ many ∧ many ≤ L.length)) (vI (ptR x (L.take many.toNat) 0))
@[simp] theorem s87_g : s87.g = 87 := rfl
@[simp] theorem s87_f : s87.f = (spT 87 [.mp, .i, .i] fun (L : List (List Int)) (many : Int) (x : Int) => res (smM L && decide (0 ≤ many ∧ many ≤ L.length)) (vI (ptR x (L.take many.toNat) 0))).f := rfl
theorem s87_ok : s87.ok Tryd.prog := by
  apply spT_ok
  simp only [OkT, Ty.all, List.nil_append, List.cons_append]
  intro (L : List (List Int)) u (many : Int) (x : Int)
  apply okT_res; intro hg
  refine P87.rz (ss := [s86]) ⟨s86_ok, trivial⟩ (by simp) fun Q hQ => ?_
  delta p87 p87_r0 p87_r1
  simp only [Bool.and_eq_true, decide_eq_true_eq] at hg
  obtain ⟨hsm, hm0, hm1⟩ := hg
  have hlen : L.length ≤ 10000 := by simp only [smM, Bool.and_eq_true, decide_eq_true_eq] at hsm; exact hsm.1
  obtain ⟨m, rfl⟩ := Int.eq_ofNat_of_zero_le hm0
  have hmL : m ≤ L.length := by omega
  rw [Int.toNat_natCast] at hQ
  simp (disch := omega) [oLt, oLe, oLtN, oLeN, nLt, nLe, nLtN, nLeN]
  refine XZ_for (fun i : Nat => ⟨[(1, vI m), (2, vI x), (3, .ptr 0 0), (7, vI i)], [(0, .cells [.il (lls L) L.length u])], 1⟩) (fun i => m - i) (fun i => i ≤ m ∧ ptR x ((L.take m).drop i) i = ptR x (L.take m) 0) 0 ⟨by simp, by simp⟩ (.tot [3] (by simp)) ?_
  rintro i ⟨hi, hinv⟩ N Q' hN hE
  rcases Nat.lt_or_ge i m with h | h
  · have hic : (i : Int) < m := by omega
    have hiL : i < L.length := by omega
    have hi' : i < (L.take m).length := by simp; omega
    obtain ⟨l, r, e1, e2, e3, e4, e5⟩ := drop_split hi'
    have f2 : L[i]? = some l := by rw [List.getElem?_take] at e2; simpa [h] using e2
    have f3 : L[i] = l := (List.getElem?_eq_some_iff.1 f2).2
    have hsl := smM_small hsm (List.mem_of_mem_take e5)
    rw [e1] at hinv
    simp only [ptR] at hinv
    generalize hx : idxL l x = j at *
    by_cases hy : 0 ≤ j
    · rw [if_pos hy] at hinv
      rw [← hinv] at hQ
      delta p87_l0 p87_r2 p87_r3 p87_r4 p87_r5
      simp (disch := omega) [oLt, oLe, oLtN, oLeN, nLt, nLe, nLtN, nLeN, hic, hiL, f2, f3, hy, hsl, hx]
      exact hE _ _ _ .refl (hQ _ _ (.p (.inl rfl) (by simp) rfl))
    · rw [if_neg hy] at hinv
      delta p87_l0 p87_r2 p87_r3 p87_r4 p87_r5
      simp (disch := omega) [oLt, oLe, oLtN, oLeN, nLt, nLe, nLtN, nLeN, hic, hiL, f2, f3, hy, hsl, hx]
      exact hN _ (i + 1) (by omega) ⟨h, by rw [e4]; simpa using hinv⟩ (.tot [3] (by simp))
  · obtain rfl : i = m := by omega
    have hic : ¬ (i : Int) < i := by omega
    rw [List.drop_eq_nil_of_le (by simp; omega)] at hinv
    simp only [ptR] at hinv
    rw [← hinv] at hQ
    delta p87_l0 p87_r2 p87_r3 p87_r4 p87_r5
    simp (disch := omega) [oLt, oLe, oLtN, oLeN, nLt, nLe, nLtN, nLeN, hic]
    refine hE _ _ _ .refl ?_
    delta p87_r6
    simp (disch := omega) [oLt, oLe, oLtN, oLeN, nLt, nLe, nLtN, nLeN]
    exact hQ _ _ (.p (.inl rfl) (by simp) rfl)
end Go.Sx.Ch
set_option maxRecDepth 4000
namespace Go.Sx.Ch
open Go Go.Sx Go.Proofs

theorem idxR_at {x : Int} : ∀ {l : List Int} {i : Nat}, 0 ≤ idxR x l i → ∃ k, k < l.length ∧ idxR x l i = ((i + k : Nat) : Int) ∧ l[k]? = some x
  | [], i, h => by simp [idxR] at h
  | y :: r, i, h => by
    simp only [idxR] at h ⊢
    split at h
    · rename_i e; rw [if_pos e]; exact ⟨0, by simp, by simp, by simp [e]⟩
    · rename_i e
      rw [if_neg e]
      have h' : 0 ≤ idxR x r ((i + 1 : Nat) : Int) := by simpa using h
      obtain ⟨k, h1, h2, h3⟩ := idxR_at h'
      refine ⟨k + 1, by simp; omega, ?_, by simpa using h3⟩
      have e2 : (((i + 1 : Nat) : Int)) = (i : Int) + 1 := by omega
      rw [e2] at h2
      rw [h2]; omega
theorem idxL_at {l : List Int} {x : Int} (h : 0 ≤ idxL l x) : ∃ k : Nat, k < l.length ∧ idxL l x = k ∧ l[k]? = some x := by
  obtain ⟨k, h1, h2, h3⟩ := idxR_at (i := 0) (by simpa [idxL] using h)
  exact ⟨k, h1, by simpa [idxL] using h2, h3⟩
theorem ptR_at {x : Int} : ∀ {L : List (List Int)} {i : Nat}, 0 ≤ ptR x L i → ∃ k l, L[k]? = some l ∧ ptR x L i = ((i + k : Nat) : Int) ∧ 0 ≤ idxL l x
  | [], i, h => by simp [ptR] at h
  | l :: L, i, h => by
    simp only [ptR] at h ⊢
    split at h
    · rename_i e; rw [if_pos e]; exact ⟨0, l, by simp, by simp, e⟩
    · rename_i e
      rw [if_neg e]
      have h' : 0 ≤ ptR x L ((i + 1 : Nat) : Int) := by simpa using h
      obtain ⟨k, l', h1, h2, h3⟩ := ptR_at h'
      refine ⟨k + 1, l', by simpa using h1, ?_, h3⟩
      have e2 : (((i + 1 : Nat) : Int)) = (i : Int) + 1 := by omega
      rw [e2] at h2
      rw [h2]; omega
def ptL (L : List (List Int)) (x : Int) : Int := ptR x L 0
theorem ptL_at {L : List (List Int)} {x : Int} (h : 0 ≤ ptL L x) : ∃ (k : Nat) (l : List Int), L[k]? = some l ∧ ptL L x = k ∧ 0 ≤ idxL l x := by
  obtain ⟨k, l, h1, h2, h3⟩ := ptR_at (i := 0) (by simpa [ptL] using h)
  exact ⟨k, l, h1, by simpa [ptL] using h2, h3⟩
set_option maxHeartbeats 2000000
def s75 : Sp := spT 75 [.mp, .i] fun (L : List (List Int)) (x : Int) => res (smM L) (vI (ptL L x))
@[simp] theorem s75_g : s75.g = 75 := rfl
@[simp] theorem s75_f : s75.f = (spT 75 [.mp, .i] fun (L : List (List Int)) (x : Int) => res (smM L) (vI (ptL L x))).f := rfl
theorem s75_ok : s75.ok Tryd.prog := by
  apply spT_ok
  simp only [OkT, Ty.all, List.nil_append, List.cons_append]
  intro (L : List (List Int)) u (x : Int)
  apply okT_res; intro hg
  refine P75.rz (ss := [s87]) ⟨s87_ok, trivial⟩ (by simp) fun Q hQ => ?_
  delta p75 p75_r0 p75_r1
  have hp : ptR x (L.take L.length) 0 = ptL L x := by rw [List.take_length]; rfl
  have hp' : ptR x L 0 = ptL L x := rfl
  have hl : (0 : Int) ≤ L.length := by omega
  simp (disch := omega) [oLt, oLe, oLtN, oLeN, nLt, nLe, nLtN, nLeN, hg, hp, hp', hl]
  exact hQ _ _ (.p (.inl rfl) (by simp) rfl)
def otherI (e : Int) : Int := if e % 2 = 0 then e + 1 else e - 1
def s98 : Sp := spT 98 [.i] fun (e : Int) => res (within 0 e 1000) (vI (otherI e))
@[simp] theorem s98_g : s98.g = 98 := rfl
@[simp] theorem s98_f : s98.f = (spT 98 [.i] fun (e : Int) => res (within 0 e 1000) (vI (otherI e))).f := rfl
theorem s98_ok : s98.ok Tryd.prog := by
  apply spT_ok
  simp only [OkT, Ty.all, List.nil_append, List.cons_append]
  intro (e : Int)
  apply okT_res; intro hg
  refine P98.rz (ss := []) trivial (by simp) fun Q hQ => ?_
  delta p98 p98_r0 p98_r1 p98_r2 p98_r3
  rw [within_iff] at hg
  obtain ⟨h0, h1⟩ := hg
  by_cases h : e % 2 = 0
  · simp (disch := omega) [oLt, oLe, oLtN, oLeN, nLt, nLe, nLtN, nLeN, h0, h]
    exact hQ _ _ (.p (.inl rfl) (by simp [otherI, h]) rfl)
  · simp (disch := omega) [oLt, oLe, oLtN, oLeN, nLt, nLe, nLtN, nLeN, h0, h]
    exact hQ _ _ (.p (.inl rfl) (by simp [otherI, h]) rfl)
/-- The end that comes after another one, found by looking. -/
def afterR (L : List (List Int)) (e : Int) : Int := (L.getD (ptL L e).toNat []).getD ((idxL (L.getD (ptL L e).toNat []) e + 1) % ((L.getD (ptL L e).toNat []).length : Int)).toNat 0
def s97 : Sp := spT 97 [.mp, .i] fun (L : List (List Int)) (e : Int) => res (smM L && decide (0 ≤ ptL L e)) (vI (afterR L e))
@[simp] theorem s97_g : s97.g = 97 := rfl
@[simp] theorem s97_f : s97.f = (spT 97 [.mp, .i] fun (L : List (List Int)) (e : Int) => res (smM L && decide (0 ≤ ptL L e)) (vI (afterR L e))).f := rfl
theorem s97_ok : s97.ok Tryd.prog := by
  apply spT_ok
  simp only [OkT, Ty.all, List.nil_append, List.cons_append]
  intro (L : List (List Int)) u (e : Int)
  apply okT_res; intro hg
  refine P97.rz (ss := [s75, s86]) ⟨s75_ok, s86_ok, trivial⟩ (by simp) fun Q hQ => ?_
  delta p97 p97_r0 p97_r1 p97_r2
  simp only [Bool.and_eq_true, decide_eq_true_eq] at hg
  obtain ⟨hs, hp⟩ := hg
  obtain ⟨k, l, h1, h2, h3⟩ := ptL_at hp
  obtain ⟨j, j1, j2, j3⟩ := idxL_at h3
  have hr : afterR L e = l.getD (((j : Int) + 1) % (l.length : Int)).toNat 0 := by
    have : L.getD (ptL L e).toNat [] = l := by rw [h2, Int.toNat_natCast, List.getD_eq_getElem?_getD, h1]; rfl
    unfold afterR; rw [this, j2]
  rw [hr] at hQ
  have hk : k < L.length := (List.getElem?_eq_some_iff.1 h1).1
  have h1' := (List.getElem?_eq_some_iff.1 h1).2
  have hkc : (k : Int) < L.length := by omega
  have hsl := smM_small hs (List.mem_of_getElem? h1)
  have hll : l.length ≤ 1000000 := by simpa [small] using hsl
  have hl0 : ¬ l.length = 0 := by omega
  have hlc : ¬ (l.length : Int) = 0 := by omega
  have hmod : ((j : Int) + 1) % (l.length : Int) = (((j + 1) % l.length : Nat) : Int) := by rw [Int.natCast_emod]; rfl
  have hq : (j + 1) % l.length < l.length := Nat.mod_lt _ (by omega)
  rw [hmod, Int.toNat_natCast] at hQ
  generalize (j + 1) % l.length = q at *
  obtain ⟨v, hv⟩ : ∃ v, l[q]? = some v := ⟨l[q], by rw [List.getElem?_eq_getElem hq]⟩
  have hv' := (List.getElem?_eq_some_iff.1 hv).2
  rw [List.getD_eq_getElem?_getD, hv, Option.getD_some] at hQ
  simp (disch := omega) [oLt, oLe, oLtN, oLeN, nLt, nLe, nLtN, nLeN, hs, h2, h1, h1', hk, hkc, hsl, j2, hl0, hlc, hmod, hq, hv, hv']
  exact hQ _ _ (.p (.inl rfl) (by simp) rfl)
end Go.Sx.Ch
set_option maxRecDepth 4000
namespace Go.Sx.Ch
open Go Go.Sx Go.Proofs

theorem idxR_mem {x : Int} : ∀ {l : List Int} {i : Int}, 0 ≤ i → (0 ≤ idxR x l i ↔ x ∈ l)
  | [], i, h => by simp [idxR]
  | y :: r, i, h => by
    simp only [idxR]
    split
    · rename_i e; simp [e, h]
    · rename_i e
      have e' : ¬ x = y := fun h => e h.symm
      rw [idxR_mem (show 0 ≤ i + 1 by omega)]; simp [e']
theorem idxL_mem {l : List Int} {x : Int} : 0 ≤ idxL l x ↔ x ∈ l := idxR_mem (by decide)
theorem ptR_mem {x : Int} : ∀ {L : List (List Int)} {i : Int}, 0 ≤ i → (0 ≤ ptR x L i ↔ x ∈ L.flatten)
  | [], i, h => by simp [ptR]
  | l :: L, i, h => by
    simp only [ptR, List.flatten_cons, List.mem_append]
    split
    · rename_i e; simp [h, idxL_mem.1 e]
    · rename_i e
      rw [ptR_mem (show 0 ≤ i + 1 by omega)]
      have : ¬ x ∈ l := fun h => e (idxL_mem.2 h)
      simp [this]
end Go.Sx.Ch
