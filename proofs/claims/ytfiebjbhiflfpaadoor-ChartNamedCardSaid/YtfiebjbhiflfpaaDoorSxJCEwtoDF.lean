/- The examples of the chapter hold. No conditions. -/
import Derived.Test.YtfiebjbhiflfpaaDoorSxJCE1toCE3
import Derived.KernelRfl
import Derived.Test.YtfiebjbhiflfpaaDoorSxJCItoCL
import Derived.Test.YtfiebjbhiflfpaaDoorSxPCb
set_option linter.unusedVariables false
set_option maxRecDepth 1000000
namespace Go.Sx.Ch
open Go Go.Sx Go.Proofs

def k100 : Known := ⟨16, [], [], 0, .v (.bool true), [], 0⟩
theorem k100_ok : k100.ok Tryd.prog := runQ_ok (known_ok (ms := [k0, k1, k2, k3, k4, k5, k6, k7, k8, k9, k10, k11, k12]) ⟨k0_ok, k1_ok, k2_ok, k3_ok, k4_ok, k5_ok, k6_ok, k7_ok, k8_ok, k9_ok, k10_ok, k11_ok, k12_ok, trivial⟩) tab_ok 200 60 k100.g k100.args k100.h k100.k k100.r k100.h' k100.k' (by kernel_rfl)

end Go.Sx.Ch
set_option linter.unusedSimpArgs false
set_option maxRecDepth 4000
namespace Go.Sx.Ch
open Go Go.Sx Go.Proofs

def s16 : Sp := spT 16 [] (res true (vB true))
@[simp] theorem s16_g : s16.g = 16 := rfl
@[simp] theorem s16_f : s16.f = (spT 16 [] (res true (vB true))).f := rfl
theorem s16_ok : s16.ok Tryd.prog := by
  apply spT_ok
  simp only [OkT]
  intro r h' k' hh
  obtain ⟨_, rfl, rfl, rfl⟩ := res_inv hh
  exact k100_ok
end Go.Sx.Ch
set_option maxRecDepth 4000
namespace Go.Sx.Ch
open Go Go.Sx Go.Proofs

set_option maxHeartbeats 1000000
def largeF (L : List (List Int)) : Bool := decide (40 < L.length) || L.any fun l => decide (40 < l.length)
theorem large_sm {L : List (List Int)} (h : largeF L = false) : smM L = true := by
  simp only [largeF, Bool.or_eq_false_iff, decide_eq_false_iff_not] at h
  have key : ∀ M : List (List Int), (∀ l ∈ M, l.length ≤ 40) → total M ≤ 40 * M.length := by
    intro M
    induction M with
    | nil => simp [total]
    | cons x M ih =>
      intro hM
      have := ih fun l hl => hM l (List.mem_cons_of_mem _ hl)
      have hx := hM x List.mem_cons_self
      simp only [total, List.map_cons, List.sum_cons, List.length_cons] at this ⊢
      omega
  have := key L (fun l hl => by
    have := List.any_eq_false.1 h.2 l hl
    simp at this; omega)
  simp only [smM, Bool.and_eq_true, decide_eq_true_eq]
  omega
def s15 : Sp := spT 15 [.mp] fun (L : List (List Int)) => res true (vB (largeF L))
@[simp] theorem s15_g : s15.g = 15 := rfl
@[simp] theorem s15_f : s15.f = (spT 15 [.mp] fun (L : List (List Int)) => res true (vB (largeF L))).f := rfl
theorem s15_ok : s15.ok Tryd.prog := by
  apply spT_ok
  simp only [OkT, Ty.all, List.nil_append, List.cons_append]
  intro (L : List (List Int)) u
  apply okT_res; intro _
  refine P15.rz (ss := []) trivial (by simp) fun Q hQ => ?_
  delta p15 p15_r0 p15_r1 p15_r2 p15_r3
  by_cases hb : 40 < L.length
  · have hbc : (40 : Int) < L.length := by omega
    simp (disch := omega) [oLt, oLe, oLtN, oLeN, nLt, nLe, nLtN, nLeN, hbc]
    exact hQ _ _ (.p (.inl rfl) (by simp [largeF, hb]) rfl)
  · have hbc : ¬ (40 : Int) < L.length := by omega
    simp (disch := omega) [oLt, oLe, oLtN, oLeN, nLt, nLe, nLtN, nLeN, hbc]
    refine XZ_for (fun i : Nat => ⟨[(1, .ptr 0 0), (3, vI i)], [(0, .cells [.il (lls L) L.length u])], 1⟩) (fun i => L.length - i) (fun i => i ≤ L.length ∧ largeF L = (L.drop i).any fun l => decide (40 < l.length)) 0 ⟨by simp, by simp [largeF, hb]⟩ (.tot [1] (by simp)) ?_
    rintro i ⟨hi, hinv⟩ N Q' hN hE
    rcases Nat.lt_or_ge i L.length with h | h
    · have hic : (i : Int) < L.length := by omega
      obtain ⟨l, r, e1, e2, e3, e4, e5⟩ := drop_split h
      rw [e1, List.any_cons] at hinv
      by_cases hl : 40 < l.length
      · have hlc : (40 : Int) < l.length := by omega
        delta p15_l0 p15_r4 p15_r5 p15_r6 p15_r7
        simp (disch := omega) [oLt, oLe, oLtN, oLeN, nLt, nLe, nLtN, nLeN, hic, h, e2, e3, hlc]
        exact hE _ _ _ .refl (hQ _ _ (.p (.inl rfl) (by simp [hinv, hl]) rfl))
      · have hlc : ¬ (40 : Int) < l.length := by omega
        delta p15_l0 p15_r4 p15_r5 p15_r6 p15_r7
        simp (disch := omega) [oLt, oLe, oLtN, oLeN, nLt, nLe, nLtN, nLeN, hic, h, e2, e3, hlc]
        exact hN _ (i + 1) (by omega) ⟨h, by rw [e4, hinv]; simp [hl]⟩ (.tot [1] (by simp))
    · obtain rfl : i = L.length := by omega
      have hic : ¬ (L.length : Int) < L.length := by omega
      rw [List.drop_eq_nil_of_le (Nat.le_refl _)] at hinv
      delta p15_l0 p15_r4 p15_r5 p15_r6 p15_r7
      simp (disch := omega) [oLt, oLe, oLtN, oLeN, nLt, nLe, nLtN, nLeN, hic]
      refine hE _ _ _ .refl ?_
      delta p15_r8
      simp (disch := omega) [oLt, oLe, oLtN, oLeN, nLt, nLe, nLtN, nLeN]
      exact hQ _ _ (.p (.inl rfl) (by simp [hinv]) rfl)

theorem drop_eq_of_lt {α : Type} {a b : List α} {i : Nat} {x y : α} (hx : a[i]? = some x) (hy : b[i]? = some y) : (a.drop i = b.drop i) ↔ x = y ∧ a.drop (i + 1) = b.drop (i + 1) := by
  obtain ⟨h1, e1⟩ := List.getElem?_eq_some_iff.1 hx
  obtain ⟨h2, e2⟩ := List.getElem?_eq_some_iff.1 hy
  rw [List.drop_eq_getElem_cons h1, List.drop_eq_getElem_cons h2, e1, e2, List.cons.injEq]
def s30 : Sp := spT 30 [.l, .l] fun (a : List Int) (b : List Int) => res (small a) (vB (decide (a = b)))
@[simp] theorem s30_g : s30.g = 30 := rfl
@[simp] theorem s30_f : s30.f = (spT 30 [.l, .l] fun (a : List Int) (b : List Int) => res (small a) (vB (decide (a = b)))).f := rfl
theorem s30_ok : s30.ok Tryd.prog := by
  apply spT_ok
  simp only [OkT, Ty.all, List.nil_append, List.cons_append]
  intro (a : List Int) u (b : List Int) v
  apply okT_res; intro hg
  refine P30.rz (ss := []) trivial (by simp) fun Q hQ => ?_
  delta p30 p30_r0 p30_r1 p30_r2 p30_r3
  simp only [small, decide_eq_true_eq] at hg
  by_cases hlen : a.length = b.length
  · have hlc : (a.length : Int) = b.length := by omega
    simp (disch := omega) [oLt, oLe, oLtN, oLeN, nLt, nLe, nLtN, nLeN, hlc]
    refine XZ_for (fun i : Nat => ⟨[(0, .il (ints a) a.length u), (1, .il (ints b) b.length v), (5, vI i)], [], 0⟩) (fun i => a.length - i) (fun i => i ≤ a.length ∧ ((a = b) ↔ a.drop i = b.drop i)) 0 ⟨by simp, by simp⟩ (.to [] (by simp)) ?_
    rintro i ⟨hi, hinv⟩ N Q' hN hE
    rcases Nat.lt_or_ge i a.length with h | h
    · have hic : (i : Int) < a.length := by omega
      have hic2 : (i : Int) < b.length := by omega
      have hb : i < b.length := by omega
      obtain ⟨x, hx⟩ : ∃ x, a[i]? = some x := ⟨a[i], by rw [List.getElem?_eq_getElem h]⟩
      obtain ⟨y, hy⟩ : ∃ y, b[i]? = some y := ⟨b[i], by rw [List.getElem?_eq_getElem hb]⟩
      have hx' := (List.getElem?_eq_some_iff.1 hx).2
      have hy' := (List.getElem?_eq_some_iff.1 hy).2
      rw [drop_eq_of_lt hx hy] at hinv
      by_cases hxy : x = y
      · have hxy' : ¬ x ≠ y := fun h => h hxy
        delta p30_l0 p30_r4 p30_r5 p30_r6 p30_r7
        simp (disch := omega) [oLt, oLe, oLtN, oLeN, nLt, nLe, nLtN, nLeN, hic, hic2, h, hb, hx, hx', hy, hy', hxy]
        exact hN _ (i + 1) (by omega) ⟨h, by rw [hinv]; simp [hxy]⟩ (.to [] (by simp))
      · have hne : ¬ a = b := fun e => hxy (hinv.1 e).1
        delta p30_l0 p30_r4 p30_r5 p30_r6 p30_r7
        simp (disch := omega) [oLt, oLe, oLtN, oLeN, nLt, nLe, nLtN, nLeN, hic, hic2, h, hb, hx, hx', hy, hy', hxy]
        exact hE _ _ _ .refl (hQ _ _ (.p (.inl rfl) (by simp [hne]) rfl))
    · obtain rfl : i = a.length := by omega
      have hic : ¬ (a.length : Int) < a.length := by omega
      have heq : a = b := hinv.2 (by rw [List.drop_eq_nil_of_le (Nat.le_refl _), List.drop_eq_nil_of_le (by omega)])
      delta p30_l0 p30_r4 p30_r5 p30_r6 p30_r7
      simp (disch := omega) [oLt, oLe, oLtN, oLeN, nLt, nLe, nLtN, nLeN, hic, hlc]
      refine hE _ _ _ .refl ?_
      delta p30_r8
      simp (disch := omega) [oLt, oLe, oLtN, oLeN, nLt, nLe, nLtN, nLeN]
      exact hQ _ _ (.p (.inl rfl) (by simp [heq]) rfl)
  · have hlc : ¬ (a.length : Int) = b.length := by omega
    have hne : ¬ a = b := fun e => hlen (by rw [e])
    simp (disch := omega) [oLt, oLe, oLtN, oLeN, nLt, nLe, nLtN, nLeN, hlc]
    exact hQ _ _ (.p (.inl rfl) (by simp [hne]) rfl)
def s23 : Sp := spT 23 [.ll, .ll] fun (a : List (List Int)) (b : List (List Int)) => res (decide (a.length ≤ 10000) && a.all small) (vB (decide (a = b)))
@[simp] theorem s23_g : s23.g = 23 := rfl
@[simp] theorem s23_f : s23.f = (spT 23 [.ll, .ll] fun (a : List (List Int)) (b : List (List Int)) => res (decide (a.length ≤ 10000) && a.all small) (vB (decide (a = b)))).f := rfl
theorem s23_ok : s23.ok Tryd.prog := by
  apply spT_ok
  simp only [OkT, Ty.all, List.nil_append, List.cons_append]
  intro (a : List (List Int)) u (b : List (List Int)) v
  apply okT_res; intro hg
  refine P23.rz (ss := [s30]) ⟨s30_ok, trivial⟩ (by simp) fun Q hQ => ?_
  delta p23 p23_r0 p23_r1 p23_r2 p23_r3
  simp only [Bool.and_eq_true, decide_eq_true_eq] at hg
  obtain ⟨hg, hsm⟩ := hg
  by_cases hlen : a.length = b.length
  · have hlc : (a.length : Int) = b.length := by omega
    simp (disch := omega) [oLt, oLe, oLtN, oLeN, nLt, nLe, nLtN, nLeN, hlc]
    refine XZ_for (fun i : Nat => ⟨[(0, .il (lls a) a.length u), (1, .il (lls b) b.length v), (5, vI i)], [], 0⟩) (fun i => a.length - i) (fun i => i ≤ a.length ∧ ((a = b) ↔ a.drop i = b.drop i)) 0 ⟨by simp, by simp⟩ (.to [] (by simp)) ?_
    rintro i ⟨hi, hinv⟩ N Q' hN hE
    rcases Nat.lt_or_ge i a.length with h | h
    · have hic : (i : Int) < a.length := by omega
      have hic2 : (i : Int) < b.length := by omega
      have hb : i < b.length := by omega
      obtain ⟨x, hx⟩ : ∃ x, a[i]? = some x := ⟨a[i], by rw [List.getElem?_eq_getElem h]⟩
      obtain ⟨y, hy⟩ : ∃ y, b[i]? = some y := ⟨b[i], by rw [List.getElem?_eq_getElem hb]⟩
      have hx' := (List.getElem?_eq_some_iff.1 hx).2
      have hy' := (List.getElem?_eq_some_iff.1 hy).2
      have hxs : small x = true := List.all_eq_true.1 hsm x (List.mem_of_getElem? hx)
      rw [drop_eq_of_lt hx hy] at hinv
      by_cases hxy : x = y
      · subst hxy
        delta p23_l0 p23_r4 p23_r5 p23_r6 p23_r7
        simp (disch := omega) [oLt, oLe, oLtN, oLeN, nLt, nLe, nLtN, nLeN, hic, hic2, h, hb, hx, hx', hy, hy', hxs, hlc]
        exact hN _ (i + 1) (by omega) ⟨h, by rw [hinv]; simp⟩ (.to [] (by simp))
      · have hne : ¬ a = b := fun e => hxy (hinv.1 e).1
        delta p23_l0 p23_r4 p23_r5 p23_r6 p23_r7
        simp (disch := omega) [oLt, oLe, oLtN, oLeN, nLt, nLe, nLtN, nLeN, hic, hic2, h, hb, hx, hx', hy, hy', hxy, hxs, hlc]
        exact hE _ _ _ .refl (hQ _ _ (.p (.inl rfl) (by simp [hne]) rfl))
    · obtain rfl : i = a.length := by omega
      have hic : ¬ (a.length : Int) < a.length := by omega
      have heq : a = b := hinv.2 (by rw [List.drop_eq_nil_of_le (Nat.le_refl _), List.drop_eq_nil_of_le (by omega)])
      delta p23_l0 p23_r4 p23_r5 p23_r6 p23_r7
      simp (disch := omega) [oLt, oLe, oLtN, oLeN, nLt, nLe, nLtN, nLeN, hic, hlc]
      refine hE _ _ _ .refl ?_
      delta p23_r8
      simp (disch := omega) [oLt, oLe, oLtN, oLeN, nLt, nLe, nLtN, nLeN]
      exact hQ _ _ (.p (.inl rfl) (by simp [heq]) rfl)
  · have hlc : ¬ (a.length : Int) = b.length := by omega
    have hne : ¬ a = b := fun e => hlen (by rw [e])
    simp (disch := omega) [oLt, oLe, oLtN, oLeN, nLt, nLe, nLtN, nLeN, hlc]
    exact hQ _ _ (.p (.inl rfl) (by simp [hne]) rfl)
end Go.Sx.Ch
