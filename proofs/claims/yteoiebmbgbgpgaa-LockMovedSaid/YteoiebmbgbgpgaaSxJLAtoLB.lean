/- What functions of the lock layer return: lists compared, an order checked, a list in order. No conditions. -/
import Derived.Test.YteoiebmbgbgpgaaSxJLG0toPLa
import Derived.Test.YteoiebmbgbgpgaaSxSt
set_option linter.unusedVariables false
set_option linter.unusedSimpArgs false
section
set_option maxRecDepth 4000
namespace Go.Sx
theorem drop_split {α : Type} {l : List α} {i : Nat} (h : i < l.length) : ∃ x r, l.drop i = x :: r ∧ l[i]? = some x ∧ l[i] = x ∧ l.drop (i + 1) = r ∧ x ∈ l :=
  ⟨l[i], l.drop (i + 1), List.drop_eq_getElem_cons h, by simp [h], rfl, rfl, List.getElem_mem h⟩
end Go.Sx
namespace Go.Sx.Lk
open Go Go.Sx Go.Proofs
abbrev vI (n : Int) : AV := .v (.int .i64 n)
abbrev vB (b : Bool) : AV := .v (.bool b)
def small (l : List Int) : Bool := decide (l.length ≤ 1000000)
set_option maxHeartbeats 2000000
theorem drop_eq_of_lt {α : Type} {a b : List α} {i : Nat} {x y : α} (hx : a[i]? = some x) (hy : b[i]? = some y) : (a.drop i = b.drop i) ↔ x = y ∧ a.drop (i + 1) = b.drop (i + 1) := by
  obtain ⟨h1, e1⟩ := List.getElem?_eq_some_iff.1 hx
  obtain ⟨h2, e2⟩ := List.getElem?_eq_some_iff.1 hy
  rw [List.drop_eq_getElem_cons h1, List.drop_eq_getElem_cons h2, e1, e2, List.cons.injEq]
def s22 : Sp := spT 22 [.l, .l] fun (a : List Int) (b : List Int) => res (small a) (vB (decide (a = b)))
@[simp] theorem s22_g : s22.g = 22 := rfl
@[simp] theorem s22_f : s22.f = (spT 22 [.l, .l] fun (a : List Int) (b : List Int) => res (small a) (vB (decide (a = b)))).f := rfl
theorem s22_ok : s22.ok Try.prog := by
  apply spT_ok
  simp only [OkT, Ty.all, List.nil_append, List.cons_append]
  intro (a : List Int) u (b : List Int) v
  apply okT_res; intro hg
  refine P22.rz (ss := []) trivial (by simp) fun Q hQ => ?_
  delta p22 p22_r0 p22_r1 p22_r2 p22_r3
  simp only [small, decide_eq_true_eq] at hg
  by_cases hlen : a.length = b.length
  · have hlc : (a.length : Int) = b.length := by omega
    simp (disch := omega) [oLt, oLe, oLtN, oLeN, nLt, nLe, nLtN, nLeN, hlc]
    refine XZ_for (fun i : Nat => ⟨[(0, .il (ints a) a.length u), (1, .il (ints b) b.length v), (5, vI i)], [], 0⟩) (fun i => a.length - i) (fun i => i ≤ a.length ∧ ((a = b) ↔ a.drop i = b.drop i)) 0 ⟨by simp, by simp⟩ (.to [] (by simp)) ?_
    rintro i ⟨hi, hinv⟩ N Q' hN hE
    rcases Nat.lt_or_ge i a.length with h | h
    · have hic : (i : Int) < a.length := by omega
      have hic2 : (i : Int) < b.length := by omega
      have hb : i < b.length := by omega
      obtain ⟨x, hx⟩ : ∃ x, a[i]? = some x := ⟨a[i], by rw [List.getElem?_eq_getElem h]⟩
      obtain ⟨y, hy⟩ : ∃ y, b[i]? = some y := ⟨b[i], by rw [List.getElem?_eq_getElem hb]⟩
      have hx' := (List.getElem?_eq_some_iff.1 hx).2
      have hy' := (List.getElem?_eq_some_iff.1 hy).2
      rw [drop_eq_of_lt hx hy] at hinv
      by_cases hxy : x = y
      · have hxy' : ¬ x ≠ y := fun h => h hxy
        delta p22_l0 p22_r4 p22_r5 p22_r6 p22_r7
        simp (disch := omega) [oLt, oLe, oLtN, oLeN, nLt, nLe, nLtN, nLeN, hic, hic2, h, hb, hx, hx', hy, hy', hxy]
        exact hN _ (i + 1) (by omega) ⟨h, by rw [hinv]; simp [hxy]⟩ (.to [] (by simp))
      · have hne : ¬ a = b := fun e => hxy (hinv.1 e).1
        delta p22_l0 p22_r4 p22_r5 p22_r6 p22_r7
        simp (disch := omega) [oLt, oLe, oLtN, oLeN, nLt, nLe, nLtN, nLeN, hic, hic2, h, hb, hx, hx', hy, hy', hxy]
        exact hE _ _ _ .refl (hQ _ _ (.p (.inl rfl) (by simp [hne]) rfl))
    · obtain rfl : i = a.length := by omega
      have hic : ¬ (a.length : Int) < a.length := by omega
      have heq : a = b := hinv.2 (by rw [List.drop_eq_nil_of_le (Nat.le_refl _), List.drop_eq_nil_of_le (by omega)])
      delta p22_l0 p22_r4 p22_r5 p22_r6 p22_r7
      simp (disch := omega) [oLt, oLe, oLtN, oLeN, nLt, nLe, nLtN, nLeN, hic, hlc]
      refine hE _ _ _ .refl ?_
      delta p22_r8
      simp (disch := omega) [oLt, oLe, oLtN, oLeN, nLt, nLe, nLtN, nLeN]
      exact hQ _ _ (.p (.inl rfl) (by simp [heq]) rfl)
  · have hlc : ¬ (a.length : Int) = b.length := by omega
    have hne : ¬ a = b := fun e => hlen (by rw [e])
    simp (disch := omega) [oLt, oLe, oLtN, oLeN, nLt, nLe, nLtN, nLeN, hlc]
    exact hQ _ _ (.p (.inl rfl) (by simp [hne]) rfl)
def s70 : Sp := spT 70 [.i, .i] fun (n : Int) (b : Int) => res true (vB (decide (0 ≤ n ∧ n < b)))
@[simp] theorem s70_g : s70.g = 70 := rfl
@[simp] theorem s70_f : s70.f = (spT 70 [.i, .i] fun (n : Int) (b : Int) => res true (vB (decide (0 ≤ n ∧ n < b)))).f := rfl
theorem s70_ok : s70.ok Try.prog := by
  apply spT_ok
  simp only [OkT, Ty.all, List.nil_append, List.cons_append]
  intro (n : Int) (b : Int)
  apply okT_res; intro _
  refine P70.rz (ss := []) trivial (by simp) fun Q hQ => ?_
  delta p70 p70_r0 p70_r1
  by_cases h : 0 ≤ n
  · by_cases h' : n < b
    · simp (disch := omega) [oLt, oLe, oLtN, oLeN, nLt, nLe, nLtN, nLeN, h, h']
      exact hQ _ _ (.p (.inl rfl) (by simp [h, h']) rfl)
    · simp (disch := omega) [oLt, oLe, oLtN, oLeN, nLt, nLe, nLtN, nLeN, h, h']
      exact hQ _ _ (.p (.inl rfl) (by simp [h, h']) rfl)
  · simp (disch := omega) [oLt, oLe, oLtN, oLeN, nLt, nLe, nLtN, nLeN, h]
    exact hQ _ _ (.p (.inl rfl) (by simp [h]) rfl)
def srtB (l : List Int) : Bool := (List.range (l.length - 1)).all fun j => decide (l.getD j 0 ≤ l.getD (j + 1) 0)
theorem srtB_iff (l : List Int) : srtB l = true ↔ ∀ j, j + 1 < l.length → l.getD j 0 ≤ l.getD (j + 1) 0 := by
  simp only [srtB, List.all_eq_true, List.mem_range, decide_eq_true_eq]
  exact ⟨fun h j hj => h j (by omega), fun h j hj => h j (by omega)⟩
end Go.Sx.Lk
end
section
set_option maxRecDepth 4000
namespace Go.Sx.Lk
open Go Go.Sx Go.Proofs
/-! ### The check of an order: 1: too few or too many, 2: no barge, 6: twice -/
def chkR (n : Nat) : List Int → List Bool → Int
  | [], _ => 0
  | x :: r, M => if 0 ≤ x ∧ x < n then (if M.getD x.toNat false then 6 else chkR n r (M.set x.toNat true)) else 2
def Fl7 : List Bool := [false, false, false, false, false, false, false]
def chkF (l : List Int) : Int := if l.length = 0 ∨ 7 < l.length then 1 else chkR l.length l Fl7
theorem bls7 : ([.v (.bool false), .v (.bool false), .v (.bool false), .v (.bool false), .v (.bool false), .v (.bool false), .v (.bool false)] : List AV) = bls Fl7 := rfl
set_option maxHeartbeats 4000000
def s23 : Sp := spT 23 [.l] fun (l : List Int) => res (small l) (vI (chkF l))
@[simp] theorem s23_g : s23.g = 23 := rfl
@[simp] theorem s23_f : s23.f = (spT 23 [.l] fun (l : List Int) => res (small l) (vI (chkF l))).f := rfl
theorem s23_ok : s23.ok Try.prog := by
  apply spT_ok
  simp only [OkT, Ty.all, List.nil_append, List.cons_append]
  intro (l : List Int) u
  apply okT_res; intro hg
  refine P23.rz (ss := [s70]) ⟨s70_ok, trivial⟩ (by simp) fun Q hQ => ?_
  delta p23 p23_r0 p23_r1 p23_r2 p23_r3 p23_r4
  simp only [small, decide_eq_true_eq] at hg
  by_cases h0 : l.length = 0
  · have h0' : (l.length : Int) = 0 := by omega
    have hr : chkF l = 1 := by simp [chkF, h0]
    simp (disch := omega) [oLt, oLe, oLtN, oLeN, nLt, nLe, nLtN, nLeN, h0']
    exact hQ _ _ (.p (.inl rfl) (by simp [hr]) rfl)
  by_cases h7 : 7 < l.length
  · have h0' : ¬ l = [] := fun e => h0 (by simp [e])
    have h7' : (7 : Int) < l.length := by omega
    have hr : chkF l = 1 := by simp [chkF, h7]
    simp (disch := omega) [oLt, oLe, oLtN, oLeN, nLt, nLe, nLtN, nLeN, h0', h7']
    exact hQ _ _ (.p (.inl rfl) (by simp [hr]) rfl)
  have h0' : ¬ l = [] := fun e => h0 (by simp [e])
  have h7' : ¬ (7 : Int) < l.length := by omega
  have hr0 : chkF l = chkR l.length l Fl7 := by simp [chkF, h0, h7]
  simp (disch := omega) [oLt, oLe, oLtN, oLeN, nLt, nLe, nLtN, nLeN, h0', h7', bls7]
  refine XZ_for (fun p : Nat × List Bool => ⟨[(0, .il (ints l) l.length u), (3, .ptr 0 0), (14, .il (ints l) l.length u), (15, vI l.length), (16, vI p.1)], [(0, .cells (bls p.2))], 1⟩) (fun p => l.length - p.1) (fun p => p.1 ≤ l.length ∧ p.2.length = 7 ∧ chkR l.length (l.drop p.1) p.2 = chkF l) (0, Fl7) ⟨by simp, rfl, by simp [hr0]⟩ (.to [9] (by simp)) ?_
  rintro ⟨i, M⟩ ⟨hi, hM, hinv⟩ N Q' hN hE
  simp only at hi hM hinv
  rcases Nat.lt_or_ge i l.length with h | h
  · have hic : (i : Int) < l.length := by omega
    obtain ⟨x, r, e1, e2, e3, e4, e5⟩ := drop_split h
    rw [e1] at hinv
    simp only [chkR] at hinv
    by_cases hx : 0 ≤ x ∧ x < l.length
    · rw [if_pos hx] at hinv
      obtain ⟨k, rfl⟩ := Int.eq_ofNat_of_zero_le hx.1
      have hk7 : k < M.length := by omega
      have hk7' : (k : Int) < 7 := by omega
      have hk : (k : Int) < l.length := hx.2
      obtain ⟨b, hb⟩ : ∃ b, M[k]? = some b := ⟨M[k], by rw [List.getElem?_eq_getElem hk7]⟩
      have hb' := (List.getElem?_eq_some_iff.1 hb).2
      have hg' : M.getD k false = b := by simp [List.getD_eq_getElem?_getD, hb]
      simp only [Int.toNat_natCast, hg'] at hinv
      cases b with
      | true =>
        rw [if_pos rfl] at hinv
        delta p23_l0 p23_r5 p23_r6 p23_r7 p23_r8 p23_r9 p23_r10 p23_r11 p23_r12
        simp (disch := omega) [oLt, oLe, oLtN, oLeN, nLt, nLe, nLtN, nLeN, hic, h, e2, e3, hk, hk7, hk7', hb, hb']
        exact hE _ _ _ .refl (hQ _ _ (.p (.inl rfl) (by simp [← hinv]) rfl))
      | false =>
        rw [if_neg (by simp)] at hinv
        delta p23_l0 p23_r5 p23_r6 p23_r7 p23_r8 p23_r9 p23_r10 p23_r11 p23_r12
        simp (disch := omega) [oLt, oLe, oLtN, oLeN, nLt, nLe, nLtN, nLeN, hic, h, e2, e3, hk, hk7, hk7', hb, hb']
        exact hN _ (i + 1, M.set k true) (by simp only; omega) ⟨h, by simpa using hM, by rw [e4]; exact hinv⟩ (.to [0] (by simp))
    · rw [if_neg hx] at hinv
      by_cases hx1 : 0 ≤ x
      · have hx2 : ¬ x < l.length := fun hh => hx ⟨hx1, hh⟩
        delta p23_l0 p23_r5 p23_r6 p23_r7 p23_r8 p23_r9 p23_r10 p23_r11 p23_r12
        simp (disch := omega) [oLt, oLe, oLtN, oLeN, nLt, nLe, nLtN, nLeN, hic, h, e2, e3, hx1, hx2]
        exact hE _ _ _ .refl (hQ _ _ (.p (.inl rfl) (by simp [← hinv]) rfl))
      · delta p23_l0 p23_r5 p23_r6 p23_r7 p23_r8 p23_r9 p23_r10 p23_r11 p23_r12
        simp (disch := omega) [oLt, oLe, oLtN, oLeN, nLt, nLe, nLtN, nLeN, hic, h, e2, e3, hx1]
        exact hE _ _ _ .refl (hQ _ _ (.p (.inl rfl) (by simp [← hinv]) rfl))
  · obtain rfl : i = l.length := by omega
    have hic : ¬ (l.length : Int) < l.length := by omega
    rw [List.drop_eq_nil_of_le (Nat.le_refl _)] at hinv
    simp only [chkR] at hinv
    delta p23_l0 p23_r5 p23_r6 p23_r7 p23_r8 p23_r9 p23_r10 p23_r11 p23_r12
    simp (disch := omega) [oLt, oLe, oLtN, oLeN, nLt, nLe, nLtN, nLeN, hic]
    refine hE _ _ _ .refl ?_
    delta p23_r13
    simp (disch := omega) [oLt, oLe, oLtN, oLeN, nLt, nLe, nLtN, nLeN]
    exact hQ _ _ (.p (.inl rfl) (by simp [← hinv]) rfl)
end Go.Sx.Lk
end
